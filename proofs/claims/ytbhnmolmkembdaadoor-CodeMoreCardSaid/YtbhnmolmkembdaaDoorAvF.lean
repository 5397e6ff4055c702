/- What the types and functions of this claim's program are, as rewriting wants it; written by a program of this session's own. No condition: closed facts. -/
import Derived.Test.YtbhnmolmkembdaaDoorAvE
import Derived.Test.YtbhnmolmkembdaaDoorProg
namespace Go.Proofs.YtbhnmolmkembdaaDoor
open Go
@[go_sem] theorem tf_size3 : sizeT Tryd.prog 3 = 1 := by kernel_rfl
@[go_sem] theorem tf_agg3 : aggT Tryd.prog 3 = false := by kernel_rfl
@[go_sem] theorem tf_known3 : knownT Tryd.prog 3 = true := by kernel_rfl
@[go_sem] theorem tf_bytes3 : bytesT Tryd.prog 3 = 8 := by kernel_rfl
@[go_sem] theorem tf_zero3 (K : List AV → Prop) : zeroCellsT Tryd.prog 3 K = K [.r (.v (.int .i64 0))] := by kernel_rfl
@[go_sem] theorem tf_zis3 : (zeroT Tryd.prog 3).isSome = true := by kernel_rfl
@[go_sem] theorem tf_int3 : intT Tryd.prog 3 = some .i64 := by kernel_rfl
@[go_sem] theorem tf_flo3 : floatT Tryd.prog 3 = none := by kernel_rfl
@[go_sem] theorem tf_sl3 : sliceT Tryd.prog 3 = false := by kernel_rfl
@[go_sem] theorem tf_str3 : stringT Tryd.prog 3 = false := by kernel_rfl
@[go_sem] theorem tf_bool3 : boolT Tryd.prog 3 = false := by kernel_rfl
@[go_sem] theorem tf_ptr3 : ptrT Tryd.prog 3 = false := by kernel_rfl
@[go_sem] theorem tf_zval3 : zeroT Tryd.prog 3 = some (.int .i64 0) := by kernel_rfl
@[go_sem] theorem tf_elem3 : elemT Tryd.prog 3 = none := by kernel_rfl
@[go_sem] theorem tf_size4 : sizeT Tryd.prog 4 = 1 := by kernel_rfl
@[go_sem] theorem tf_agg4 : aggT Tryd.prog 4 = false := by kernel_rfl
@[go_sem] theorem tf_known4 : knownT Tryd.prog 4 = true := by kernel_rfl
@[go_sem] theorem tf_bytes4 : bytesT Tryd.prog 4 = 1 := by kernel_rfl
@[go_sem] theorem tf_zero4 (K : List AV → Prop) : zeroCellsT Tryd.prog 4 K = K [.r (.v (.bool false))] := by kernel_rfl
@[go_sem] theorem tf_zis4 : (zeroT Tryd.prog 4).isSome = true := by kernel_rfl
@[go_sem] theorem tf_int4 : intT Tryd.prog 4 = none := by kernel_rfl
@[go_sem] theorem tf_flo4 : floatT Tryd.prog 4 = none := by kernel_rfl
@[go_sem] theorem tf_sl4 : sliceT Tryd.prog 4 = false := by kernel_rfl
@[go_sem] theorem tf_str4 : stringT Tryd.prog 4 = false := by kernel_rfl
@[go_sem] theorem tf_bool4 : boolT Tryd.prog 4 = true := by kernel_rfl
@[go_sem] theorem tf_ptr4 : ptrT Tryd.prog 4 = false := by kernel_rfl
@[go_sem] theorem tf_zval4 : zeroT Tryd.prog 4 = some (.bool false) := by kernel_rfl
@[go_sem] theorem tf_elem4 : elemT Tryd.prog 4 = none := by kernel_rfl
@[go_sem] theorem tf_size5 : sizeT Tryd.prog 5 = 1 := by kernel_rfl
@[go_sem] theorem tf_agg5 : aggT Tryd.prog 5 = false := by kernel_rfl
@[go_sem] theorem tf_known5 : knownT Tryd.prog 5 = true := by kernel_rfl
@[go_sem] theorem tf_bytes5 : bytesT Tryd.prog 5 = 1 := by kernel_rfl
@[go_sem] theorem tf_zero5 (K : List AV → Prop) : zeroCellsT Tryd.prog 5 K = K [.r (.v (.int .u8 0))] := by kernel_rfl
@[go_sem] theorem tf_zis5 : (zeroT Tryd.prog 5).isSome = true := by kernel_rfl
@[go_sem] theorem tf_int5 : intT Tryd.prog 5 = some .u8 := by kernel_rfl
@[go_sem] theorem tf_flo5 : floatT Tryd.prog 5 = none := by kernel_rfl
@[go_sem] theorem tf_sl5 : sliceT Tryd.prog 5 = false := by kernel_rfl
@[go_sem] theorem tf_str5 : stringT Tryd.prog 5 = false := by kernel_rfl
@[go_sem] theorem tf_bool5 : boolT Tryd.prog 5 = false := by kernel_rfl
@[go_sem] theorem tf_ptr5 : ptrT Tryd.prog 5 = false := by kernel_rfl
@[go_sem] theorem tf_zval5 : zeroT Tryd.prog 5 = some (.int .u8 0) := by kernel_rfl
@[go_sem] theorem tf_elem5 : elemT Tryd.prog 5 = none := by kernel_rfl
@[go_sem] theorem tf_size9 : sizeT Tryd.prog 9 = 1 := by kernel_rfl
@[go_sem] theorem tf_agg9 : aggT Tryd.prog 9 = false := by kernel_rfl
@[go_sem] theorem tf_known9 : knownT Tryd.prog 9 = true := by kernel_rfl
@[go_sem] theorem tf_bytes9 : bytesT Tryd.prog 9 = 16 := by kernel_rfl
@[go_sem] theorem tf_zero9 (K : List AV → Prop) : zeroCellsT Tryd.prog 9 K = K [.r (.v (.string ⟨#[]⟩))] := by kernel_rfl
@[go_sem] theorem tf_zis9 : (zeroT Tryd.prog 9).isSome = true := by kernel_rfl
@[go_sem] theorem tf_int9 : intT Tryd.prog 9 = none := by kernel_rfl
@[go_sem] theorem tf_flo9 : floatT Tryd.prog 9 = none := by kernel_rfl
@[go_sem] theorem tf_sl9 : sliceT Tryd.prog 9 = false := by kernel_rfl
@[go_sem] theorem tf_str9 : stringT Tryd.prog 9 = true := by kernel_rfl
@[go_sem] theorem tf_bool9 : boolT Tryd.prog 9 = false := by kernel_rfl
@[go_sem] theorem tf_ptr9 : ptrT Tryd.prog 9 = false := by kernel_rfl
@[go_sem] theorem tf_zval9 : zeroT Tryd.prog 9 = some (.string ⟨#[]⟩) := by kernel_rfl
@[go_sem] theorem tf_elem9 : elemT Tryd.prog 9 = none := by kernel_rfl
@[go_sem] theorem tf_size21 : sizeT Tryd.prog 21 = 1 := by kernel_rfl
@[go_sem] theorem tf_agg21 : aggT Tryd.prog 21 = false := by kernel_rfl
@[go_sem] theorem tf_known21 : knownT Tryd.prog 21 = true := by kernel_rfl
@[go_sem] theorem tf_bytes21 : bytesT Tryd.prog 21 = 4 := by kernel_rfl
@[go_sem] theorem tf_zero21 (K : List AV → Prop) : zeroCellsT Tryd.prog 21 K = K [.r (.v (.int .i32 0))] := by kernel_rfl
@[go_sem] theorem tf_zis21 : (zeroT Tryd.prog 21).isSome = true := by kernel_rfl
@[go_sem] theorem tf_int21 : intT Tryd.prog 21 = some .i32 := by kernel_rfl
@[go_sem] theorem tf_flo21 : floatT Tryd.prog 21 = none := by kernel_rfl
@[go_sem] theorem tf_sl21 : sliceT Tryd.prog 21 = false := by kernel_rfl
@[go_sem] theorem tf_str21 : stringT Tryd.prog 21 = false := by kernel_rfl
@[go_sem] theorem tf_bool21 : boolT Tryd.prog 21 = false := by kernel_rfl
@[go_sem] theorem tf_ptr21 : ptrT Tryd.prog 21 = false := by kernel_rfl
@[go_sem] theorem tf_zval21 : zeroT Tryd.prog 21 = some (.int .i32 0) := by kernel_rfl
@[go_sem] theorem tf_elem21 : elemT Tryd.prog 21 = none := by kernel_rfl
@[go_sem] theorem tf_size22 : sizeT Tryd.prog 22 = 1 := by kernel_rfl
@[go_sem] theorem tf_agg22 : aggT Tryd.prog 22 = false := by kernel_rfl
@[go_sem] theorem tf_known22 : knownT Tryd.prog 22 = true := by kernel_rfl
@[go_sem] theorem tf_bytes22 : bytesT Tryd.prog 22 = 24 := by kernel_rfl
@[go_sem] theorem tf_zero22 (K : List AV → Prop) : zeroCellsT Tryd.prog 22 K = K [.r (.v (.slice none 0 0))] := by kernel_rfl
@[go_sem] theorem tf_zis22 : (zeroT Tryd.prog 22).isSome = true := by kernel_rfl
@[go_sem] theorem tf_int22 : intT Tryd.prog 22 = none := by kernel_rfl
@[go_sem] theorem tf_flo22 : floatT Tryd.prog 22 = none := by kernel_rfl
@[go_sem] theorem tf_sl22 : sliceT Tryd.prog 22 = true := by kernel_rfl
@[go_sem] theorem tf_str22 : stringT Tryd.prog 22 = false := by kernel_rfl
@[go_sem] theorem tf_bool22 : boolT Tryd.prog 22 = false := by kernel_rfl
@[go_sem] theorem tf_ptr22 : ptrT Tryd.prog 22 = false := by kernel_rfl
@[go_sem] theorem tf_zval22 : zeroT Tryd.prog 22 = some (.slice none 0 0) := by kernel_rfl
@[go_sem] theorem tf_elem22 : elemT Tryd.prog 22 = some 33 := by kernel_rfl
@[go_sem] theorem tf_size23 : sizeT Tryd.prog 23 = 1 := by kernel_rfl
@[go_sem] theorem tf_agg23 : aggT Tryd.prog 23 = false := by kernel_rfl
@[go_sem] theorem tf_known23 : knownT Tryd.prog 23 = true := by kernel_rfl
@[go_sem] theorem tf_bytes23 : bytesT Tryd.prog 23 = 24 := by kernel_rfl
@[go_sem] theorem tf_zero23 (K : List AV → Prop) : zeroCellsT Tryd.prog 23 K = K [.r (.v (.slice none 0 0))] := by kernel_rfl
@[go_sem] theorem tf_zis23 : (zeroT Tryd.prog 23).isSome = true := by kernel_rfl
@[go_sem] theorem tf_int23 : intT Tryd.prog 23 = none := by kernel_rfl
@[go_sem] theorem tf_flo23 : floatT Tryd.prog 23 = none := by kernel_rfl
@[go_sem] theorem tf_sl23 : sliceT Tryd.prog 23 = true := by kernel_rfl
@[go_sem] theorem tf_str23 : stringT Tryd.prog 23 = false := by kernel_rfl
@[go_sem] theorem tf_bool23 : boolT Tryd.prog 23 = false := by kernel_rfl
@[go_sem] theorem tf_ptr23 : ptrT Tryd.prog 23 = false := by kernel_rfl
@[go_sem] theorem tf_zval23 : zeroT Tryd.prog 23 = some (.slice none 0 0) := by kernel_rfl
@[go_sem] theorem tf_elem23 : elemT Tryd.prog 23 = some 38 := by kernel_rfl
@[go_sem] theorem tf_size24 : sizeT Tryd.prog 24 = 1 := by kernel_rfl
@[go_sem] theorem tf_agg24 : aggT Tryd.prog 24 = false := by kernel_rfl
@[go_sem] theorem tf_known24 : knownT Tryd.prog 24 = true := by kernel_rfl
@[go_sem] theorem tf_bytes24 : bytesT Tryd.prog 24 = 24 := by kernel_rfl
@[go_sem] theorem tf_zero24 (K : List AV → Prop) : zeroCellsT Tryd.prog 24 K = K [.r (.v (.slice none 0 0))] := by kernel_rfl
@[go_sem] theorem tf_zis24 : (zeroT Tryd.prog 24).isSome = true := by kernel_rfl
@[go_sem] theorem tf_int24 : intT Tryd.prog 24 = none := by kernel_rfl
@[go_sem] theorem tf_flo24 : floatT Tryd.prog 24 = none := by kernel_rfl
@[go_sem] theorem tf_sl24 : sliceT Tryd.prog 24 = true := by kernel_rfl
@[go_sem] theorem tf_str24 : stringT Tryd.prog 24 = false := by kernel_rfl
@[go_sem] theorem tf_bool24 : boolT Tryd.prog 24 = false := by kernel_rfl
@[go_sem] theorem tf_ptr24 : ptrT Tryd.prog 24 = false := by kernel_rfl
@[go_sem] theorem tf_zval24 : zeroT Tryd.prog 24 = some (.slice none 0 0) := by kernel_rfl
@[go_sem] theorem tf_elem24 : elemT Tryd.prog 24 = some 9 := by kernel_rfl
@[go_sem] theorem tf_size26 : sizeT Tryd.prog 26 = 3 := by kernel_rfl
@[go_sem] theorem tf_agg26 : aggT Tryd.prog 26 = true := by kernel_rfl
@[go_sem] theorem tf_known26 : knownT Tryd.prog 26 = true := by kernel_rfl
@[go_sem] theorem tf_bytes26 : bytesT Tryd.prog 26 = 72 := by kernel_rfl
@[go_sem] theorem tf_zero26 (K : List AV → Prop) : zeroCellsT Tryd.prog 26 K = K [.r (.v (.slice none 0 0)), .r (.v (.slice none 0 0)), .r (.v (.slice none 0 0))] := by kernel_rfl
@[go_sem] theorem tf_zis26 : (zeroT Tryd.prog 26).isSome = true := by kernel_rfl
@[go_sem] theorem tf_int26 : intT Tryd.prog 26 = none := by kernel_rfl
@[go_sem] theorem tf_flo26 : floatT Tryd.prog 26 = none := by kernel_rfl
@[go_sem] theorem tf_sl26 : sliceT Tryd.prog 26 = false := by kernel_rfl
@[go_sem] theorem tf_str26 : stringT Tryd.prog 26 = false := by kernel_rfl
@[go_sem] theorem tf_bool26 : boolT Tryd.prog 26 = false := by kernel_rfl
@[go_sem] theorem tf_ptr26 : ptrT Tryd.prog 26 = false := by kernel_rfl
@[go_sem] theorem tf_elem26 : elemT Tryd.prog 26 = none := by kernel_rfl
@[go_sem] theorem tf_struct26 : structT Tryd.prog 26 = true := by kernel_rfl
@[go_sem] theorem tf_bld26 : buildT Tryd.prog 26 = true := by kernel_rfl
@[go_sem] theorem tf_eqg26 : Tryd.prog.eqGuardType Tryd.prog.depth 26 = false := by kernel_rfl
@[go_sem] theorem tf_f26_0 : fieldT Tryd.prog 26 0 = some (0, 1) := by kernel_rfl
@[go_sem] theorem tf_part26_0 : partT Tryd.prog 26 0 = some (0, 1) := by kernel_rfl
@[go_sem] theorem tf_f26_1 : fieldT Tryd.prog 26 1 = some (1, 1) := by kernel_rfl
@[go_sem] theorem tf_part26_1 : partT Tryd.prog 26 1 = some (1, 1) := by kernel_rfl
@[go_sem] theorem tf_f26_2 : fieldT Tryd.prog 26 2 = some (2, 1) := by kernel_rfl
@[go_sem] theorem tf_part26_2 : partT Tryd.prog 26 2 = some (2, 1) := by kernel_rfl
@[go_sem] theorem tf_size27 : sizeT Tryd.prog 27 = 1 := by kernel_rfl
@[go_sem] theorem tf_agg27 : aggT Tryd.prog 27 = false := by kernel_rfl
@[go_sem] theorem tf_known27 : knownT Tryd.prog 27 = true := by kernel_rfl
@[go_sem] theorem tf_bytes27 : bytesT Tryd.prog 27 = 8 := by kernel_rfl
@[go_sem] theorem tf_zero27 (K : List AV → Prop) : zeroCellsT Tryd.prog 27 K = K [.r (.v (.int .i64 0))] := by kernel_rfl
@[go_sem] theorem tf_zis27 : (zeroT Tryd.prog 27).isSome = true := by kernel_rfl
@[go_sem] theorem tf_int27 : intT Tryd.prog 27 = some .i64 := by kernel_rfl
@[go_sem] theorem tf_flo27 : floatT Tryd.prog 27 = none := by kernel_rfl
@[go_sem] theorem tf_sl27 : sliceT Tryd.prog 27 = false := by kernel_rfl
@[go_sem] theorem tf_str27 : stringT Tryd.prog 27 = false := by kernel_rfl
@[go_sem] theorem tf_bool27 : boolT Tryd.prog 27 = false := by kernel_rfl
@[go_sem] theorem tf_ptr27 : ptrT Tryd.prog 27 = false := by kernel_rfl
@[go_sem] theorem tf_zval27 : zeroT Tryd.prog 27 = some (.int .i64 0) := by kernel_rfl
@[go_sem] theorem tf_elem27 : elemT Tryd.prog 27 = none := by kernel_rfl
@[go_sem] theorem tf_size30 : sizeT Tryd.prog 30 = 1 := by kernel_rfl
@[go_sem] theorem tf_agg30 : aggT Tryd.prog 30 = false := by kernel_rfl
@[go_sem] theorem tf_known30 : knownT Tryd.prog 30 = true := by kernel_rfl
@[go_sem] theorem tf_bytes30 : bytesT Tryd.prog 30 = 24 := by kernel_rfl
@[go_sem] theorem tf_zero30 (K : List AV → Prop) : zeroCellsT Tryd.prog 30 K = K [.r (.v (.slice none 0 0))] := by kernel_rfl
@[go_sem] theorem tf_zis30 : (zeroT Tryd.prog 30).isSome = true := by kernel_rfl
@[go_sem] theorem tf_int30 : intT Tryd.prog 30 = none := by kernel_rfl
@[go_sem] theorem tf_flo30 : floatT Tryd.prog 30 = none := by kernel_rfl
@[go_sem] theorem tf_sl30 : sliceT Tryd.prog 30 = true := by kernel_rfl
@[go_sem] theorem tf_str30 : stringT Tryd.prog 30 = false := by kernel_rfl
@[go_sem] theorem tf_bool30 : boolT Tryd.prog 30 = false := by kernel_rfl
@[go_sem] theorem tf_ptr30 : ptrT Tryd.prog 30 = false := by kernel_rfl
@[go_sem] theorem tf_zval30 : zeroT Tryd.prog 30 = some (.slice none 0 0) := by kernel_rfl
@[go_sem] theorem tf_elem30 : elemT Tryd.prog 30 = some 3 := by kernel_rfl
@[go_sem] theorem tf_size31 : sizeT Tryd.prog 31 = 1 := by kernel_rfl
@[go_sem] theorem tf_agg31 : aggT Tryd.prog 31 = false := by kernel_rfl
@[go_sem] theorem tf_known31 : knownT Tryd.prog 31 = true := by kernel_rfl
@[go_sem] theorem tf_bytes31 : bytesT Tryd.prog 31 = 24 := by kernel_rfl
@[go_sem] theorem tf_zero31 (K : List AV → Prop) : zeroCellsT Tryd.prog 31 K = K [.r (.v (.slice none 0 0))] := by kernel_rfl
@[go_sem] theorem tf_zis31 : (zeroT Tryd.prog 31).isSome = true := by kernel_rfl
@[go_sem] theorem tf_int31 : intT Tryd.prog 31 = none := by kernel_rfl
@[go_sem] theorem tf_flo31 : floatT Tryd.prog 31 = none := by kernel_rfl
@[go_sem] theorem tf_sl31 : sliceT Tryd.prog 31 = true := by kernel_rfl
@[go_sem] theorem tf_str31 : stringT Tryd.prog 31 = false := by kernel_rfl
@[go_sem] theorem tf_bool31 : boolT Tryd.prog 31 = false := by kernel_rfl
@[go_sem] theorem tf_ptr31 : ptrT Tryd.prog 31 = false := by kernel_rfl
@[go_sem] theorem tf_zval31 : zeroT Tryd.prog 31 = some (.slice none 0 0) := by kernel_rfl
@[go_sem] theorem tf_elem31 : elemT Tryd.prog 31 = some 42 := by kernel_rfl
@[go_sem] theorem tf_size33 : sizeT Tryd.prog 33 = 5 := by kernel_rfl
@[go_sem] theorem tf_agg33 : aggT Tryd.prog 33 = true := by kernel_rfl
@[go_sem] theorem tf_known33 : knownT Tryd.prog 33 = true := by kernel_rfl
@[go_sem] theorem tf_bytes33 : bytesT Tryd.prog 33 = 72 := by kernel_rfl
@[go_sem] theorem tf_zero33 (K : List AV → Prop) : zeroCellsT Tryd.prog 33 K = K [.r (.v (.int .i64 0)), .r (.v (.int .i64 0)), .r (.v (.bool false)), .r (.v (.slice none 0 0)), .r (.v (.slice none 0 0))] := by kernel_rfl
@[go_sem] theorem tf_zis33 : (zeroT Tryd.prog 33).isSome = true := by kernel_rfl
@[go_sem] theorem tf_int33 : intT Tryd.prog 33 = none := by kernel_rfl
@[go_sem] theorem tf_flo33 : floatT Tryd.prog 33 = none := by kernel_rfl
@[go_sem] theorem tf_sl33 : sliceT Tryd.prog 33 = false := by kernel_rfl
@[go_sem] theorem tf_str33 : stringT Tryd.prog 33 = false := by kernel_rfl
@[go_sem] theorem tf_bool33 : boolT Tryd.prog 33 = false := by kernel_rfl
@[go_sem] theorem tf_ptr33 : ptrT Tryd.prog 33 = false := by kernel_rfl
@[go_sem] theorem tf_elem33 : elemT Tryd.prog 33 = none := by kernel_rfl
@[go_sem] theorem tf_struct33 : structT Tryd.prog 33 = true := by kernel_rfl
@[go_sem] theorem tf_bld33 : buildT Tryd.prog 33 = true := by kernel_rfl
@[go_sem] theorem tf_eqg33 : Tryd.prog.eqGuardType Tryd.prog.depth 33 = false := by kernel_rfl
@[go_sem] theorem tf_f33_0 : fieldT Tryd.prog 33 0 = some (0, 1) := by kernel_rfl
@[go_sem] theorem tf_part33_0 : partT Tryd.prog 33 0 = some (0, 1) := by kernel_rfl
@[go_sem] theorem tf_f33_1 : fieldT Tryd.prog 33 1 = some (1, 1) := by kernel_rfl
@[go_sem] theorem tf_part33_1 : partT Tryd.prog 33 1 = some (1, 1) := by kernel_rfl
@[go_sem] theorem tf_f33_2 : fieldT Tryd.prog 33 2 = some (2, 1) := by kernel_rfl
@[go_sem] theorem tf_part33_2 : partT Tryd.prog 33 2 = some (2, 1) := by kernel_rfl
@[go_sem] theorem tf_f33_3 : fieldT Tryd.prog 33 3 = some (3, 1) := by kernel_rfl
@[go_sem] theorem tf_part33_3 : partT Tryd.prog 33 3 = some (3, 1) := by kernel_rfl
@[go_sem] theorem tf_f33_4 : fieldT Tryd.prog 33 4 = some (4, 1) := by kernel_rfl
@[go_sem] theorem tf_part33_4 : partT Tryd.prog 33 4 = some (4, 1) := by kernel_rfl
@[go_sem] theorem tf_size35 : sizeT Tryd.prog 35 = 1 := by kernel_rfl
@[go_sem] theorem tf_agg35 : aggT Tryd.prog 35 = false := by kernel_rfl
@[go_sem] theorem tf_known35 : knownT Tryd.prog 35 = true := by kernel_rfl
@[go_sem] theorem tf_bytes35 : bytesT Tryd.prog 35 = 8 := by kernel_rfl
@[go_sem] theorem tf_zero35 (K : List AV → Prop) : zeroCellsT Tryd.prog 35 K = K [.r (.v (.int .u64 0))] := by kernel_rfl
@[go_sem] theorem tf_zis35 : (zeroT Tryd.prog 35).isSome = true := by kernel_rfl
@[go_sem] theorem tf_int35 : intT Tryd.prog 35 = some .u64 := by kernel_rfl
@[go_sem] theorem tf_flo35 : floatT Tryd.prog 35 = none := by kernel_rfl
@[go_sem] theorem tf_sl35 : sliceT Tryd.prog 35 = false := by kernel_rfl
@[go_sem] theorem tf_str35 : stringT Tryd.prog 35 = false := by kernel_rfl
@[go_sem] theorem tf_bool35 : boolT Tryd.prog 35 = false := by kernel_rfl
@[go_sem] theorem tf_ptr35 : ptrT Tryd.prog 35 = false := by kernel_rfl
@[go_sem] theorem tf_zval35 : zeroT Tryd.prog 35 = some (.int .u64 0) := by kernel_rfl
@[go_sem] theorem tf_elem35 : elemT Tryd.prog 35 = none := by kernel_rfl
@[go_sem] theorem tf_size38 : sizeT Tryd.prog 38 = 2 := by kernel_rfl
@[go_sem] theorem tf_agg38 : aggT Tryd.prog 38 = true := by kernel_rfl
@[go_sem] theorem tf_known38 : knownT Tryd.prog 38 = true := by kernel_rfl
@[go_sem] theorem tf_bytes38 : bytesT Tryd.prog 38 = 16 := by kernel_rfl
@[go_sem] theorem tf_zero38 (K : List AV → Prop) : zeroCellsT Tryd.prog 38 K = K [.r (.v (.int .i64 0)), .r (.v (.int .i64 0))] := by kernel_rfl
@[go_sem] theorem tf_zis38 : (zeroT Tryd.prog 38).isSome = true := by kernel_rfl
@[go_sem] theorem tf_int38 : intT Tryd.prog 38 = none := by kernel_rfl
@[go_sem] theorem tf_flo38 : floatT Tryd.prog 38 = none := by kernel_rfl
@[go_sem] theorem tf_sl38 : sliceT Tryd.prog 38 = false := by kernel_rfl
@[go_sem] theorem tf_str38 : stringT Tryd.prog 38 = false := by kernel_rfl
@[go_sem] theorem tf_bool38 : boolT Tryd.prog 38 = false := by kernel_rfl
@[go_sem] theorem tf_ptr38 : ptrT Tryd.prog 38 = false := by kernel_rfl
@[go_sem] theorem tf_elem38 : elemT Tryd.prog 38 = none := by kernel_rfl
@[go_sem] theorem tf_struct38 : structT Tryd.prog 38 = true := by kernel_rfl
@[go_sem] theorem tf_bld38 : buildT Tryd.prog 38 = true := by kernel_rfl
@[go_sem] theorem tf_eqg38 : Tryd.prog.eqGuardType Tryd.prog.depth 38 = false := by kernel_rfl
@[go_sem] theorem tf_f38_0 : fieldT Tryd.prog 38 0 = some (0, 1) := by kernel_rfl
@[go_sem] theorem tf_part38_0 : partT Tryd.prog 38 0 = some (0, 1) := by kernel_rfl
@[go_sem] theorem tf_f38_1 : fieldT Tryd.prog 38 1 = some (1, 1) := by kernel_rfl
@[go_sem] theorem tf_part38_1 : partT Tryd.prog 38 1 = some (1, 1) := by kernel_rfl
@[go_sem] theorem tf_kinds38 : kindsT Tryd.prog 8 38 = some [0, 0] := by kernel_rfl
@[go_sem] theorem tf_size42 : sizeT Tryd.prog 42 = 5 := by kernel_rfl
@[go_sem] theorem tf_agg42 : aggT Tryd.prog 42 = true := by kernel_rfl
@[go_sem] theorem tf_known42 : knownT Tryd.prog 42 = true := by kernel_rfl
@[go_sem] theorem tf_bytes42 : bytesT Tryd.prog 42 = 40 := by kernel_rfl
@[go_sem] theorem tf_zero42 (K : List AV → Prop) : zeroCellsT Tryd.prog 42 K = K [.r (.v (.int .i64 0)), .r (.v (.int .i64 0)), .r (.v (.int .i64 0)), .r (.v (.int .i64 0)), .r (.v (.int .i64 0))] := by kernel_rfl
@[go_sem] theorem tf_zis42 : (zeroT Tryd.prog 42).isSome = true := by kernel_rfl
@[go_sem] theorem tf_int42 : intT Tryd.prog 42 = none := by kernel_rfl
@[go_sem] theorem tf_flo42 : floatT Tryd.prog 42 = none := by kernel_rfl
@[go_sem] theorem tf_sl42 : sliceT Tryd.prog 42 = false := by kernel_rfl
@[go_sem] theorem tf_str42 : stringT Tryd.prog 42 = false := by kernel_rfl
@[go_sem] theorem tf_bool42 : boolT Tryd.prog 42 = false := by kernel_rfl
@[go_sem] theorem tf_ptr42 : ptrT Tryd.prog 42 = false := by kernel_rfl
@[go_sem] theorem tf_elem42 : elemT Tryd.prog 42 = none := by kernel_rfl
@[go_sem] theorem tf_struct42 : structT Tryd.prog 42 = true := by kernel_rfl
@[go_sem] theorem tf_bld42 : buildT Tryd.prog 42 = true := by kernel_rfl
@[go_sem] theorem tf_eqg42 : Tryd.prog.eqGuardType Tryd.prog.depth 42 = false := by kernel_rfl
@[go_sem] theorem tf_f42_0 : fieldT Tryd.prog 42 0 = some (0, 1) := by kernel_rfl
@[go_sem] theorem tf_part42_0 : partT Tryd.prog 42 0 = some (0, 1) := by kernel_rfl
@[go_sem] theorem tf_f42_1 : fieldT Tryd.prog 42 1 = some (1, 1) := by kernel_rfl
@[go_sem] theorem tf_part42_1 : partT Tryd.prog 42 1 = some (1, 1) := by kernel_rfl
@[go_sem] theorem tf_f42_2 : fieldT Tryd.prog 42 2 = some (2, 1) := by kernel_rfl
@[go_sem] theorem tf_part42_2 : partT Tryd.prog 42 2 = some (2, 1) := by kernel_rfl
@[go_sem] theorem tf_f42_3 : fieldT Tryd.prog 42 3 = some (3, 1) := by kernel_rfl
@[go_sem] theorem tf_part42_3 : partT Tryd.prog 42 3 = some (3, 1) := by kernel_rfl
@[go_sem] theorem tf_f42_4 : fieldT Tryd.prog 42 4 = some (4, 1) := by kernel_rfl
@[go_sem] theorem tf_part42_4 : partT Tryd.prog 42 4 = some (4, 1) := by kernel_rfl
@[go_sem] theorem tf_kinds42 : kindsT Tryd.prog 8 42 = some [0, 0, 0, 0, 0] := by kernel_rfl
@[go_sem] theorem tf_size49 : sizeT Tryd.prog 49 = 1 := by kernel_rfl
@[go_sem] theorem tf_agg49 : aggT Tryd.prog 49 = false := by kernel_rfl
@[go_sem] theorem tf_known49 : knownT Tryd.prog 49 = true := by kernel_rfl
@[go_sem] theorem tf_bytes49 : bytesT Tryd.prog 49 = 24 := by kernel_rfl
@[go_sem] theorem tf_zero49 (K : List AV → Prop) : zeroCellsT Tryd.prog 49 K = K [.r (.v (.slice none 0 0))] := by kernel_rfl
@[go_sem] theorem tf_zis49 : (zeroT Tryd.prog 49).isSome = true := by kernel_rfl
@[go_sem] theorem tf_int49 : intT Tryd.prog 49 = none := by kernel_rfl
@[go_sem] theorem tf_flo49 : floatT Tryd.prog 49 = none := by kernel_rfl
@[go_sem] theorem tf_sl49 : sliceT Tryd.prog 49 = true := by kernel_rfl
@[go_sem] theorem tf_str49 : stringT Tryd.prog 49 = false := by kernel_rfl
@[go_sem] theorem tf_bool49 : boolT Tryd.prog 49 = false := by kernel_rfl
@[go_sem] theorem tf_ptr49 : ptrT Tryd.prog 49 = false := by kernel_rfl
@[go_sem] theorem tf_zval49 : zeroT Tryd.prog 49 = some (.slice none 0 0) := by kernel_rfl
@[go_sem] theorem tf_elem49 : elemT Tryd.prog 49 = some 56 := by kernel_rfl
@[go_sem] theorem tf_size50 : sizeT Tryd.prog 50 = 1 := by kernel_rfl
@[go_sem] theorem tf_agg50 : aggT Tryd.prog 50 = false := by kernel_rfl
@[go_sem] theorem tf_known50 : knownT Tryd.prog 50 = true := by kernel_rfl
@[go_sem] theorem tf_bytes50 : bytesT Tryd.prog 50 = 24 := by kernel_rfl
@[go_sem] theorem tf_zero50 (K : List AV → Prop) : zeroCellsT Tryd.prog 50 K = K [.r (.v (.slice none 0 0))] := by kernel_rfl
@[go_sem] theorem tf_zis50 : (zeroT Tryd.prog 50).isSome = true := by kernel_rfl
@[go_sem] theorem tf_int50 : intT Tryd.prog 50 = none := by kernel_rfl
@[go_sem] theorem tf_flo50 : floatT Tryd.prog 50 = none := by kernel_rfl
@[go_sem] theorem tf_sl50 : sliceT Tryd.prog 50 = true := by kernel_rfl
@[go_sem] theorem tf_str50 : stringT Tryd.prog 50 = false := by kernel_rfl
@[go_sem] theorem tf_bool50 : boolT Tryd.prog 50 = false := by kernel_rfl
@[go_sem] theorem tf_ptr50 : ptrT Tryd.prog 50 = false := by kernel_rfl
@[go_sem] theorem tf_zval50 : zeroT Tryd.prog 50 = some (.slice none 0 0) := by kernel_rfl
@[go_sem] theorem tf_elem50 : elemT Tryd.prog 50 = some 4 := by kernel_rfl
@[go_sem] theorem tf_size56 : sizeT Tryd.prog 56 = 1 := by kernel_rfl
@[go_sem] theorem tf_agg56 : aggT Tryd.prog 56 = false := by kernel_rfl
@[go_sem] theorem tf_known56 : knownT Tryd.prog 56 = true := by kernel_rfl
@[go_sem] theorem tf_bytes56 : bytesT Tryd.prog 56 = 24 := by kernel_rfl
@[go_sem] theorem tf_zero56 (K : List AV → Prop) : zeroCellsT Tryd.prog 56 K = K [.r (.v (.slice none 0 0))] := by kernel_rfl
@[go_sem] theorem tf_zis56 : (zeroT Tryd.prog 56).isSome = true := by kernel_rfl
@[go_sem] theorem tf_int56 : intT Tryd.prog 56 = none := by kernel_rfl
@[go_sem] theorem tf_flo56 : floatT Tryd.prog 56 = none := by kernel_rfl
@[go_sem] theorem tf_sl56 : sliceT Tryd.prog 56 = true := by kernel_rfl
@[go_sem] theorem tf_str56 : stringT Tryd.prog 56 = false := by kernel_rfl
@[go_sem] theorem tf_bool56 : boolT Tryd.prog 56 = false := by kernel_rfl
@[go_sem] theorem tf_ptr56 : ptrT Tryd.prog 56 = false := by kernel_rfl
@[go_sem] theorem tf_zval56 : zeroT Tryd.prog 56 = some (.slice none 0 0) := by kernel_rfl
@[go_sem] theorem tf_elem56 : elemT Tryd.prog 56 = some 58 := by kernel_rfl
@[go_sem] theorem tf_size58 : sizeT Tryd.prog 58 = 2 := by kernel_rfl
@[go_sem] theorem tf_agg58 : aggT Tryd.prog 58 = true := by kernel_rfl
@[go_sem] theorem tf_known58 : knownT Tryd.prog 58 = true := by kernel_rfl
@[go_sem] theorem tf_bytes58 : bytesT Tryd.prog 58 = 16 := by kernel_rfl
@[go_sem] theorem tf_zero58 (K : List AV → Prop) : zeroCellsT Tryd.prog 58 K = K [.r (.v (.int .i64 0)), .r (.v (.int .i64 0))] := by kernel_rfl
@[go_sem] theorem tf_zis58 : (zeroT Tryd.prog 58).isSome = true := by kernel_rfl
@[go_sem] theorem tf_int58 : intT Tryd.prog 58 = none := by kernel_rfl
@[go_sem] theorem tf_flo58 : floatT Tryd.prog 58 = none := by kernel_rfl
@[go_sem] theorem tf_sl58 : sliceT Tryd.prog 58 = false := by kernel_rfl
@[go_sem] theorem tf_str58 : stringT Tryd.prog 58 = false := by kernel_rfl
@[go_sem] theorem tf_bool58 : boolT Tryd.prog 58 = false := by kernel_rfl
@[go_sem] theorem tf_ptr58 : ptrT Tryd.prog 58 = false := by kernel_rfl
@[go_sem] theorem tf_elem58 : elemT Tryd.prog 58 = none := by kernel_rfl
@[go_sem] theorem tf_struct58 : structT Tryd.prog 58 = true := by kernel_rfl
@[go_sem] theorem tf_bld58 : buildT Tryd.prog 58 = true := by kernel_rfl
@[go_sem] theorem tf_eqg58 : Tryd.prog.eqGuardType Tryd.prog.depth 58 = false := by kernel_rfl
@[go_sem] theorem tf_f58_0 : fieldT Tryd.prog 58 0 = some (0, 1) := by kernel_rfl
@[go_sem] theorem tf_part58_0 : partT Tryd.prog 58 0 = some (0, 1) := by kernel_rfl
@[go_sem] theorem tf_f58_1 : fieldT Tryd.prog 58 1 = some (1, 1) := by kernel_rfl
@[go_sem] theorem tf_part58_1 : partT Tryd.prog 58 1 = some (1, 1) := by kernel_rfl
@[go_sem] theorem tf_kinds58 : kindsT Tryd.prog 8 58 = some [0, 0] := by kernel_rfl
@[go_sem] theorem tf_size64 : sizeT Tryd.prog 64 = 1 := by kernel_rfl
@[go_sem] theorem tf_agg64 : aggT Tryd.prog 64 = false := by kernel_rfl
@[go_sem] theorem tf_known64 : knownT Tryd.prog 64 = true := by kernel_rfl
@[go_sem] theorem tf_bytes64 : bytesT Tryd.prog 64 = 8 := by kernel_rfl
@[go_sem] theorem tf_zero64 (K : List AV → Prop) : zeroCellsT Tryd.prog 64 K = K [.r (.v (.map none))] := by kernel_rfl
@[go_sem] theorem tf_zis64 : (zeroT Tryd.prog 64).isSome = true := by kernel_rfl
@[go_sem] theorem tf_int64 : intT Tryd.prog 64 = none := by kernel_rfl
@[go_sem] theorem tf_flo64 : floatT Tryd.prog 64 = none := by kernel_rfl
@[go_sem] theorem tf_sl64 : sliceT Tryd.prog 64 = false := by kernel_rfl
@[go_sem] theorem tf_str64 : stringT Tryd.prog 64 = false := by kernel_rfl
@[go_sem] theorem tf_bool64 : boolT Tryd.prog 64 = false := by kernel_rfl
@[go_sem] theorem tf_ptr64 : ptrT Tryd.prog 64 = false := by kernel_rfl
@[go_sem] theorem tf_elem64 : elemT Tryd.prog 64 = none := by kernel_rfl
@[go_sem] theorem tf_map64 : mapT Tryd.prog 64 = some (9, 3) := by kernel_rfl
@[go_sem] theorem tf_size69 : sizeT Tryd.prog 69 = 8 := by kernel_rfl
@[go_sem] theorem tf_agg69 : aggT Tryd.prog 69 = true := by kernel_rfl
@[go_sem] theorem tf_known69 : knownT Tryd.prog 69 = true := by kernel_rfl
@[go_sem] theorem tf_bytes69 : bytesT Tryd.prog 69 = 144 := by kernel_rfl
@[go_sem] theorem tf_zero69 (K : List AV → Prop) : zeroCellsT Tryd.prog 69 K = K [.r (.v (.slice none 0 0)), .r (.v (.slice none 0 0)), .r (.v (.slice none 0 0)), .r (.v (.int .i64 0)), .r (.v (.int .i64 0)), .r (.v (.bool false)), .r (.v (.slice none 0 0)), .r (.v (.slice none 0 0))] := by kernel_rfl
@[go_sem] theorem tf_zis69 : (zeroT Tryd.prog 69).isSome = true := by kernel_rfl
@[go_sem] theorem tf_int69 : intT Tryd.prog 69 = none := by kernel_rfl
@[go_sem] theorem tf_flo69 : floatT Tryd.prog 69 = none := by kernel_rfl
@[go_sem] theorem tf_sl69 : sliceT Tryd.prog 69 = false := by kernel_rfl
@[go_sem] theorem tf_str69 : stringT Tryd.prog 69 = false := by kernel_rfl
@[go_sem] theorem tf_bool69 : boolT Tryd.prog 69 = false := by kernel_rfl
@[go_sem] theorem tf_ptr69 : ptrT Tryd.prog 69 = false := by kernel_rfl
@[go_sem] theorem tf_elem69 : elemT Tryd.prog 69 = none := by kernel_rfl
@[go_sem] theorem tf_struct69 : structT Tryd.prog 69 = true := by kernel_rfl
@[go_sem] theorem tf_bld69 : buildT Tryd.prog 69 = true := by kernel_rfl
@[go_sem] theorem tf_eqg69 : Tryd.prog.eqGuardType Tryd.prog.depth 69 = false := by kernel_rfl
@[go_sem] theorem tf_f69_0 : fieldT Tryd.prog 69 0 = some (0, 3) := by kernel_rfl
@[go_sem] theorem tf_part69_0 : partT Tryd.prog 69 0 = some (0, 3) := by kernel_rfl
@[go_sem] theorem tf_f69_1 : fieldT Tryd.prog 69 1 = some (3, 5) := by kernel_rfl
@[go_sem] theorem tf_part69_1 : partT Tryd.prog 69 1 = some (3, 5) := by kernel_rfl
@[go_sem] theorem tf_size78 : sizeT Tryd.prog 78 = 1 := by kernel_rfl
@[go_sem] theorem tf_agg78 : aggT Tryd.prog 78 = false := by kernel_rfl
@[go_sem] theorem tf_known78 : knownT Tryd.prog 78 = true := by kernel_rfl
@[go_sem] theorem tf_bytes78 : bytesT Tryd.prog 78 = 8 := by kernel_rfl
@[go_sem] theorem tf_zero78 (K : List AV → Prop) : zeroCellsT Tryd.prog 78 K = K [.r (.v (.float .f64 0))] := by kernel_rfl
@[go_sem] theorem tf_zis78 : (zeroT Tryd.prog 78).isSome = true := by kernel_rfl
@[go_sem] theorem tf_int78 : intT Tryd.prog 78 = none := by kernel_rfl
@[go_sem] theorem tf_flo78 : floatT Tryd.prog 78 = some .f64 := by kernel_rfl
@[go_sem] theorem tf_sl78 : sliceT Tryd.prog 78 = false := by kernel_rfl
@[go_sem] theorem tf_str78 : stringT Tryd.prog 78 = false := by kernel_rfl
@[go_sem] theorem tf_bool78 : boolT Tryd.prog 78 = false := by kernel_rfl
@[go_sem] theorem tf_ptr78 : ptrT Tryd.prog 78 = false := by kernel_rfl
@[go_sem] theorem tf_elem78 : elemT Tryd.prog 78 = none := by kernel_rfl
@[go_sem] theorem tf_size83 : sizeT Tryd.prog 83 = 1 := by kernel_rfl
@[go_sem] theorem tf_agg83 : aggT Tryd.prog 83 = false := by kernel_rfl
@[go_sem] theorem tf_known83 : knownT Tryd.prog 83 = true := by kernel_rfl
@[go_sem] theorem tf_bytes83 : bytesT Tryd.prog 83 = 8 := by kernel_rfl
@[go_sem] theorem tf_zero83 (K : List AV → Prop) : zeroCellsT Tryd.prog 83 K = K [.r (.v (.pointer none))] := by kernel_rfl
@[go_sem] theorem tf_zis83 : (zeroT Tryd.prog 83).isSome = true := by kernel_rfl
@[go_sem] theorem tf_int83 : intT Tryd.prog 83 = none := by kernel_rfl
@[go_sem] theorem tf_flo83 : floatT Tryd.prog 83 = none := by kernel_rfl
@[go_sem] theorem tf_sl83 : sliceT Tryd.prog 83 = false := by kernel_rfl
@[go_sem] theorem tf_str83 : stringT Tryd.prog 83 = false := by kernel_rfl
@[go_sem] theorem tf_bool83 : boolT Tryd.prog 83 = false := by kernel_rfl
@[go_sem] theorem tf_ptr83 : ptrT Tryd.prog 83 = true := by kernel_rfl
@[go_sem] theorem tf_elem83 : elemT Tryd.prog 83 = none := by kernel_rfl
@[go_sem] theorem tf_size85 : sizeT Tryd.prog 85 = 9 := by kernel_rfl
@[go_sem] theorem tf_agg85 : aggT Tryd.prog 85 = true := by kernel_rfl
@[go_sem] theorem tf_known85 : knownT Tryd.prog 85 = true := by kernel_rfl
@[go_sem] theorem tf_bytes85 : bytesT Tryd.prog 85 = 152 := by kernel_rfl
@[go_sem] theorem tf_zero85 (K : List AV → Prop) : zeroCellsT Tryd.prog 85 K = K [.r (.v (.int .i64 0)), .r (.v (.int .i64 0)), .r (.v (.bool false)), .r (.v (.slice none 0 0)), .r (.v (.slice none 0 0)), .r (.v (.slice none 0 0)), .r (.v (.slice none 0 0)), .r (.v (.slice none 0 0)), .r (.v (.bool false))] := by kernel_rfl
@[go_sem] theorem tf_zis85 : (zeroT Tryd.prog 85).isSome = true := by kernel_rfl
@[go_sem] theorem tf_int85 : intT Tryd.prog 85 = none := by kernel_rfl
@[go_sem] theorem tf_flo85 : floatT Tryd.prog 85 = none := by kernel_rfl
@[go_sem] theorem tf_sl85 : sliceT Tryd.prog 85 = false := by kernel_rfl
@[go_sem] theorem tf_str85 : stringT Tryd.prog 85 = false := by kernel_rfl
@[go_sem] theorem tf_bool85 : boolT Tryd.prog 85 = false := by kernel_rfl
@[go_sem] theorem tf_ptr85 : ptrT Tryd.prog 85 = false := by kernel_rfl
@[go_sem] theorem tf_elem85 : elemT Tryd.prog 85 = none := by kernel_rfl
@[go_sem] theorem tf_struct85 : structT Tryd.prog 85 = true := by kernel_rfl
@[go_sem] theorem tf_bld85 : buildT Tryd.prog 85 = true := by kernel_rfl
@[go_sem] theorem tf_eqg85 : Tryd.prog.eqGuardType Tryd.prog.depth 85 = false := by kernel_rfl
@[go_sem] theorem tf_f85_0 : fieldT Tryd.prog 85 0 = some (0, 5) := by kernel_rfl
@[go_sem] theorem tf_part85_0 : partT Tryd.prog 85 0 = some (0, 5) := by kernel_rfl
@[go_sem] theorem tf_f85_1 : fieldT Tryd.prog 85 1 = some (5, 1) := by kernel_rfl
@[go_sem] theorem tf_part85_1 : partT Tryd.prog 85 1 = some (5, 1) := by kernel_rfl
@[go_sem] theorem tf_f85_2 : fieldT Tryd.prog 85 2 = some (6, 1) := by kernel_rfl
@[go_sem] theorem tf_part85_2 : partT Tryd.prog 85 2 = some (6, 1) := by kernel_rfl
@[go_sem] theorem tf_f85_3 : fieldT Tryd.prog 85 3 = some (7, 1) := by kernel_rfl
@[go_sem] theorem tf_part85_3 : partT Tryd.prog 85 3 = some (7, 1) := by kernel_rfl
@[go_sem] theorem tf_f85_4 : fieldT Tryd.prog 85 4 = some (8, 1) := by kernel_rfl
@[go_sem] theorem tf_part85_4 : partT Tryd.prog 85 4 = some (8, 1) := by kernel_rfl
@[go_sem] theorem tf_size88 : sizeT Tryd.prog 88 = 256 := by kernel_rfl
@[go_sem] theorem tf_agg88 : aggT Tryd.prog 88 = true := by kernel_rfl
@[go_sem] theorem tf_known88 : knownT Tryd.prog 88 = true := by kernel_rfl
@[go_sem] theorem tf_bytes88 : bytesT Tryd.prog 88 = 256 := by kernel_rfl
@[go_sem] theorem tf_int88 : intT Tryd.prog 88 = none := by kernel_rfl
@[go_sem] theorem tf_flo88 : floatT Tryd.prog 88 = none := by kernel_rfl
@[go_sem] theorem tf_sl88 : sliceT Tryd.prog 88 = false := by kernel_rfl
@[go_sem] theorem tf_str88 : stringT Tryd.prog 88 = false := by kernel_rfl
@[go_sem] theorem tf_bool88 : boolT Tryd.prog 88 = false := by kernel_rfl
@[go_sem] theorem tf_ptr88 : ptrT Tryd.prog 88 = false := by kernel_rfl
@[go_sem] theorem tf_elem88 : elemT Tryd.prog 88 = none := by kernel_rfl
@[go_sem] theorem tf_arr88 : arrT Tryd.prog 88 = some (256, 5) := by kernel_rfl
@[go_sem] theorem tf_bld88 : buildT Tryd.prog 88 = true := by kernel_rfl
@[go_sem] theorem tf_size92 : sizeT Tryd.prog 92 = 1 := by kernel_rfl
@[go_sem] theorem tf_agg92 : aggT Tryd.prog 92 = false := by kernel_rfl
@[go_sem] theorem tf_known92 : knownT Tryd.prog 92 = true := by kernel_rfl
@[go_sem] theorem tf_bytes92 : bytesT Tryd.prog 92 = 8 := by kernel_rfl
@[go_sem] theorem tf_zero92 (K : List AV → Prop) : zeroCellsT Tryd.prog 92 K = K [.r (.v (.int .u64 0))] := by kernel_rfl
@[go_sem] theorem tf_zis92 : (zeroT Tryd.prog 92).isSome = true := by kernel_rfl
@[go_sem] theorem tf_int92 : intT Tryd.prog 92 = some .u64 := by kernel_rfl
@[go_sem] theorem tf_flo92 : floatT Tryd.prog 92 = none := by kernel_rfl
@[go_sem] theorem tf_sl92 : sliceT Tryd.prog 92 = false := by kernel_rfl
@[go_sem] theorem tf_str92 : stringT Tryd.prog 92 = false := by kernel_rfl
@[go_sem] theorem tf_bool92 : boolT Tryd.prog 92 = false := by kernel_rfl
@[go_sem] theorem tf_ptr92 : ptrT Tryd.prog 92 = false := by kernel_rfl
@[go_sem] theorem tf_zval92 : zeroT Tryd.prog 92 = some (.int .u64 0) := by kernel_rfl
@[go_sem] theorem tf_elem92 : elemT Tryd.prog 92 = none := by kernel_rfl
@[go_sem] theorem tf_size93 : sizeT Tryd.prog 93 = 39 := by kernel_rfl
@[go_sem] theorem tf_agg93 : aggT Tryd.prog 93 = true := by kernel_rfl
@[go_sem] theorem tf_known93 : knownT Tryd.prog 93 = true := by kernel_rfl
@[go_sem] theorem tf_bytes93 : bytesT Tryd.prog 93 = 624 := by kernel_rfl
@[go_sem] theorem tf_zero93 (K : List AV → Prop) : zeroCellsT Tryd.prog 93 K = K [.r (.v (.string ⟨#[]⟩)), .r (.v (.string ⟨#[]⟩)), .r (.v (.string ⟨#[]⟩)), .r (.v (.string ⟨#[]⟩)), .r (.v (.string ⟨#[]⟩)), .r (.v (.string ⟨#[]⟩)), .r (.v (.string ⟨#[]⟩)), .r (.v (.string ⟨#[]⟩)), .r (.v (.string ⟨#[]⟩)), .r (.v (.string ⟨#[]⟩)), .r (.v (.string ⟨#[]⟩)), .r (.v (.string ⟨#[]⟩)), .r (.v (.string ⟨#[]⟩)), .r (.v (.string ⟨#[]⟩)), .r (.v (.string ⟨#[]⟩)), .r (.v (.string ⟨#[]⟩)), .r (.v (.string ⟨#[]⟩)), .r (.v (.string ⟨#[]⟩)), .r (.v (.string ⟨#[]⟩)), .r (.v (.string ⟨#[]⟩)), .r (.v (.string ⟨#[]⟩)), .r (.v (.string ⟨#[]⟩)), .r (.v (.string ⟨#[]⟩)), .r (.v (.string ⟨#[]⟩)), .r (.v (.string ⟨#[]⟩)), .r (.v (.string ⟨#[]⟩)), .r (.v (.string ⟨#[]⟩)), .r (.v (.string ⟨#[]⟩)), .r (.v (.string ⟨#[]⟩)), .r (.v (.string ⟨#[]⟩)), .r (.v (.string ⟨#[]⟩)), .r (.v (.string ⟨#[]⟩)), .r (.v (.string ⟨#[]⟩)), .r (.v (.string ⟨#[]⟩)), .r (.v (.string ⟨#[]⟩)), .r (.v (.string ⟨#[]⟩)), .r (.v (.string ⟨#[]⟩)), .r (.v (.string ⟨#[]⟩)), .r (.v (.string ⟨#[]⟩))] := by kernel_rfl
@[go_sem] theorem tf_zis93 : (zeroT Tryd.prog 93).isSome = true := by kernel_rfl
@[go_sem] theorem tf_int93 : intT Tryd.prog 93 = none := by kernel_rfl
@[go_sem] theorem tf_flo93 : floatT Tryd.prog 93 = none := by kernel_rfl
@[go_sem] theorem tf_sl93 : sliceT Tryd.prog 93 = false := by kernel_rfl
@[go_sem] theorem tf_str93 : stringT Tryd.prog 93 = false := by kernel_rfl
@[go_sem] theorem tf_bool93 : boolT Tryd.prog 93 = false := by kernel_rfl
@[go_sem] theorem tf_ptr93 : ptrT Tryd.prog 93 = false := by kernel_rfl
@[go_sem] theorem tf_elem93 : elemT Tryd.prog 93 = none := by kernel_rfl
@[go_sem] theorem tf_arr93 : arrT Tryd.prog 93 = some (39, 9) := by kernel_rfl
@[go_sem] theorem tf_bld93 : buildT Tryd.prog 93 = true := by kernel_rfl
@[go_sem] theorem tf_part93_0 : partT Tryd.prog 93 0 = some (0, 1) := by kernel_rfl
@[go_sem] theorem tf_part93_1 : partT Tryd.prog 93 1 = some (1, 1) := by kernel_rfl
@[go_sem] theorem tf_part93_2 : partT Tryd.prog 93 2 = some (2, 1) := by kernel_rfl
@[go_sem] theorem tf_part93_3 : partT Tryd.prog 93 3 = some (3, 1) := by kernel_rfl
@[go_sem] theorem tf_part93_4 : partT Tryd.prog 93 4 = some (4, 1) := by kernel_rfl
@[go_sem] theorem tf_part93_5 : partT Tryd.prog 93 5 = some (5, 1) := by kernel_rfl
@[go_sem] theorem tf_part93_6 : partT Tryd.prog 93 6 = some (6, 1) := by kernel_rfl
@[go_sem] theorem tf_part93_7 : partT Tryd.prog 93 7 = some (7, 1) := by kernel_rfl
@[go_sem] theorem tf_part93_8 : partT Tryd.prog 93 8 = some (8, 1) := by kernel_rfl
@[go_sem] theorem tf_part93_9 : partT Tryd.prog 93 9 = some (9, 1) := by kernel_rfl
@[go_sem] theorem tf_part93_10 : partT Tryd.prog 93 10 = some (10, 1) := by kernel_rfl
@[go_sem] theorem tf_part93_11 : partT Tryd.prog 93 11 = some (11, 1) := by kernel_rfl
@[go_sem] theorem tf_part93_12 : partT Tryd.prog 93 12 = some (12, 1) := by kernel_rfl
@[go_sem] theorem tf_part93_13 : partT Tryd.prog 93 13 = some (13, 1) := by kernel_rfl
@[go_sem] theorem tf_part93_14 : partT Tryd.prog 93 14 = some (14, 1) := by kernel_rfl
@[go_sem] theorem tf_part93_15 : partT Tryd.prog 93 15 = some (15, 1) := by kernel_rfl
@[go_sem] theorem tf_part93_16 : partT Tryd.prog 93 16 = some (16, 1) := by kernel_rfl
@[go_sem] theorem tf_part93_17 : partT Tryd.prog 93 17 = some (17, 1) := by kernel_rfl
@[go_sem] theorem tf_part93_18 : partT Tryd.prog 93 18 = some (18, 1) := by kernel_rfl
@[go_sem] theorem tf_part93_19 : partT Tryd.prog 93 19 = some (19, 1) := by kernel_rfl
@[go_sem] theorem tf_part93_20 : partT Tryd.prog 93 20 = some (20, 1) := by kernel_rfl
@[go_sem] theorem tf_part93_21 : partT Tryd.prog 93 21 = some (21, 1) := by kernel_rfl
@[go_sem] theorem tf_part93_22 : partT Tryd.prog 93 22 = some (22, 1) := by kernel_rfl
@[go_sem] theorem tf_part93_23 : partT Tryd.prog 93 23 = some (23, 1) := by kernel_rfl
@[go_sem] theorem tf_part93_24 : partT Tryd.prog 93 24 = some (24, 1) := by kernel_rfl
@[go_sem] theorem tf_part93_25 : partT Tryd.prog 93 25 = some (25, 1) := by kernel_rfl
@[go_sem] theorem tf_part93_26 : partT Tryd.prog 93 26 = some (26, 1) := by kernel_rfl
@[go_sem] theorem tf_part93_27 : partT Tryd.prog 93 27 = some (27, 1) := by kernel_rfl
@[go_sem] theorem tf_part93_28 : partT Tryd.prog 93 28 = some (28, 1) := by kernel_rfl
@[go_sem] theorem tf_part93_29 : partT Tryd.prog 93 29 = some (29, 1) := by kernel_rfl
@[go_sem] theorem tf_part93_30 : partT Tryd.prog 93 30 = some (30, 1) := by kernel_rfl
@[go_sem] theorem tf_part93_31 : partT Tryd.prog 93 31 = some (31, 1) := by kernel_rfl
@[go_sem] theorem tf_part93_32 : partT Tryd.prog 93 32 = some (32, 1) := by kernel_rfl
@[go_sem] theorem tf_part93_33 : partT Tryd.prog 93 33 = some (33, 1) := by kernel_rfl
@[go_sem] theorem tf_part93_34 : partT Tryd.prog 93 34 = some (34, 1) := by kernel_rfl
@[go_sem] theorem tf_part93_35 : partT Tryd.prog 93 35 = some (35, 1) := by kernel_rfl
@[go_sem] theorem tf_part93_36 : partT Tryd.prog 93 36 = some (36, 1) := by kernel_rfl
@[go_sem] theorem tf_part93_37 : partT Tryd.prog 93 37 = some (37, 1) := by kernel_rfl
@[go_sem] theorem tf_part93_38 : partT Tryd.prog 93 38 = some (38, 1) := by kernel_rfl
@[go_sem] theorem tf_size95 : sizeT Tryd.prog 95 = 1 := by kernel_rfl
@[go_sem] theorem tf_agg95 : aggT Tryd.prog 95 = false := by kernel_rfl
@[go_sem] theorem tf_known95 : knownT Tryd.prog 95 = true := by kernel_rfl
@[go_sem] theorem tf_bytes95 : bytesT Tryd.prog 95 = 24 := by kernel_rfl
@[go_sem] theorem tf_zero95 (K : List AV → Prop) : zeroCellsT Tryd.prog 95 K = K [.r (.v (.slice none 0 0))] := by kernel_rfl
@[go_sem] theorem tf_zis95 : (zeroT Tryd.prog 95).isSome = true := by kernel_rfl
@[go_sem] theorem tf_int95 : intT Tryd.prog 95 = none := by kernel_rfl
@[go_sem] theorem tf_flo95 : floatT Tryd.prog 95 = none := by kernel_rfl
@[go_sem] theorem tf_sl95 : sliceT Tryd.prog 95 = true := by kernel_rfl
@[go_sem] theorem tf_str95 : stringT Tryd.prog 95 = false := by kernel_rfl
@[go_sem] theorem tf_bool95 : boolT Tryd.prog 95 = false := by kernel_rfl
@[go_sem] theorem tf_ptr95 : ptrT Tryd.prog 95 = false := by kernel_rfl
@[go_sem] theorem tf_zval95 : zeroT Tryd.prog 95 = some (.slice none 0 0) := by kernel_rfl
@[go_sem] theorem tf_elem95 : elemT Tryd.prog 95 = some 97 := by kernel_rfl
@[go_sem] theorem tf_size97 : sizeT Tryd.prog 97 = 2 := by kernel_rfl
@[go_sem] theorem tf_agg97 : aggT Tryd.prog 97 = true := by kernel_rfl
@[go_sem] theorem tf_known97 : knownT Tryd.prog 97 = true := by kernel_rfl
@[go_sem] theorem tf_bytes97 : bytesT Tryd.prog 97 = 16 := by kernel_rfl
@[go_sem] theorem tf_zero97 (K : List AV → Prop) : zeroCellsT Tryd.prog 97 K = K [.r (.v (.int .i64 0)), .r (.v (.int .i64 0))] := by kernel_rfl
@[go_sem] theorem tf_zis97 : (zeroT Tryd.prog 97).isSome = true := by kernel_rfl
@[go_sem] theorem tf_int97 : intT Tryd.prog 97 = none := by kernel_rfl
@[go_sem] theorem tf_flo97 : floatT Tryd.prog 97 = none := by kernel_rfl
@[go_sem] theorem tf_sl97 : sliceT Tryd.prog 97 = false := by kernel_rfl
@[go_sem] theorem tf_str97 : stringT Tryd.prog 97 = false := by kernel_rfl
@[go_sem] theorem tf_bool97 : boolT Tryd.prog 97 = false := by kernel_rfl
@[go_sem] theorem tf_ptr97 : ptrT Tryd.prog 97 = false := by kernel_rfl
@[go_sem] theorem tf_elem97 : elemT Tryd.prog 97 = none := by kernel_rfl
@[go_sem] theorem tf_struct97 : structT Tryd.prog 97 = true := by kernel_rfl
@[go_sem] theorem tf_bld97 : buildT Tryd.prog 97 = true := by kernel_rfl
@[go_sem] theorem tf_eqg97 : Tryd.prog.eqGuardType Tryd.prog.depth 97 = false := by kernel_rfl
@[go_sem] theorem tf_f97_0 : fieldT Tryd.prog 97 0 = some (0, 1) := by kernel_rfl
@[go_sem] theorem tf_part97_0 : partT Tryd.prog 97 0 = some (0, 1) := by kernel_rfl
@[go_sem] theorem tf_f97_1 : fieldT Tryd.prog 97 1 = some (1, 1) := by kernel_rfl
@[go_sem] theorem tf_part97_1 : partT Tryd.prog 97 1 = some (1, 1) := by kernel_rfl
@[go_sem] theorem tf_kinds97 : kindsT Tryd.prog 8 97 = some [0, 0] := by kernel_rfl
@[go_sem] theorem tf_size98 : sizeT Tryd.prog 98 = 1 := by kernel_rfl
@[go_sem] theorem tf_agg98 : aggT Tryd.prog 98 = false := by kernel_rfl
@[go_sem] theorem tf_known98 : knownT Tryd.prog 98 = true := by kernel_rfl
@[go_sem] theorem tf_bytes98 : bytesT Tryd.prog 98 = 4 := by kernel_rfl
@[go_sem] theorem tf_zero98 (K : List AV → Prop) : zeroCellsT Tryd.prog 98 K = K [.r (.v (.int .u32 0))] := by kernel_rfl
@[go_sem] theorem tf_zis98 : (zeroT Tryd.prog 98).isSome = true := by kernel_rfl
@[go_sem] theorem tf_int98 : intT Tryd.prog 98 = some .u32 := by kernel_rfl
@[go_sem] theorem tf_flo98 : floatT Tryd.prog 98 = none := by kernel_rfl
@[go_sem] theorem tf_sl98 : sliceT Tryd.prog 98 = false := by kernel_rfl
@[go_sem] theorem tf_str98 : stringT Tryd.prog 98 = false := by kernel_rfl
@[go_sem] theorem tf_bool98 : boolT Tryd.prog 98 = false := by kernel_rfl
@[go_sem] theorem tf_ptr98 : ptrT Tryd.prog 98 = false := by kernel_rfl
@[go_sem] theorem tf_zval98 : zeroT Tryd.prog 98 = some (.int .u32 0) := by kernel_rfl
@[go_sem] theorem tf_elem98 : elemT Tryd.prog 98 = none := by kernel_rfl
@[go_sem] theorem tf_size100 : sizeT Tryd.prog 100 = 1 := by kernel_rfl
@[go_sem] theorem tf_agg100 : aggT Tryd.prog 100 = false := by kernel_rfl
@[go_sem] theorem tf_known100 : knownT Tryd.prog 100 = true := by kernel_rfl
@[go_sem] theorem tf_bytes100 : bytesT Tryd.prog 100 = 8 := by kernel_rfl
@[go_sem] theorem tf_zero100 (K : List AV → Prop) : zeroCellsT Tryd.prog 100 K = K [.r (.v (.pointer none))] := by kernel_rfl
@[go_sem] theorem tf_zis100 : (zeroT Tryd.prog 100).isSome = true := by kernel_rfl
@[go_sem] theorem tf_int100 : intT Tryd.prog 100 = none := by kernel_rfl
@[go_sem] theorem tf_flo100 : floatT Tryd.prog 100 = none := by kernel_rfl
@[go_sem] theorem tf_sl100 : sliceT Tryd.prog 100 = false := by kernel_rfl
@[go_sem] theorem tf_str100 : stringT Tryd.prog 100 = false := by kernel_rfl
@[go_sem] theorem tf_bool100 : boolT Tryd.prog 100 = false := by kernel_rfl
@[go_sem] theorem tf_ptr100 : ptrT Tryd.prog 100 = true := by kernel_rfl
@[go_sem] theorem tf_elem100 : elemT Tryd.prog 100 = none := by kernel_rfl
@[go_sem] theorem tf_size102 : sizeT Tryd.prog 102 = 1 := by kernel_rfl
@[go_sem] theorem tf_agg102 : aggT Tryd.prog 102 = false := by kernel_rfl
@[go_sem] theorem tf_known102 : knownT Tryd.prog 102 = true := by kernel_rfl
@[go_sem] theorem tf_bytes102 : bytesT Tryd.prog 102 = 24 := by kernel_rfl
@[go_sem] theorem tf_zero102 (K : List AV → Prop) : zeroCellsT Tryd.prog 102 K = K [.r (.v (.slice none 0 0))] := by kernel_rfl
@[go_sem] theorem tf_zis102 : (zeroT Tryd.prog 102).isSome = true := by kernel_rfl
@[go_sem] theorem tf_int102 : intT Tryd.prog 102 = none := by kernel_rfl
@[go_sem] theorem tf_flo102 : floatT Tryd.prog 102 = none := by kernel_rfl
@[go_sem] theorem tf_sl102 : sliceT Tryd.prog 102 = true := by kernel_rfl
@[go_sem] theorem tf_str102 : stringT Tryd.prog 102 = false := by kernel_rfl
@[go_sem] theorem tf_bool102 : boolT Tryd.prog 102 = false := by kernel_rfl
@[go_sem] theorem tf_ptr102 : ptrT Tryd.prog 102 = false := by kernel_rfl
@[go_sem] theorem tf_zval102 : zeroT Tryd.prog 102 = some (.slice none 0 0) := by kernel_rfl
@[go_sem] theorem tf_elem102 : elemT Tryd.prog 102 = some 108 := by kernel_rfl
@[go_sem] theorem tf_size103 : sizeT Tryd.prog 103 = 1 := by kernel_rfl
@[go_sem] theorem tf_agg103 : aggT Tryd.prog 103 = false := by kernel_rfl
@[go_sem] theorem tf_known103 : knownT Tryd.prog 103 = true := by kernel_rfl
@[go_sem] theorem tf_bytes103 : bytesT Tryd.prog 103 = 24 := by kernel_rfl
@[go_sem] theorem tf_zero103 (K : List AV → Prop) : zeroCellsT Tryd.prog 103 K = K [.r (.v (.slice none 0 0))] := by kernel_rfl
@[go_sem] theorem tf_zis103 : (zeroT Tryd.prog 103).isSome = true := by kernel_rfl
@[go_sem] theorem tf_int103 : intT Tryd.prog 103 = none := by kernel_rfl
@[go_sem] theorem tf_flo103 : floatT Tryd.prog 103 = none := by kernel_rfl
@[go_sem] theorem tf_sl103 : sliceT Tryd.prog 103 = true := by kernel_rfl
@[go_sem] theorem tf_str103 : stringT Tryd.prog 103 = false := by kernel_rfl
@[go_sem] theorem tf_bool103 : boolT Tryd.prog 103 = false := by kernel_rfl
@[go_sem] theorem tf_ptr103 : ptrT Tryd.prog 103 = false := by kernel_rfl
@[go_sem] theorem tf_zval103 : zeroT Tryd.prog 103 = some (.slice none 0 0) := by kernel_rfl
@[go_sem] theorem tf_elem103 : elemT Tryd.prog 103 = some 111 := by kernel_rfl
@[go_sem] theorem tf_size105 : sizeT Tryd.prog 105 = 3 := by kernel_rfl
@[go_sem] theorem tf_agg105 : aggT Tryd.prog 105 = true := by kernel_rfl
@[go_sem] theorem tf_known105 : knownT Tryd.prog 105 = true := by kernel_rfl
@[go_sem] theorem tf_bytes105 : bytesT Tryd.prog 105 = 56 := by kernel_rfl
@[go_sem] theorem tf_zero105 (K : List AV → Prop) : zeroCellsT Tryd.prog 105 K = K [.r (.v (.slice none 0 0)), .r (.v (.slice none 0 0)), .r (.v (.int .i64 0))] := by kernel_rfl
@[go_sem] theorem tf_zis105 : (zeroT Tryd.prog 105).isSome = true := by kernel_rfl
@[go_sem] theorem tf_int105 : intT Tryd.prog 105 = none := by kernel_rfl
@[go_sem] theorem tf_flo105 : floatT Tryd.prog 105 = none := by kernel_rfl
@[go_sem] theorem tf_sl105 : sliceT Tryd.prog 105 = false := by kernel_rfl
@[go_sem] theorem tf_str105 : stringT Tryd.prog 105 = false := by kernel_rfl
@[go_sem] theorem tf_bool105 : boolT Tryd.prog 105 = false := by kernel_rfl
@[go_sem] theorem tf_ptr105 : ptrT Tryd.prog 105 = false := by kernel_rfl
@[go_sem] theorem tf_elem105 : elemT Tryd.prog 105 = none := by kernel_rfl
@[go_sem] theorem tf_struct105 : structT Tryd.prog 105 = true := by kernel_rfl
@[go_sem] theorem tf_bld105 : buildT Tryd.prog 105 = true := by kernel_rfl
@[go_sem] theorem tf_eqg105 : Tryd.prog.eqGuardType Tryd.prog.depth 105 = false := by kernel_rfl
@[go_sem] theorem tf_f105_0 : fieldT Tryd.prog 105 0 = some (0, 1) := by kernel_rfl
@[go_sem] theorem tf_part105_0 : partT Tryd.prog 105 0 = some (0, 1) := by kernel_rfl
@[go_sem] theorem tf_f105_1 : fieldT Tryd.prog 105 1 = some (1, 1) := by kernel_rfl
@[go_sem] theorem tf_part105_1 : partT Tryd.prog 105 1 = some (1, 1) := by kernel_rfl
@[go_sem] theorem tf_f105_2 : fieldT Tryd.prog 105 2 = some (2, 1) := by kernel_rfl
@[go_sem] theorem tf_part105_2 : partT Tryd.prog 105 2 = some (2, 1) := by kernel_rfl
@[go_sem] theorem tf_size106 : sizeT Tryd.prog 106 = 1 := by kernel_rfl
@[go_sem] theorem tf_agg106 : aggT Tryd.prog 106 = false := by kernel_rfl
@[go_sem] theorem tf_known106 : knownT Tryd.prog 106 = true := by kernel_rfl
@[go_sem] theorem tf_bytes106 : bytesT Tryd.prog 106 = 2 := by kernel_rfl
@[go_sem] theorem tf_zero106 (K : List AV → Prop) : zeroCellsT Tryd.prog 106 K = K [.r (.v (.int .u16 0))] := by kernel_rfl
@[go_sem] theorem tf_zis106 : (zeroT Tryd.prog 106).isSome = true := by kernel_rfl
@[go_sem] theorem tf_int106 : intT Tryd.prog 106 = some .u16 := by kernel_rfl
@[go_sem] theorem tf_flo106 : floatT Tryd.prog 106 = none := by kernel_rfl
@[go_sem] theorem tf_sl106 : sliceT Tryd.prog 106 = false := by kernel_rfl
@[go_sem] theorem tf_str106 : stringT Tryd.prog 106 = false := by kernel_rfl
@[go_sem] theorem tf_bool106 : boolT Tryd.prog 106 = false := by kernel_rfl
@[go_sem] theorem tf_ptr106 : ptrT Tryd.prog 106 = false := by kernel_rfl
@[go_sem] theorem tf_zval106 : zeroT Tryd.prog 106 = some (.int .u16 0) := by kernel_rfl
@[go_sem] theorem tf_elem106 : elemT Tryd.prog 106 = none := by kernel_rfl
@[go_sem] theorem tf_size108 : sizeT Tryd.prog 108 = 3 := by kernel_rfl
@[go_sem] theorem tf_agg108 : aggT Tryd.prog 108 = true := by kernel_rfl
@[go_sem] theorem tf_known108 : knownT Tryd.prog 108 = true := by kernel_rfl
@[go_sem] theorem tf_bytes108 : bytesT Tryd.prog 108 = 6 := by kernel_rfl
@[go_sem] theorem tf_zero108 (K : List AV → Prop) : zeroCellsT Tryd.prog 108 K = K [.r (.v (.int .u16 0)), .r (.v (.int .u16 0)), .r (.v (.int .u16 0))] := by kernel_rfl
@[go_sem] theorem tf_zis108 : (zeroT Tryd.prog 108).isSome = true := by kernel_rfl
@[go_sem] theorem tf_int108 : intT Tryd.prog 108 = none := by kernel_rfl
@[go_sem] theorem tf_flo108 : floatT Tryd.prog 108 = none := by kernel_rfl
@[go_sem] theorem tf_sl108 : sliceT Tryd.prog 108 = false := by kernel_rfl
@[go_sem] theorem tf_str108 : stringT Tryd.prog 108 = false := by kernel_rfl
@[go_sem] theorem tf_bool108 : boolT Tryd.prog 108 = false := by kernel_rfl
@[go_sem] theorem tf_ptr108 : ptrT Tryd.prog 108 = false := by kernel_rfl
@[go_sem] theorem tf_elem108 : elemT Tryd.prog 108 = none := by kernel_rfl
@[go_sem] theorem tf_struct108 : structT Tryd.prog 108 = true := by kernel_rfl
@[go_sem] theorem tf_bld108 : buildT Tryd.prog 108 = true := by kernel_rfl
@[go_sem] theorem tf_eqg108 : Tryd.prog.eqGuardType Tryd.prog.depth 108 = false := by kernel_rfl
@[go_sem] theorem tf_f108_0 : fieldT Tryd.prog 108 0 = some (0, 1) := by kernel_rfl
@[go_sem] theorem tf_part108_0 : partT Tryd.prog 108 0 = some (0, 1) := by kernel_rfl
@[go_sem] theorem tf_f108_1 : fieldT Tryd.prog 108 1 = some (1, 1) := by kernel_rfl
@[go_sem] theorem tf_part108_1 : partT Tryd.prog 108 1 = some (1, 1) := by kernel_rfl
@[go_sem] theorem tf_f108_2 : fieldT Tryd.prog 108 2 = some (2, 1) := by kernel_rfl
@[go_sem] theorem tf_part108_2 : partT Tryd.prog 108 2 = some (2, 1) := by kernel_rfl
@[go_sem] theorem tf_kinds108 : kindsT Tryd.prog 8 108 = some [0, 0, 0] := by kernel_rfl
@[go_sem] theorem tf_size111 : sizeT Tryd.prog 111 = 3 := by kernel_rfl
@[go_sem] theorem tf_agg111 : aggT Tryd.prog 111 = true := by kernel_rfl
@[go_sem] theorem tf_known111 : knownT Tryd.prog 111 = true := by kernel_rfl
@[go_sem] theorem tf_bytes111 : bytesT Tryd.prog 111 = 12 := by kernel_rfl
@[go_sem] theorem tf_zero111 (K : List AV → Prop) : zeroCellsT Tryd.prog 111 K = K [.r (.v (.int .u32 0)), .r (.v (.int .u32 0)), .r (.v (.int .u32 0))] := by kernel_rfl
@[go_sem] theorem tf_zis111 : (zeroT Tryd.prog 111).isSome = true := by kernel_rfl
@[go_sem] theorem tf_int111 : intT Tryd.prog 111 = none := by kernel_rfl
@[go_sem] theorem tf_flo111 : floatT Tryd.prog 111 = none := by kernel_rfl
@[go_sem] theorem tf_sl111 : sliceT Tryd.prog 111 = false := by kernel_rfl
@[go_sem] theorem tf_str111 : stringT Tryd.prog 111 = false := by kernel_rfl
@[go_sem] theorem tf_bool111 : boolT Tryd.prog 111 = false := by kernel_rfl
@[go_sem] theorem tf_ptr111 : ptrT Tryd.prog 111 = false := by kernel_rfl
@[go_sem] theorem tf_elem111 : elemT Tryd.prog 111 = none := by kernel_rfl
@[go_sem] theorem tf_struct111 : structT Tryd.prog 111 = true := by kernel_rfl
@[go_sem] theorem tf_bld111 : buildT Tryd.prog 111 = true := by kernel_rfl
@[go_sem] theorem tf_eqg111 : Tryd.prog.eqGuardType Tryd.prog.depth 111 = false := by kernel_rfl
@[go_sem] theorem tf_f111_0 : fieldT Tryd.prog 111 0 = some (0, 1) := by kernel_rfl
@[go_sem] theorem tf_part111_0 : partT Tryd.prog 111 0 = some (0, 1) := by kernel_rfl
@[go_sem] theorem tf_f111_1 : fieldT Tryd.prog 111 1 = some (1, 1) := by kernel_rfl
@[go_sem] theorem tf_part111_1 : partT Tryd.prog 111 1 = some (1, 1) := by kernel_rfl
@[go_sem] theorem tf_f111_2 : fieldT Tryd.prog 111 2 = some (2, 1) := by kernel_rfl
@[go_sem] theorem tf_part111_2 : partT Tryd.prog 111 2 = some (2, 1) := by kernel_rfl
@[go_sem] theorem tf_kinds111 : kindsT Tryd.prog 8 111 = some [0, 0, 0] := by kernel_rfl
theorem en2 : Enters Tryd.prog 2 := fun args w => Tryd.call2 args w
theorem en3 : Enters Tryd.prog 3 := fun args w => Tryd.call3 args w
theorem en4 : Enters Tryd.prog 4 := fun args w => Tryd.call4 args w
theorem en5 : Enters Tryd.prog 5 := fun args w => Tryd.call5 args w
theorem en6 : Enters Tryd.prog 6 := fun args w => Tryd.call6 args w
theorem en7 : Enters Tryd.prog 7 := fun args w => Tryd.call7 args w
theorem en8 : Enters Tryd.prog 8 := fun args w => Tryd.call8 args w
theorem en9 : Enters Tryd.prog 9 := fun args w => Tryd.call9 args w
theorem en10 : Enters Tryd.prog 10 := fun args w => Tryd.call10 args w
theorem en11 : Enters Tryd.prog 11 := fun args w => Tryd.call11 args w
theorem en12 : Enters Tryd.prog 12 := fun args w => Tryd.call12 args w
theorem en13 : Enters Tryd.prog 13 := fun args w => Tryd.call13 args w
theorem en14 : Enters Tryd.prog 14 := fun args w => Tryd.call14 args w
theorem en15 : Enters Tryd.prog 15 := fun args w => Tryd.call15 args w
theorem en16 : Enters Tryd.prog 16 := fun args w => Tryd.call16 args w
theorem en17 : Enters Tryd.prog 17 := fun args w => Tryd.call17 args w
theorem en18 : Enters Tryd.prog 18 := fun args w => Tryd.call18 args w
theorem en19 : Enters Tryd.prog 19 := fun args w => Tryd.call19 args w
theorem en20 : Enters Tryd.prog 20 := fun args w => Tryd.call20 args w
theorem en21 : Enters Tryd.prog 21 := fun args w => Tryd.call21 args w
theorem en22 : Enters Tryd.prog 22 := fun args w => Tryd.call22 args w
theorem en23 : Enters Tryd.prog 23 := fun args w => Tryd.call23 args w
theorem en24 : Enters Tryd.prog 24 := fun args w => Tryd.call24 args w
theorem en25 : Enters Tryd.prog 25 := fun args w => Tryd.call25 args w
theorem en26 : Enters Tryd.prog 26 := fun args w => Tryd.call26 args w
theorem en27 : Enters Tryd.prog 27 := fun args w => Tryd.call27 args w
theorem en28 : Enters Tryd.prog 28 := fun args w => Tryd.call28 args w
theorem en29 : Enters Tryd.prog 29 := fun args w => Tryd.call29 args w
theorem en30 : Enters Tryd.prog 30 := fun args w => Tryd.call30 args w
theorem en31 : Enters Tryd.prog 31 := fun args w => Tryd.call31 args w
theorem en32 : Enters Tryd.prog 32 := fun args w => Tryd.call32 args w
theorem en33 : Enters Tryd.prog 33 := fun args w => Tryd.call33 args w
theorem en34 : Enters Tryd.prog 34 := fun args w => Tryd.call34 args w
theorem en35 : Enters Tryd.prog 35 := fun args w => Tryd.call35 args w
theorem en36 : Enters Tryd.prog 36 := fun args w => Tryd.call36 args w
theorem en37 : Enters Tryd.prog 37 := fun args w => Tryd.call37 args w
theorem en38 : Enters Tryd.prog 38 := fun args w => Tryd.call38 args w
theorem en39 : Enters Tryd.prog 39 := fun args w => Tryd.call39 args w
theorem en40 : Enters Tryd.prog 40 := fun args w => Tryd.call40 args w
theorem en41 : Enters Tryd.prog 41 := fun args w => Tryd.call41 args w
theorem en42 : Enters Tryd.prog 42 := fun args w => Tryd.call42 args w
theorem en43 : Enters Tryd.prog 43 := fun args w => Tryd.call43 args w
theorem en44 : Enters Tryd.prog 44 := fun args w => Tryd.call44 args w
theorem en45 : Enters Tryd.prog 45 := fun args w => Tryd.call45 args w
theorem en46 : Enters Tryd.prog 46 := fun args w => Tryd.call46 args w
theorem en48 : Enters Tryd.prog 48 := fun args w => Tryd.call48 args w
theorem en49 : Enters Tryd.prog 49 := fun args w => Tryd.call49 args w
theorem en50 : Enters Tryd.prog 50 := fun args w => Tryd.call50 args w
theorem en51 : Enters Tryd.prog 51 := fun args w => Tryd.call51 args w
theorem en52 : Enters Tryd.prog 52 := fun args w => Tryd.call52 args w
theorem en53 : Enters Tryd.prog 53 := fun args w => Tryd.call53 args w
theorem en54 : Enters Tryd.prog 54 := fun args w => Tryd.call54 args w
theorem en55 : Enters Tryd.prog 55 := fun args w => Tryd.call55 args w
theorem en79 : Enters Tryd.prog 79 := fun args w => Tryd.call79 args w
abbrev lv2 : List (Nat × List Nat) := [(0, [])]
abbrev lv3 : List (Nat × List Nat) := [(0, [0, 1]), (1, [1, 2]), (2, [1, 2, 5]), (3, []), (4, [1, 2]), (5, [1, 2, 6]), (6, [2, 6, 48]), (7, [2, 6]), (8, [2, 6, 48]), (9, [2, 6]), (10, [2, 6, 48]), (11, [2, 6]), (12, [2, 6, 48]), (13, [2, 6]), (14, [2, 6]), (15, [2]), (16, [2, 7])]
abbrev lv4 : List (Nat × List Nat) := [(0, [0]), (1, [1]), (2, []), (3, [1]), (4, []), (5, [1]), (6, []), (7, [])]
abbrev lv5 : List (Nat × List Nat) := [(0, []), (1, []), (2, [1, 2, 3])]
abbrev lv6 : List (Nat × List Nat) := [(0, [0]), (1, [0]), (2, []), (3, [0])]
abbrev lv7 : List (Nat × List Nat) := [(0, [0]), (1, [0]), (2, []), (3, [0])]
abbrev lv8 : List (Nat × List Nat) := [(0, [0]), (1, [0, 2])]
abbrev lv9 : List (Nat × List Nat) := [(0, [0]), (1, [0]), (2, []), (3, [0])]
abbrev lv10 : List (Nat × List Nat) := [(0, [0, 1]), (1, [0, 1])]
abbrev lv11 : List (Nat × List Nat) := [(0, [0]), (1, [1])]
abbrev lv12 : List (Nat × List Nat) := [(0, [0]), (1, [1]), (2, [1, 3]), (3, []), (4, [1]), (5, [1, 4]), (6, [1, 4, 26, 27, 28]), (7, [1, 4, 26, 27, 28]), (8, [1, 4, 6, 26, 27, 28]), (9, []), (10, [1, 4, 6, 26, 27, 28]), (11, [1, 4, 26, 27, 28]), (12, [1])]
abbrev lv13 : List (Nat × List Nat) := [(0, [0, 1]), (1, [0, 1])]
abbrev lv14 : List (Nat × List Nat) := [(0, [0, 1]), (1, [1, 2])]
abbrev lv15 : List (Nat × List Nat) := [(0, [0, 1]), (1, [2, 3]), (2, [3, 5]), (3, []), (4, [3, 5]), (5, [3, 5, 30, 31, 32]), (6, [3, 5, 30, 31, 32]), (7, [3, 5, 6, 7, 30, 31, 32]), (8, []), (9, [3, 5, 30, 31, 32]), (10, [3]), (11, [10])]
abbrev lv16 : List (Nat × List Nat) := [(0, [0, 1]), (1, [1, 2]), (2, [1, 2, 7]), (3, [7]), (4, [1, 2]), (5, []), (6, [1, 2]), (7, [8, 9]), (8, [8, 9, 37, 38]), (9, [8, 9, 37, 38]), (10, [8, 9, 11, 37, 38]), (11, [8, 9, 37, 38]), (12, [8, 9])]
abbrev lv17 : List (Nat × List Nat) := [(0, [0]), (1, [0, 2])]
abbrev lv18 : List (Nat × List Nat) := [(0, [0, 1]), (1, [0, 1]), (2, []), (3, [0, 1]), (4, [0, 1, 12, 13]), (5, [0, 1, 12, 13]), (6, [0, 1, 5, 12, 13]), (7, []), (8, [0, 1, 12, 13]), (9, [])]
abbrev lv19 : List (Nat × List Nat) := [(0, [0, 1]), (1, [0, 1]), (2, []), (3, [0, 1]), (4, [0, 1, 12, 13]), (5, [0, 1, 12, 13]), (6, [0, 1, 5, 12, 13]), (7, []), (8, [0, 1, 12, 13]), (9, [])]
abbrev lv20 : List (Nat × List Nat) := [(0, [0, 1]), (1, [0, 1]), (2, [0, 1, 7, 8]), (3, [0, 1, 7, 8]), (4, [0, 1, 5, 7, 8]), (5, [5]), (6, [0, 1, 7, 8]), (7, [])]
abbrev lv21 : List (Nat × List Nat) := [(0, [0, 1]), (1, [0, 1])]
abbrev lv22 : List (Nat × List Nat) := [(0, [0]), (1, [0])]
abbrev lv23 : List (Nat × List Nat) := [(0, [0]), (1, [1])]
abbrev lv24 : List (Nat × List Nat) := [(0, []), (1, [])]
abbrev lv25 : List (Nat × List Nat) := [(0, [0, 1]), (1, [0, 1]), (2, []), (3, [0, 1]), (4, [0, 1, 12, 13]), (5, [0, 1, 12, 13]), (6, [0, 1, 5, 12, 13]), (7, []), (8, [0, 1, 12, 13]), (9, [])]
abbrev lv26 : List (Nat × List Nat) := [(0, [0, 1]), (1, [0, 1])]
abbrev lv27 : List (Nat × List Nat) := [(0, [0, 1]), (1, [1, 2])]
abbrev lv28 : List (Nat × List Nat) := [(0, [0]), (1, [1]), (2, [1, 4]), (3, [1]), (4, [1, 4]), (5, [1]), (6, [1, 4]), (7, [1]), (8, [1, 4]), (9, [1]), (10, [1, 4]), (11, [1, 4]), (12, [1]), (13, [1, 4]), (14, [1]), (15, [])]
abbrev lv29 : List (Nat × List Nat) := [(0, [0, 1]), (1, [0, 1]), (2, [0, 1, 7, 8]), (3, [0, 1, 7, 8]), (4, [0, 1, 5, 7, 8]), (5, [5]), (6, [0, 1, 7, 8]), (7, [])]
abbrev lv30 : List (Nat × List Nat) := [(0, [0, 1, 2]), (1, [1, 3, 5]), (2, [1, 3, 5, 7]), (3, []), (4, [1, 3, 5]), (5, [1, 3, 5, 47]), (6, [1, 5]), (7, [3, 5, 47]), (8, [3, 5]), (9, [3, 5, 47]), (10, [3, 5]), (11, [3, 5, 47]), (12, [3, 5]), (13, [3, 47]), (14, [3]), (15, [])]
abbrev lv31 : List (Nat × List Nat) := [(0, [0]), (1, [1]), (2, [5]), (3, [5]), (4, [5]), (5, [5, 6]), (6, [5, 6]), (7, [5])]
abbrev lv32 : List (Nat × List Nat) := [(0, [0]), (1, [0]), (2, []), (3, [0])]
abbrev lv33 : List (Nat × List Nat) := [(0, [0, 1]), (1, [0, 1]), (2, [0, 1, 7, 8]), (3, [0, 1, 7, 8]), (4, [0, 1, 5, 7, 8]), (5, [5]), (6, [0, 1, 7, 8]), (7, [])]
abbrev lv34 : List (Nat × List Nat) := [(0, [0]), (1, [0]), (2, [0, 3]), (3, [0, 3, 4]), (4, [0, 3, 4, 5]), (5, [0, 3, 4, 5, 6]), (6, [0, 3, 4, 5, 6]), (7, [0, 3, 4, 5, 6]), (8, [0, 3, 4, 5, 6, 7]), (9, [0, 3, 4, 5, 6, 7]), (10, [0, 3, 4, 5, 6, 8]), (11, [0, 3, 5, 6, 8]), (12, [0, 3, 5]), (13, [0]), (14, [0, 3]), (15, [0, 9]), (16, [0, 9, 10]), (17, [0, 9, 10]), (18, [0, 9, 10, 12]), (19, [0, 9, 10, 12]), (20, [0, 9, 10, 12]), (21, [0, 9, 10, 11, 12]), (22, [0, 9, 10, 11, 12]), (23, [0, 9, 10, 11, 12]), (24, [0, 9, 10, 11, 12]), (25, [0, 9, 10, 12]), (26, [0, 9, 10, 12]), (27, [0, 9, 10, 12]), (28, [0, 9, 10, 12]), (29, [0, 9, 10, 12]), (30, [0, 9, 10, 11]), (31, [0, 9, 10, 11]), (32, [9])]
abbrev lv35 : List (Nat × List Nat) := [(0, [0, 1]), (1, [0, 1]), (2, [0, 1, 7, 8]), (3, [0, 1, 7, 8]), (4, [0, 1, 5, 7, 8]), (5, [5]), (6, [0, 1, 7, 8]), (7, [])]
abbrev lv36 : List (Nat × List Nat) := [(0, [0, 1, 2]), (1, [0, 1, 2])]
abbrev lv37 : List (Nat × List Nat) := [(0, [0]), (1, [1])]
abbrev lv38 : List (Nat × List Nat) := [(0, [0]), (1, [0]), (2, [0, 3]), (3, []), (4, [0, 3])]
abbrev lv39 : List (Nat × List Nat) := [(0, [0, 1, 2]), (1, [0, 1, 2])]
abbrev lv40 : List (Nat × List Nat) := [(0, [0, 1, 2]), (1, [1, 2, 3]), (2, [2, 3, 7]), (3, [2, 3]), (4, [2, 3, 7]), (5, [2, 3]), (6, [2, 3, 7]), (7, [2, 3]), (8, [2, 3, 7]), (9, [2, 3]), (10, [2, 3, 7]), (11, [2, 3]), (12, [2, 3, 7]), (13, [2, 3]), (14, [2, 3, 7]), (15, [2, 3, 7]), (16, [2, 3, 7]), (17, [2, 3]), (18, [2])]
abbrev lv41 : List (Nat × List Nat) := [(0, [0, 1]), (1, [1, 2])]
abbrev lv42 : List (Nat × List Nat) := [(0, [0, 1]), (1, [2, 3])]
abbrev lv43 : List (Nat × List Nat) := [(0, [0, 1, 2]), (1, [0]), (2, [0, 1, 2]), (3, [0, 1, 2]), (4, [0, 1]), (5, [0, 1, 2]), (6, [0])]
abbrev lv44 : List (Nat × List Nat) := [(0, [0, 1]), (1, [0, 1, 4, 5]), (2, [0, 1, 4, 5, 22]), (3, [0, 1, 4, 5, 22]), (4, [0, 1, 4, 5, 22]), (5, [0, 1, 4, 5, 22]), (6, [0, 4, 5]), (7, [0, 1, 4, 5, 22]), (8, [0, 1, 4, 5]), (9, [0, 1, 4, 5, 22]), (10, [0, 1, 4, 5]), (11, [0, 1, 4, 5]), (12, [0, 1, 5, 22]), (13, [0, 1, 5]), (14, [0]), (15, [0, 1, 5]), (16, [0, 1, 5])]
abbrev lv45 : List (Nat × List Nat) := [(0, [0, 1]), (1, [0, 1]), (2, [0, 1, 5]), (3, [0, 1, 5, 6]), (4, [0, 1, 5, 6, 14]), (5, [0, 1, 5, 6, 14, 15]), (6, [0, 1, 5, 6, 7, 8, 14]), (7, [0, 1, 5, 6, 7, 14]), (8, [0, 1, 5, 6, 7, 14]), (9, [0, 1, 5, 6, 14]), (10, [0, 1, 5, 6, 7, 14]), (11, [0, 1, 5, 7, 14]), (12, [0, 5, 6]), (13, [0, 5, 6]), (14, [0, 5]), (15, [0, 5, 9]), (16, [0, 9, 47, 48, 49]), (17, [0, 9, 47, 48, 49]), (18, [0, 9, 10, 11, 47, 48, 49]), (19, [0, 9, 47, 48, 49]), (20, [9])]
abbrev lv46 : List (Nat × List Nat) := [(0, [0]), (1, [0]), (2, [0]), (3, [6]), (4, [6]), (5, [6]), (6, [6]), (7, [6]), (8, [6]), (9, [6]), (10, [6]), (11, []), (12, []), (13, [0])]
abbrev lv48 : List (Nat × List Nat) := [(0, [0, 1]), (1, [1, 2])]
abbrev lv49 : List (Nat × List Nat) := [(0, [0, 1]), (1, [1, 2])]
abbrev lv50 : List (Nat × List Nat) := [(0, [0, 1]), (1, [0, 1])]
abbrev lv51 : List (Nat × List Nat) := [(0, [0, 1]), (1, [0, 1])]
abbrev lv52 : List (Nat × List Nat) := [(0, [0, 1]), (1, [0, 1]), (2, [0, 1, 5]), (3, [0, 1, 5, 6]), (4, [1, 5, 6]), (5, [0, 1]), (6, [1, 7]), (7, [1, 7]), (8, [])]
abbrev lv53 : List (Nat × List Nat) := [(0, [0, 1]), (1, [0, 1]), (2, [0, 1, 7, 8]), (3, [0, 1, 7, 8]), (4, [0, 1, 5, 7, 8]), (5, [5]), (6, [0, 1, 7, 8]), (7, [])]
abbrev lv54 : List (Nat × List Nat) := [(0, [0, 1]), (1, [0, 1]), (2, [0, 1]), (3, [0, 1, 19, 20]), (4, [0, 1, 19, 20]), (5, [0, 1, 5, 19, 20]), (6, [0, 1, 6, 19, 20]), (7, []), (8, [0, 1, 6, 19, 20]), (9, [1, 6]), (10, [0, 1, 19, 20]), (11, []), (12, [0, 1]), (13, [0, 1, 7]), (14, [0, 1, 7, 8]), (15, [0, 1, 7, 8]), (16, [0, 1, 7, 8, 9]), (17, [0, 1, 7, 8, 9, 10]), (18, [1, 10]), (19, [0, 1, 7, 8, 9, 10]), (20, [0, 1, 7, 9]), (21, [0, 1, 8, 9]), (22, [])]
abbrev lv55 : List (Nat × List Nat) := [(0, [0, 1]), (1, [0, 1]), (2, [0, 1]), (3, [0, 1, 15, 16]), (4, [0, 1, 15, 16]), (5, [0, 1, 5, 15, 16]), (6, [0, 1, 6, 15, 16]), (7, []), (8, [0, 1, 6, 15, 16]), (9, [1, 6]), (10, [0, 1, 15, 16]), (11, []), (12, [0, 1]), (13, [0, 1, 7]), (14, [0, 1, 7, 8]), (15, [0, 1, 7, 8]), (16, [0, 1, 7, 8, 9]), (17, [0, 1, 7, 8, 9, 10]), (18, [1, 10]), (19, [0, 1, 7, 8, 9, 10]), (20, [0, 1, 7, 9]), (21, [0, 1, 8, 9]), (22, [])]
abbrev lv79 : List (Nat × List Nat) := [(0, []), (1, []), (2, [])]
end Go.Proofs.YtbhnmolmkembdaaDoor
