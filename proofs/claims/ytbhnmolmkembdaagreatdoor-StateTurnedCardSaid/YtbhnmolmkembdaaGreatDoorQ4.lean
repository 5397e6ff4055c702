/- What the types and functions of this claim's program are, as rewriting wants it; written by a program of this session's own. No condition: closed facts. -/
import Derived.Test.YtbhnmolmkembdaaGreatDoorQ3
import Derived.Test.YtbhnmolmkembdaaGreatDoorProg
import Derived.Lib.LaidTab
import Derived.Lib.Space
import Derived.Deep.Slices
import Derived.ChangeSame
import Derived.WideKeyArgs
import Derived.WideShapes
import Derived.Carry
import Derived.RowKit
import Derived.OpenShut
import Derived.WalkKit
import Derived.ProofKit
import Derived.Test.YtbhnmolmkembdaaGreatDoorRows
import Derived.Test.YtbhnmolmkembdaaGreatDoorTie
import Derived.Test.YtbhnmolmkembdaaGreatDoorCards
import Derived.Stop.LaidErr
import Derived.MakeChecks
import Derived.LaidMore
import Derived.Stop.Joined
import Derived.SevenTiedAt
namespace Go.Proofs.YtbhnmolmkembdaaGreatDoor
open Go
@[go_sem] theorem tf_size3 : sizeT Tryz.prog 3 = 1 := by kernel_rfl
@[go_sem] theorem tf_agg3 : aggT Tryz.prog 3 = false := by kernel_rfl
@[go_sem] theorem tf_known3 : knownT Tryz.prog 3 = true := by kernel_rfl
@[go_sem] theorem tf_bytes3 : bytesT Tryz.prog 3 = 8 := by kernel_rfl
@[go_sem] theorem tf_zero3 (K : List AV → Prop) : zeroCellsT Tryz.prog 3 K = K [.r (.v (.int .i64 0))] := by kernel_rfl
@[go_sem] theorem tf_zis3 : (zeroT Tryz.prog 3).isSome = true := by kernel_rfl
@[go_sem] theorem tf_int3 : intT Tryz.prog 3 = some .i64 := by kernel_rfl
@[go_sem] theorem tf_flo3 : floatT Tryz.prog 3 = none := by kernel_rfl
@[go_sem] theorem tf_sl3 : sliceT Tryz.prog 3 = false := by kernel_rfl
@[go_sem] theorem tf_str3 : stringT Tryz.prog 3 = false := by kernel_rfl
@[go_sem] theorem tf_bool3 : boolT Tryz.prog 3 = false := by kernel_rfl
@[go_sem] theorem tf_ptr3 : ptrT Tryz.prog 3 = false := by kernel_rfl
@[go_sem] theorem tf_zval3 : zeroT Tryz.prog 3 = some (.int .i64 0) := by kernel_rfl
@[go_sem] theorem tf_elem3 : elemT Tryz.prog 3 = none := by kernel_rfl
@[go_sem] theorem tf_size4 : sizeT Tryz.prog 4 = 1 := by kernel_rfl
@[go_sem] theorem tf_agg4 : aggT Tryz.prog 4 = false := by kernel_rfl
@[go_sem] theorem tf_known4 : knownT Tryz.prog 4 = true := by kernel_rfl
@[go_sem] theorem tf_bytes4 : bytesT Tryz.prog 4 = 1 := by kernel_rfl
@[go_sem] theorem tf_zero4 (K : List AV → Prop) : zeroCellsT Tryz.prog 4 K = K [.r (.v (.bool false))] := by kernel_rfl
@[go_sem] theorem tf_zis4 : (zeroT Tryz.prog 4).isSome = true := by kernel_rfl
@[go_sem] theorem tf_int4 : intT Tryz.prog 4 = none := by kernel_rfl
@[go_sem] theorem tf_flo4 : floatT Tryz.prog 4 = none := by kernel_rfl
@[go_sem] theorem tf_sl4 : sliceT Tryz.prog 4 = false := by kernel_rfl
@[go_sem] theorem tf_str4 : stringT Tryz.prog 4 = false := by kernel_rfl
@[go_sem] theorem tf_bool4 : boolT Tryz.prog 4 = true := by kernel_rfl
@[go_sem] theorem tf_ptr4 : ptrT Tryz.prog 4 = false := by kernel_rfl
@[go_sem] theorem tf_zval4 : zeroT Tryz.prog 4 = some (.bool false) := by kernel_rfl
@[go_sem] theorem tf_elem4 : elemT Tryz.prog 4 = none := by kernel_rfl
@[go_sem] theorem tf_size5 : sizeT Tryz.prog 5 = 1 := by kernel_rfl
@[go_sem] theorem tf_agg5 : aggT Tryz.prog 5 = false := by kernel_rfl
@[go_sem] theorem tf_known5 : knownT Tryz.prog 5 = true := by kernel_rfl
@[go_sem] theorem tf_bytes5 : bytesT Tryz.prog 5 = 1 := by kernel_rfl
@[go_sem] theorem tf_zero5 (K : List AV → Prop) : zeroCellsT Tryz.prog 5 K = K [.r (.v (.int .u8 0))] := by kernel_rfl
@[go_sem] theorem tf_zis5 : (zeroT Tryz.prog 5).isSome = true := by kernel_rfl
@[go_sem] theorem tf_int5 : intT Tryz.prog 5 = some .u8 := by kernel_rfl
@[go_sem] theorem tf_flo5 : floatT Tryz.prog 5 = none := by kernel_rfl
@[go_sem] theorem tf_sl5 : sliceT Tryz.prog 5 = false := by kernel_rfl
@[go_sem] theorem tf_str5 : stringT Tryz.prog 5 = false := by kernel_rfl
@[go_sem] theorem tf_bool5 : boolT Tryz.prog 5 = false := by kernel_rfl
@[go_sem] theorem tf_ptr5 : ptrT Tryz.prog 5 = false := by kernel_rfl
@[go_sem] theorem tf_zval5 : zeroT Tryz.prog 5 = some (.int .u8 0) := by kernel_rfl
@[go_sem] theorem tf_elem5 : elemT Tryz.prog 5 = none := by kernel_rfl
@[go_sem] theorem tf_size9 : sizeT Tryz.prog 9 = 1 := by kernel_rfl
@[go_sem] theorem tf_agg9 : aggT Tryz.prog 9 = false := by kernel_rfl
@[go_sem] theorem tf_known9 : knownT Tryz.prog 9 = true := by kernel_rfl
@[go_sem] theorem tf_bytes9 : bytesT Tryz.prog 9 = 16 := by kernel_rfl
@[go_sem] theorem tf_zero9 (K : List AV → Prop) : zeroCellsT Tryz.prog 9 K = K [.r (.v (.string ⟨#[]⟩))] := by kernel_rfl
@[go_sem] theorem tf_zis9 : (zeroT Tryz.prog 9).isSome = true := by kernel_rfl
@[go_sem] theorem tf_int9 : intT Tryz.prog 9 = none := by kernel_rfl
@[go_sem] theorem tf_flo9 : floatT Tryz.prog 9 = none := by kernel_rfl
@[go_sem] theorem tf_sl9 : sliceT Tryz.prog 9 = false := by kernel_rfl
@[go_sem] theorem tf_str9 : stringT Tryz.prog 9 = true := by kernel_rfl
@[go_sem] theorem tf_bool9 : boolT Tryz.prog 9 = false := by kernel_rfl
@[go_sem] theorem tf_ptr9 : ptrT Tryz.prog 9 = false := by kernel_rfl
@[go_sem] theorem tf_zval9 : zeroT Tryz.prog 9 = some (.string ⟨#[]⟩) := by kernel_rfl
@[go_sem] theorem tf_elem9 : elemT Tryz.prog 9 = none := by kernel_rfl
@[go_sem] theorem tf_size21 : sizeT Tryz.prog 21 = 1 := by kernel_rfl
@[go_sem] theorem tf_agg21 : aggT Tryz.prog 21 = false := by kernel_rfl
@[go_sem] theorem tf_known21 : knownT Tryz.prog 21 = true := by kernel_rfl
@[go_sem] theorem tf_bytes21 : bytesT Tryz.prog 21 = 4 := by kernel_rfl
@[go_sem] theorem tf_zero21 (K : List AV → Prop) : zeroCellsT Tryz.prog 21 K = K [.r (.v (.int .i32 0))] := by kernel_rfl
@[go_sem] theorem tf_zis21 : (zeroT Tryz.prog 21).isSome = true := by kernel_rfl
@[go_sem] theorem tf_int21 : intT Tryz.prog 21 = some .i32 := by kernel_rfl
@[go_sem] theorem tf_flo21 : floatT Tryz.prog 21 = none := by kernel_rfl
@[go_sem] theorem tf_sl21 : sliceT Tryz.prog 21 = false := by kernel_rfl
@[go_sem] theorem tf_str21 : stringT Tryz.prog 21 = false := by kernel_rfl
@[go_sem] theorem tf_bool21 : boolT Tryz.prog 21 = false := by kernel_rfl
@[go_sem] theorem tf_ptr21 : ptrT Tryz.prog 21 = false := by kernel_rfl
@[go_sem] theorem tf_zval21 : zeroT Tryz.prog 21 = some (.int .i32 0) := by kernel_rfl
@[go_sem] theorem tf_elem21 : elemT Tryz.prog 21 = none := by kernel_rfl
@[go_sem] theorem tf_size22 : sizeT Tryz.prog 22 = 1 := by kernel_rfl
@[go_sem] theorem tf_agg22 : aggT Tryz.prog 22 = false := by kernel_rfl
@[go_sem] theorem tf_known22 : knownT Tryz.prog 22 = true := by kernel_rfl
@[go_sem] theorem tf_bytes22 : bytesT Tryz.prog 22 = 24 := by kernel_rfl
@[go_sem] theorem tf_zero22 (K : List AV → Prop) : zeroCellsT Tryz.prog 22 K = K [.r (.v (.slice none 0 0))] := by kernel_rfl
@[go_sem] theorem tf_zis22 : (zeroT Tryz.prog 22).isSome = true := by kernel_rfl
@[go_sem] theorem tf_int22 : intT Tryz.prog 22 = none := by kernel_rfl
@[go_sem] theorem tf_flo22 : floatT Tryz.prog 22 = none := by kernel_rfl
@[go_sem] theorem tf_sl22 : sliceT Tryz.prog 22 = true := by kernel_rfl
@[go_sem] theorem tf_str22 : stringT Tryz.prog 22 = false := by kernel_rfl
@[go_sem] theorem tf_bool22 : boolT Tryz.prog 22 = false := by kernel_rfl
@[go_sem] theorem tf_ptr22 : ptrT Tryz.prog 22 = false := by kernel_rfl
@[go_sem] theorem tf_zval22 : zeroT Tryz.prog 22 = some (.slice none 0 0) := by kernel_rfl
@[go_sem] theorem tf_elem22 : elemT Tryz.prog 22 = some 87 := by kernel_rfl
@[go_sem] theorem tf_size23 : sizeT Tryz.prog 23 = 1 := by kernel_rfl
@[go_sem] theorem tf_agg23 : aggT Tryz.prog 23 = false := by kernel_rfl
@[go_sem] theorem tf_known23 : knownT Tryz.prog 23 = true := by kernel_rfl
@[go_sem] theorem tf_bytes23 : bytesT Tryz.prog 23 = 24 := by kernel_rfl
@[go_sem] theorem tf_zero23 (K : List AV → Prop) : zeroCellsT Tryz.prog 23 K = K [.r (.v (.slice none 0 0))] := by kernel_rfl
@[go_sem] theorem tf_zis23 : (zeroT Tryz.prog 23).isSome = true := by kernel_rfl
@[go_sem] theorem tf_int23 : intT Tryz.prog 23 = none := by kernel_rfl
@[go_sem] theorem tf_flo23 : floatT Tryz.prog 23 = none := by kernel_rfl
@[go_sem] theorem tf_sl23 : sliceT Tryz.prog 23 = true := by kernel_rfl
@[go_sem] theorem tf_str23 : stringT Tryz.prog 23 = false := by kernel_rfl
@[go_sem] theorem tf_bool23 : boolT Tryz.prog 23 = false := by kernel_rfl
@[go_sem] theorem tf_ptr23 : ptrT Tryz.prog 23 = false := by kernel_rfl
@[go_sem] theorem tf_zval23 : zeroT Tryz.prog 23 = some (.slice none 0 0) := by kernel_rfl
@[go_sem] theorem tf_elem23 : elemT Tryz.prog 23 = some 50 := by kernel_rfl
@[go_sem] theorem tf_size24 : sizeT Tryz.prog 24 = 1 := by kernel_rfl
@[go_sem] theorem tf_agg24 : aggT Tryz.prog 24 = false := by kernel_rfl
@[go_sem] theorem tf_known24 : knownT Tryz.prog 24 = true := by kernel_rfl
@[go_sem] theorem tf_bytes24 : bytesT Tryz.prog 24 = 24 := by kernel_rfl
@[go_sem] theorem tf_zero24 (K : List AV → Prop) : zeroCellsT Tryz.prog 24 K = K [.r (.v (.slice none 0 0))] := by kernel_rfl
@[go_sem] theorem tf_zis24 : (zeroT Tryz.prog 24).isSome = true := by kernel_rfl
@[go_sem] theorem tf_int24 : intT Tryz.prog 24 = none := by kernel_rfl
@[go_sem] theorem tf_flo24 : floatT Tryz.prog 24 = none := by kernel_rfl
@[go_sem] theorem tf_sl24 : sliceT Tryz.prog 24 = true := by kernel_rfl
@[go_sem] theorem tf_str24 : stringT Tryz.prog 24 = false := by kernel_rfl
@[go_sem] theorem tf_bool24 : boolT Tryz.prog 24 = false := by kernel_rfl
@[go_sem] theorem tf_ptr24 : ptrT Tryz.prog 24 = false := by kernel_rfl
@[go_sem] theorem tf_zval24 : zeroT Tryz.prog 24 = some (.slice none 0 0) := by kernel_rfl
@[go_sem] theorem tf_elem24 : elemT Tryz.prog 24 = some 9 := by kernel_rfl
@[go_sem] theorem tf_size26 : sizeT Tryz.prog 26 = 3 := by kernel_rfl
@[go_sem] theorem tf_agg26 : aggT Tryz.prog 26 = true := by kernel_rfl
@[go_sem] theorem tf_known26 : knownT Tryz.prog 26 = true := by kernel_rfl
@[go_sem] theorem tf_bytes26 : bytesT Tryz.prog 26 = 72 := by kernel_rfl
@[go_sem] theorem tf_zero26 (K : List AV → Prop) : zeroCellsT Tryz.prog 26 K = K [.r (.v (.slice none 0 0)), .r (.v (.slice none 0 0)), .r (.v (.slice none 0 0))] := by kernel_rfl
@[go_sem] theorem tf_zis26 : (zeroT Tryz.prog 26).isSome = true := by kernel_rfl
@[go_sem] theorem tf_int26 : intT Tryz.prog 26 = none := by kernel_rfl
@[go_sem] theorem tf_flo26 : floatT Tryz.prog 26 = none := by kernel_rfl
@[go_sem] theorem tf_sl26 : sliceT Tryz.prog 26 = false := by kernel_rfl
@[go_sem] theorem tf_str26 : stringT Tryz.prog 26 = false := by kernel_rfl
@[go_sem] theorem tf_bool26 : boolT Tryz.prog 26 = false := by kernel_rfl
@[go_sem] theorem tf_ptr26 : ptrT Tryz.prog 26 = false := by kernel_rfl
@[go_sem] theorem tf_elem26 : elemT Tryz.prog 26 = none := by kernel_rfl
@[go_sem] theorem tf_struct26 : structT Tryz.prog 26 = true := by kernel_rfl
@[go_sem] theorem tf_bld26 : buildT Tryz.prog 26 = true := by kernel_rfl
@[go_sem] theorem tf_eqg26 : Tryz.prog.eqGuardType Tryz.prog.depth 26 = false := by kernel_rfl
@[go_sem] theorem tf_f26_0 : fieldT Tryz.prog 26 0 = some (0, 1) := by kernel_rfl
@[go_sem] theorem tf_part26_0 : partT Tryz.prog 26 0 = some (0, 1) := by kernel_rfl
@[go_sem] theorem tf_f26_1 : fieldT Tryz.prog 26 1 = some (1, 1) := by kernel_rfl
@[go_sem] theorem tf_part26_1 : partT Tryz.prog 26 1 = some (1, 1) := by kernel_rfl
@[go_sem] theorem tf_f26_2 : fieldT Tryz.prog 26 2 = some (2, 1) := by kernel_rfl
@[go_sem] theorem tf_part26_2 : partT Tryz.prog 26 2 = some (2, 1) := by kernel_rfl
@[go_sem] theorem tf_size27 : sizeT Tryz.prog 27 = 1 := by kernel_rfl
@[go_sem] theorem tf_agg27 : aggT Tryz.prog 27 = false := by kernel_rfl
@[go_sem] theorem tf_known27 : knownT Tryz.prog 27 = true := by kernel_rfl
@[go_sem] theorem tf_bytes27 : bytesT Tryz.prog 27 = 24 := by kernel_rfl
@[go_sem] theorem tf_zero27 (K : List AV → Prop) : zeroCellsT Tryz.prog 27 K = K [.r (.v (.slice none 0 0))] := by kernel_rfl
@[go_sem] theorem tf_zis27 : (zeroT Tryz.prog 27).isSome = true := by kernel_rfl
@[go_sem] theorem tf_int27 : intT Tryz.prog 27 = none := by kernel_rfl
@[go_sem] theorem tf_flo27 : floatT Tryz.prog 27 = none := by kernel_rfl
@[go_sem] theorem tf_sl27 : sliceT Tryz.prog 27 = true := by kernel_rfl
@[go_sem] theorem tf_str27 : stringT Tryz.prog 27 = false := by kernel_rfl
@[go_sem] theorem tf_bool27 : boolT Tryz.prog 27 = false := by kernel_rfl
@[go_sem] theorem tf_ptr27 : ptrT Tryz.prog 27 = false := by kernel_rfl
@[go_sem] theorem tf_zval27 : zeroT Tryz.prog 27 = some (.slice none 0 0) := by kernel_rfl
@[go_sem] theorem tf_elem27 : elemT Tryz.prog 27 = some 48 := by kernel_rfl
@[go_sem] theorem tf_size28 : sizeT Tryz.prog 28 = 1 := by kernel_rfl
@[go_sem] theorem tf_agg28 : aggT Tryz.prog 28 = false := by kernel_rfl
@[go_sem] theorem tf_known28 : knownT Tryz.prog 28 = true := by kernel_rfl
@[go_sem] theorem tf_bytes28 : bytesT Tryz.prog 28 = 24 := by kernel_rfl
@[go_sem] theorem tf_zero28 (K : List AV → Prop) : zeroCellsT Tryz.prog 28 K = K [.r (.v (.slice none 0 0))] := by kernel_rfl
@[go_sem] theorem tf_zis28 : (zeroT Tryz.prog 28).isSome = true := by kernel_rfl
@[go_sem] theorem tf_int28 : intT Tryz.prog 28 = none := by kernel_rfl
@[go_sem] theorem tf_flo28 : floatT Tryz.prog 28 = none := by kernel_rfl
@[go_sem] theorem tf_sl28 : sliceT Tryz.prog 28 = true := by kernel_rfl
@[go_sem] theorem tf_str28 : stringT Tryz.prog 28 = false := by kernel_rfl
@[go_sem] theorem tf_bool28 : boolT Tryz.prog 28 = false := by kernel_rfl
@[go_sem] theorem tf_ptr28 : ptrT Tryz.prog 28 = false := by kernel_rfl
@[go_sem] theorem tf_zval28 : zeroT Tryz.prog 28 = some (.slice none 0 0) := by kernel_rfl
@[go_sem] theorem tf_elem28 : elemT Tryz.prog 28 = some 97 := by kernel_rfl
@[go_sem] theorem tf_size29 : sizeT Tryz.prog 29 = 1 := by kernel_rfl
@[go_sem] theorem tf_agg29 : aggT Tryz.prog 29 = false := by kernel_rfl
@[go_sem] theorem tf_known29 : knownT Tryz.prog 29 = true := by kernel_rfl
@[go_sem] theorem tf_bytes29 : bytesT Tryz.prog 29 = 24 := by kernel_rfl
@[go_sem] theorem tf_zero29 (K : List AV → Prop) : zeroCellsT Tryz.prog 29 K = K [.r (.v (.slice none 0 0))] := by kernel_rfl
@[go_sem] theorem tf_zis29 : (zeroT Tryz.prog 29).isSome = true := by kernel_rfl
@[go_sem] theorem tf_int29 : intT Tryz.prog 29 = none := by kernel_rfl
@[go_sem] theorem tf_flo29 : floatT Tryz.prog 29 = none := by kernel_rfl
@[go_sem] theorem tf_sl29 : sliceT Tryz.prog 29 = true := by kernel_rfl
@[go_sem] theorem tf_str29 : stringT Tryz.prog 29 = false := by kernel_rfl
@[go_sem] theorem tf_bool29 : boolT Tryz.prog 29 = false := by kernel_rfl
@[go_sem] theorem tf_ptr29 : ptrT Tryz.prog 29 = false := by kernel_rfl
@[go_sem] theorem tf_zval29 : zeroT Tryz.prog 29 = some (.slice none 0 0) := by kernel_rfl
@[go_sem] theorem tf_elem29 : elemT Tryz.prog 29 = some 56 := by kernel_rfl
@[go_sem] theorem tf_size30 : sizeT Tryz.prog 30 = 1 := by kernel_rfl
@[go_sem] theorem tf_agg30 : aggT Tryz.prog 30 = false := by kernel_rfl
@[go_sem] theorem tf_known30 : knownT Tryz.prog 30 = true := by kernel_rfl
@[go_sem] theorem tf_bytes30 : bytesT Tryz.prog 30 = 24 := by kernel_rfl
@[go_sem] theorem tf_zero30 (K : List AV → Prop) : zeroCellsT Tryz.prog 30 K = K [.r (.v (.slice none 0 0))] := by kernel_rfl
@[go_sem] theorem tf_zis30 : (zeroT Tryz.prog 30).isSome = true := by kernel_rfl
@[go_sem] theorem tf_int30 : intT Tryz.prog 30 = none := by kernel_rfl
@[go_sem] theorem tf_flo30 : floatT Tryz.prog 30 = none := by kernel_rfl
@[go_sem] theorem tf_sl30 : sliceT Tryz.prog 30 = true := by kernel_rfl
@[go_sem] theorem tf_str30 : stringT Tryz.prog 30 = false := by kernel_rfl
@[go_sem] theorem tf_bool30 : boolT Tryz.prog 30 = false := by kernel_rfl
@[go_sem] theorem tf_ptr30 : ptrT Tryz.prog 30 = false := by kernel_rfl
@[go_sem] theorem tf_zval30 : zeroT Tryz.prog 30 = some (.slice none 0 0) := by kernel_rfl
@[go_sem] theorem tf_elem30 : elemT Tryz.prog 30 = some 127 := by kernel_rfl
@[go_sem] theorem tf_size32 : sizeT Tryz.prog 32 = 8 := by kernel_rfl
@[go_sem] theorem tf_agg32 : aggT Tryz.prog 32 = true := by kernel_rfl
@[go_sem] theorem tf_known32 : knownT Tryz.prog 32 = true := by kernel_rfl
@[go_sem] theorem tf_bytes32 : bytesT Tryz.prog 32 = 160 := by kernel_rfl
@[go_sem] theorem tf_zero32 (K : List AV → Prop) : zeroCellsT Tryz.prog 32 K = K [.r (.v (.slice none 0 0)), .r (.v (.slice none 0 0)), .r (.v (.slice none 0 0)), .r (.v (.slice none 0 0)), .r (.v (.slice none 0 0)), .r (.v (.slice none 0 0)), .r (.v (.int .i64 0)), .r (.v (.int .i64 0))] := by kernel_rfl
@[go_sem] theorem tf_zis32 : (zeroT Tryz.prog 32).isSome = true := by kernel_rfl
@[go_sem] theorem tf_int32 : intT Tryz.prog 32 = none := by kernel_rfl
@[go_sem] theorem tf_flo32 : floatT Tryz.prog 32 = none := by kernel_rfl
@[go_sem] theorem tf_sl32 : sliceT Tryz.prog 32 = false := by kernel_rfl
@[go_sem] theorem tf_str32 : stringT Tryz.prog 32 = false := by kernel_rfl
@[go_sem] theorem tf_bool32 : boolT Tryz.prog 32 = false := by kernel_rfl
@[go_sem] theorem tf_ptr32 : ptrT Tryz.prog 32 = false := by kernel_rfl
@[go_sem] theorem tf_elem32 : elemT Tryz.prog 32 = none := by kernel_rfl
@[go_sem] theorem tf_struct32 : structT Tryz.prog 32 = true := by kernel_rfl
@[go_sem] theorem tf_bld32 : buildT Tryz.prog 32 = true := by kernel_rfl
@[go_sem] theorem tf_eqg32 : Tryz.prog.eqGuardType Tryz.prog.depth 32 = false := by kernel_rfl
@[go_sem] theorem tf_f32_0 : fieldT Tryz.prog 32 0 = some (0, 1) := by kernel_rfl
@[go_sem] theorem tf_part32_0 : partT Tryz.prog 32 0 = some (0, 1) := by kernel_rfl
@[go_sem] theorem tf_f32_1 : fieldT Tryz.prog 32 1 = some (1, 1) := by kernel_rfl
@[go_sem] theorem tf_part32_1 : partT Tryz.prog 32 1 = some (1, 1) := by kernel_rfl
@[go_sem] theorem tf_f32_2 : fieldT Tryz.prog 32 2 = some (2, 1) := by kernel_rfl
@[go_sem] theorem tf_part32_2 : partT Tryz.prog 32 2 = some (2, 1) := by kernel_rfl
@[go_sem] theorem tf_f32_3 : fieldT Tryz.prog 32 3 = some (3, 1) := by kernel_rfl
@[go_sem] theorem tf_part32_3 : partT Tryz.prog 32 3 = some (3, 1) := by kernel_rfl
@[go_sem] theorem tf_f32_4 : fieldT Tryz.prog 32 4 = some (4, 1) := by kernel_rfl
@[go_sem] theorem tf_part32_4 : partT Tryz.prog 32 4 = some (4, 1) := by kernel_rfl
@[go_sem] theorem tf_f32_5 : fieldT Tryz.prog 32 5 = some (5, 1) := by kernel_rfl
@[go_sem] theorem tf_part32_5 : partT Tryz.prog 32 5 = some (5, 1) := by kernel_rfl
@[go_sem] theorem tf_f32_6 : fieldT Tryz.prog 32 6 = some (6, 1) := by kernel_rfl
@[go_sem] theorem tf_part32_6 : partT Tryz.prog 32 6 = some (6, 1) := by kernel_rfl
@[go_sem] theorem tf_f32_7 : fieldT Tryz.prog 32 7 = some (7, 1) := by kernel_rfl
@[go_sem] theorem tf_part32_7 : partT Tryz.prog 32 7 = some (7, 1) := by kernel_rfl
@[go_sem] theorem tf_size33 : sizeT Tryz.prog 33 = 1 := by kernel_rfl
@[go_sem] theorem tf_agg33 : aggT Tryz.prog 33 = false := by kernel_rfl
@[go_sem] theorem tf_known33 : knownT Tryz.prog 33 = true := by kernel_rfl
@[go_sem] theorem tf_bytes33 : bytesT Tryz.prog 33 = 8 := by kernel_rfl
@[go_sem] theorem tf_zero33 (K : List AV → Prop) : zeroCellsT Tryz.prog 33 K = K [.r (.v (.int .i64 0))] := by kernel_rfl
@[go_sem] theorem tf_zis33 : (zeroT Tryz.prog 33).isSome = true := by kernel_rfl
@[go_sem] theorem tf_int33 : intT Tryz.prog 33 = some .i64 := by kernel_rfl
@[go_sem] theorem tf_flo33 : floatT Tryz.prog 33 = none := by kernel_rfl
@[go_sem] theorem tf_sl33 : sliceT Tryz.prog 33 = false := by kernel_rfl
@[go_sem] theorem tf_str33 : stringT Tryz.prog 33 = false := by kernel_rfl
@[go_sem] theorem tf_bool33 : boolT Tryz.prog 33 = false := by kernel_rfl
@[go_sem] theorem tf_ptr33 : ptrT Tryz.prog 33 = false := by kernel_rfl
@[go_sem] theorem tf_zval33 : zeroT Tryz.prog 33 = some (.int .i64 0) := by kernel_rfl
@[go_sem] theorem tf_elem33 : elemT Tryz.prog 33 = none := by kernel_rfl
@[go_sem] theorem tf_size38 : sizeT Tryz.prog 38 = 1 := by kernel_rfl
@[go_sem] theorem tf_agg38 : aggT Tryz.prog 38 = false := by kernel_rfl
@[go_sem] theorem tf_known38 : knownT Tryz.prog 38 = true := by kernel_rfl
@[go_sem] theorem tf_bytes38 : bytesT Tryz.prog 38 = 24 := by kernel_rfl
@[go_sem] theorem tf_zero38 (K : List AV → Prop) : zeroCellsT Tryz.prog 38 K = K [.r (.v (.slice none 0 0))] := by kernel_rfl
@[go_sem] theorem tf_zis38 : (zeroT Tryz.prog 38).isSome = true := by kernel_rfl
@[go_sem] theorem tf_int38 : intT Tryz.prog 38 = none := by kernel_rfl
@[go_sem] theorem tf_flo38 : floatT Tryz.prog 38 = none := by kernel_rfl
@[go_sem] theorem tf_sl38 : sliceT Tryz.prog 38 = true := by kernel_rfl
@[go_sem] theorem tf_str38 : stringT Tryz.prog 38 = false := by kernel_rfl
@[go_sem] theorem tf_bool38 : boolT Tryz.prog 38 = false := by kernel_rfl
@[go_sem] theorem tf_ptr38 : ptrT Tryz.prog 38 = false := by kernel_rfl
@[go_sem] theorem tf_zval38 : zeroT Tryz.prog 38 = some (.slice none 0 0) := by kernel_rfl
@[go_sem] theorem tf_elem38 : elemT Tryz.prog 38 = some 3 := by kernel_rfl
@[go_sem] theorem tf_size46 : sizeT Tryz.prog 46 = 1 := by kernel_rfl
@[go_sem] theorem tf_agg46 : aggT Tryz.prog 46 = false := by kernel_rfl
@[go_sem] theorem tf_known46 : knownT Tryz.prog 46 = true := by kernel_rfl
@[go_sem] theorem tf_bytes46 : bytesT Tryz.prog 46 = 24 := by kernel_rfl
@[go_sem] theorem tf_zero46 (K : List AV → Prop) : zeroCellsT Tryz.prog 46 K = K [.r (.v (.slice none 0 0))] := by kernel_rfl
@[go_sem] theorem tf_zis46 : (zeroT Tryz.prog 46).isSome = true := by kernel_rfl
@[go_sem] theorem tf_int46 : intT Tryz.prog 46 = none := by kernel_rfl
@[go_sem] theorem tf_flo46 : floatT Tryz.prog 46 = none := by kernel_rfl
@[go_sem] theorem tf_sl46 : sliceT Tryz.prog 46 = true := by kernel_rfl
@[go_sem] theorem tf_str46 : stringT Tryz.prog 46 = false := by kernel_rfl
@[go_sem] theorem tf_bool46 : boolT Tryz.prog 46 = false := by kernel_rfl
@[go_sem] theorem tf_ptr46 : ptrT Tryz.prog 46 = false := by kernel_rfl
@[go_sem] theorem tf_zval46 : zeroT Tryz.prog 46 = some (.slice none 0 0) := by kernel_rfl
@[go_sem] theorem tf_elem46 : elemT Tryz.prog 46 = some 61 := by kernel_rfl
@[go_sem] theorem tf_size48 : sizeT Tryz.prog 48 = 4 := by kernel_rfl
@[go_sem] theorem tf_agg48 : aggT Tryz.prog 48 = true := by kernel_rfl
@[go_sem] theorem tf_known48 : knownT Tryz.prog 48 = true := by kernel_rfl
@[go_sem] theorem tf_bytes48 : bytesT Tryz.prog 48 = 64 := by kernel_rfl
@[go_sem] theorem tf_zero48 (K : List AV → Prop) : zeroCellsT Tryz.prog 48 K = K [.r (.v (.int .i64 0)), .r (.v (.int .i64 0)), .r (.v (.slice none 0 0)), .r (.v (.slice none 0 0))] := by kernel_rfl
@[go_sem] theorem tf_zis48 : (zeroT Tryz.prog 48).isSome = true := by kernel_rfl
@[go_sem] theorem tf_int48 : intT Tryz.prog 48 = none := by kernel_rfl
@[go_sem] theorem tf_flo48 : floatT Tryz.prog 48 = none := by kernel_rfl
@[go_sem] theorem tf_sl48 : sliceT Tryz.prog 48 = false := by kernel_rfl
@[go_sem] theorem tf_str48 : stringT Tryz.prog 48 = false := by kernel_rfl
@[go_sem] theorem tf_bool48 : boolT Tryz.prog 48 = false := by kernel_rfl
@[go_sem] theorem tf_ptr48 : ptrT Tryz.prog 48 = false := by kernel_rfl
@[go_sem] theorem tf_elem48 : elemT Tryz.prog 48 = none := by kernel_rfl
@[go_sem] theorem tf_struct48 : structT Tryz.prog 48 = true := by kernel_rfl
@[go_sem] theorem tf_bld48 : buildT Tryz.prog 48 = true := by kernel_rfl
@[go_sem] theorem tf_eqg48 : Tryz.prog.eqGuardType Tryz.prog.depth 48 = false := by kernel_rfl
@[go_sem] theorem tf_f48_0 : fieldT Tryz.prog 48 0 = some (0, 1) := by kernel_rfl
@[go_sem] theorem tf_part48_0 : partT Tryz.prog 48 0 = some (0, 1) := by kernel_rfl
@[go_sem] theorem tf_f48_1 : fieldT Tryz.prog 48 1 = some (1, 1) := by kernel_rfl
@[go_sem] theorem tf_part48_1 : partT Tryz.prog 48 1 = some (1, 1) := by kernel_rfl
@[go_sem] theorem tf_f48_2 : fieldT Tryz.prog 48 2 = some (2, 1) := by kernel_rfl
@[go_sem] theorem tf_part48_2 : partT Tryz.prog 48 2 = some (2, 1) := by kernel_rfl
@[go_sem] theorem tf_f48_3 : fieldT Tryz.prog 48 3 = some (3, 1) := by kernel_rfl
@[go_sem] theorem tf_part48_3 : partT Tryz.prog 48 3 = some (3, 1) := by kernel_rfl
@[go_sem] theorem tf_size50 : sizeT Tryz.prog 50 = 2 := by kernel_rfl
@[go_sem] theorem tf_agg50 : aggT Tryz.prog 50 = true := by kernel_rfl
@[go_sem] theorem tf_known50 : knownT Tryz.prog 50 = true := by kernel_rfl
@[go_sem] theorem tf_bytes50 : bytesT Tryz.prog 50 = 16 := by kernel_rfl
@[go_sem] theorem tf_zero50 (K : List AV → Prop) : zeroCellsT Tryz.prog 50 K = K [.r (.v (.int .i64 0)), .r (.v (.int .i64 0))] := by kernel_rfl
@[go_sem] theorem tf_zis50 : (zeroT Tryz.prog 50).isSome = true := by kernel_rfl
@[go_sem] theorem tf_int50 : intT Tryz.prog 50 = none := by kernel_rfl
@[go_sem] theorem tf_flo50 : floatT Tryz.prog 50 = none := by kernel_rfl
@[go_sem] theorem tf_sl50 : sliceT Tryz.prog 50 = false := by kernel_rfl
@[go_sem] theorem tf_str50 : stringT Tryz.prog 50 = false := by kernel_rfl
@[go_sem] theorem tf_bool50 : boolT Tryz.prog 50 = false := by kernel_rfl
@[go_sem] theorem tf_ptr50 : ptrT Tryz.prog 50 = false := by kernel_rfl
@[go_sem] theorem tf_elem50 : elemT Tryz.prog 50 = none := by kernel_rfl
@[go_sem] theorem tf_struct50 : structT Tryz.prog 50 = true := by kernel_rfl
@[go_sem] theorem tf_bld50 : buildT Tryz.prog 50 = true := by kernel_rfl
@[go_sem] theorem tf_eqg50 : Tryz.prog.eqGuardType Tryz.prog.depth 50 = false := by kernel_rfl
@[go_sem] theorem tf_f50_0 : fieldT Tryz.prog 50 0 = some (0, 1) := by kernel_rfl
@[go_sem] theorem tf_part50_0 : partT Tryz.prog 50 0 = some (0, 1) := by kernel_rfl
@[go_sem] theorem tf_f50_1 : fieldT Tryz.prog 50 1 = some (1, 1) := by kernel_rfl
@[go_sem] theorem tf_part50_1 : partT Tryz.prog 50 1 = some (1, 1) := by kernel_rfl
@[go_sem] theorem tf_kinds50 : kindsT Tryz.prog 8 50 = some [0, 0] := by kernel_rfl
@[go_sem] theorem tf_size56 : sizeT Tryz.prog 56 = 5 := by kernel_rfl
@[go_sem] theorem tf_agg56 : aggT Tryz.prog 56 = true := by kernel_rfl
@[go_sem] theorem tf_known56 : knownT Tryz.prog 56 = true := by kernel_rfl
@[go_sem] theorem tf_bytes56 : bytesT Tryz.prog 56 = 56 := by kernel_rfl
@[go_sem] theorem tf_zero56 (K : List AV → Prop) : zeroCellsT Tryz.prog 56 K = K [.r (.v (.slice none 0 0)), .r (.v (.int .i64 0)), .r (.v (.int .i64 0)), .r (.v (.int .i64 0)), .r (.v (.int .i64 0))] := by kernel_rfl
@[go_sem] theorem tf_zis56 : (zeroT Tryz.prog 56).isSome = true := by kernel_rfl
@[go_sem] theorem tf_int56 : intT Tryz.prog 56 = none := by kernel_rfl
@[go_sem] theorem tf_flo56 : floatT Tryz.prog 56 = none := by kernel_rfl
@[go_sem] theorem tf_sl56 : sliceT Tryz.prog 56 = false := by kernel_rfl
@[go_sem] theorem tf_str56 : stringT Tryz.prog 56 = false := by kernel_rfl
@[go_sem] theorem tf_bool56 : boolT Tryz.prog 56 = false := by kernel_rfl
@[go_sem] theorem tf_ptr56 : ptrT Tryz.prog 56 = false := by kernel_rfl
@[go_sem] theorem tf_elem56 : elemT Tryz.prog 56 = none := by kernel_rfl
@[go_sem] theorem tf_struct56 : structT Tryz.prog 56 = true := by kernel_rfl
@[go_sem] theorem tf_bld56 : buildT Tryz.prog 56 = true := by kernel_rfl
@[go_sem] theorem tf_eqg56 : Tryz.prog.eqGuardType Tryz.prog.depth 56 = false := by kernel_rfl
@[go_sem] theorem tf_f56_0 : fieldT Tryz.prog 56 0 = some (0, 1) := by kernel_rfl
@[go_sem] theorem tf_part56_0 : partT Tryz.prog 56 0 = some (0, 1) := by kernel_rfl
@[go_sem] theorem tf_f56_1 : fieldT Tryz.prog 56 1 = some (1, 1) := by kernel_rfl
@[go_sem] theorem tf_part56_1 : partT Tryz.prog 56 1 = some (1, 1) := by kernel_rfl
@[go_sem] theorem tf_f56_2 : fieldT Tryz.prog 56 2 = some (2, 1) := by kernel_rfl
@[go_sem] theorem tf_part56_2 : partT Tryz.prog 56 2 = some (2, 1) := by kernel_rfl
@[go_sem] theorem tf_f56_3 : fieldT Tryz.prog 56 3 = some (3, 2) := by kernel_rfl
@[go_sem] theorem tf_part56_3 : partT Tryz.prog 56 3 = some (3, 2) := by kernel_rfl
@[go_sem] theorem tf_size59 : sizeT Tryz.prog 59 = 1 := by kernel_rfl
@[go_sem] theorem tf_agg59 : aggT Tryz.prog 59 = false := by kernel_rfl
@[go_sem] theorem tf_known59 : knownT Tryz.prog 59 = true := by kernel_rfl
@[go_sem] theorem tf_bytes59 : bytesT Tryz.prog 59 = 24 := by kernel_rfl
@[go_sem] theorem tf_zero59 (K : List AV → Prop) : zeroCellsT Tryz.prog 59 K = K [.r (.v (.slice none 0 0))] := by kernel_rfl
@[go_sem] theorem tf_zis59 : (zeroT Tryz.prog 59).isSome = true := by kernel_rfl
@[go_sem] theorem tf_int59 : intT Tryz.prog 59 = none := by kernel_rfl
@[go_sem] theorem tf_flo59 : floatT Tryz.prog 59 = none := by kernel_rfl
@[go_sem] theorem tf_sl59 : sliceT Tryz.prog 59 = true := by kernel_rfl
@[go_sem] theorem tf_str59 : stringT Tryz.prog 59 = false := by kernel_rfl
@[go_sem] theorem tf_bool59 : boolT Tryz.prog 59 = false := by kernel_rfl
@[go_sem] theorem tf_ptr59 : ptrT Tryz.prog 59 = false := by kernel_rfl
@[go_sem] theorem tf_zval59 : zeroT Tryz.prog 59 = some (.slice none 0 0) := by kernel_rfl
@[go_sem] theorem tf_elem59 : elemT Tryz.prog 59 = some 81 := by kernel_rfl
@[go_sem] theorem tf_size61 : sizeT Tryz.prog 61 = 8 := by kernel_rfl
@[go_sem] theorem tf_agg61 : aggT Tryz.prog 61 = true := by kernel_rfl
@[go_sem] theorem tf_known61 : knownT Tryz.prog 61 = true := by kernel_rfl
@[go_sem] theorem tf_bytes61 : bytesT Tryz.prog 61 = 96 := by kernel_rfl
@[go_sem] theorem tf_zero61 (K : List AV → Prop) : zeroCellsT Tryz.prog 61 K = K [.r (.v (.int .i64 0)), .r (.v (.int .i64 0)), .r (.v (.int .i64 0)), .r (.v (.int .i64 0)), .r (.v (.int .i64 0)), .r (.v (.int .i64 0)), .r (.v (.slice none 0 0)), .r (.v (.slice none 0 0))] := by kernel_rfl
@[go_sem] theorem tf_zis61 : (zeroT Tryz.prog 61).isSome = true := by kernel_rfl
@[go_sem] theorem tf_int61 : intT Tryz.prog 61 = none := by kernel_rfl
@[go_sem] theorem tf_flo61 : floatT Tryz.prog 61 = none := by kernel_rfl
@[go_sem] theorem tf_sl61 : sliceT Tryz.prog 61 = false := by kernel_rfl
@[go_sem] theorem tf_str61 : stringT Tryz.prog 61 = false := by kernel_rfl
@[go_sem] theorem tf_bool61 : boolT Tryz.prog 61 = false := by kernel_rfl
@[go_sem] theorem tf_ptr61 : ptrT Tryz.prog 61 = false := by kernel_rfl
@[go_sem] theorem tf_elem61 : elemT Tryz.prog 61 = none := by kernel_rfl
@[go_sem] theorem tf_struct61 : structT Tryz.prog 61 = true := by kernel_rfl
@[go_sem] theorem tf_bld61 : buildT Tryz.prog 61 = true := by kernel_rfl
@[go_sem] theorem tf_eqg61 : Tryz.prog.eqGuardType Tryz.prog.depth 61 = false := by kernel_rfl
@[go_sem] theorem tf_f61_0 : fieldT Tryz.prog 61 0 = some (0, 1) := by kernel_rfl
@[go_sem] theorem tf_part61_0 : partT Tryz.prog 61 0 = some (0, 1) := by kernel_rfl
@[go_sem] theorem tf_f61_1 : fieldT Tryz.prog 61 1 = some (1, 1) := by kernel_rfl
@[go_sem] theorem tf_part61_1 : partT Tryz.prog 61 1 = some (1, 1) := by kernel_rfl
@[go_sem] theorem tf_f61_2 : fieldT Tryz.prog 61 2 = some (2, 1) := by kernel_rfl
@[go_sem] theorem tf_part61_2 : partT Tryz.prog 61 2 = some (2, 1) := by kernel_rfl
@[go_sem] theorem tf_f61_3 : fieldT Tryz.prog 61 3 = some (3, 1) := by kernel_rfl
@[go_sem] theorem tf_part61_3 : partT Tryz.prog 61 3 = some (3, 1) := by kernel_rfl
@[go_sem] theorem tf_f61_4 : fieldT Tryz.prog 61 4 = some (4, 2) := by kernel_rfl
@[go_sem] theorem tf_part61_4 : partT Tryz.prog 61 4 = some (4, 2) := by kernel_rfl
@[go_sem] theorem tf_f61_5 : fieldT Tryz.prog 61 5 = some (6, 1) := by kernel_rfl
@[go_sem] theorem tf_part61_5 : partT Tryz.prog 61 5 = some (6, 1) := by kernel_rfl
@[go_sem] theorem tf_f61_6 : fieldT Tryz.prog 61 6 = some (7, 1) := by kernel_rfl
@[go_sem] theorem tf_part61_6 : partT Tryz.prog 61 6 = some (7, 1) := by kernel_rfl
@[go_sem] theorem tf_size81 : sizeT Tryz.prog 81 = 2 := by kernel_rfl
@[go_sem] theorem tf_agg81 : aggT Tryz.prog 81 = true := by kernel_rfl
@[go_sem] theorem tf_known81 : knownT Tryz.prog 81 = true := by kernel_rfl
@[go_sem] theorem tf_bytes81 : bytesT Tryz.prog 81 = 16 := by kernel_rfl
@[go_sem] theorem tf_zero81 (K : List AV → Prop) : zeroCellsT Tryz.prog 81 K = K [.r (.v (.int .i64 0)), .r (.v (.int .i64 0))] := by kernel_rfl
@[go_sem] theorem tf_zis81 : (zeroT Tryz.prog 81).isSome = true := by kernel_rfl
@[go_sem] theorem tf_int81 : intT Tryz.prog 81 = none := by kernel_rfl
@[go_sem] theorem tf_flo81 : floatT Tryz.prog 81 = none := by kernel_rfl
@[go_sem] theorem tf_sl81 : sliceT Tryz.prog 81 = false := by kernel_rfl
@[go_sem] theorem tf_str81 : stringT Tryz.prog 81 = false := by kernel_rfl
@[go_sem] theorem tf_bool81 : boolT Tryz.prog 81 = false := by kernel_rfl
@[go_sem] theorem tf_ptr81 : ptrT Tryz.prog 81 = false := by kernel_rfl
@[go_sem] theorem tf_elem81 : elemT Tryz.prog 81 = none := by kernel_rfl
@[go_sem] theorem tf_struct81 : structT Tryz.prog 81 = true := by kernel_rfl
@[go_sem] theorem tf_bld81 : buildT Tryz.prog 81 = true := by kernel_rfl
@[go_sem] theorem tf_eqg81 : Tryz.prog.eqGuardType Tryz.prog.depth 81 = false := by kernel_rfl
@[go_sem] theorem tf_f81_0 : fieldT Tryz.prog 81 0 = some (0, 1) := by kernel_rfl
@[go_sem] theorem tf_part81_0 : partT Tryz.prog 81 0 = some (0, 1) := by kernel_rfl
@[go_sem] theorem tf_f81_1 : fieldT Tryz.prog 81 1 = some (1, 1) := by kernel_rfl
@[go_sem] theorem tf_part81_1 : partT Tryz.prog 81 1 = some (1, 1) := by kernel_rfl
@[go_sem] theorem tf_kinds81 : kindsT Tryz.prog 8 81 = some [0, 0] := by kernel_rfl
@[go_sem] theorem tf_size84 : sizeT Tryz.prog 84 = 5 := by kernel_rfl
@[go_sem] theorem tf_agg84 : aggT Tryz.prog 84 = true := by kernel_rfl
@[go_sem] theorem tf_known84 : knownT Tryz.prog 84 = true := by kernel_rfl
@[go_sem] theorem tf_bytes84 : bytesT Tryz.prog 84 = 40 := by kernel_rfl
@[go_sem] theorem tf_zero84 (K : List AV → Prop) : zeroCellsT Tryz.prog 84 K = K [.r (.v (.int .i64 0)), .r (.v (.int .i64 0)), .r (.v (.int .i64 0)), .r (.v (.int .i64 0)), .r (.v (.int .i64 0))] := by kernel_rfl
@[go_sem] theorem tf_zis84 : (zeroT Tryz.prog 84).isSome = true := by kernel_rfl
@[go_sem] theorem tf_int84 : intT Tryz.prog 84 = none := by kernel_rfl
@[go_sem] theorem tf_flo84 : floatT Tryz.prog 84 = none := by kernel_rfl
@[go_sem] theorem tf_sl84 : sliceT Tryz.prog 84 = false := by kernel_rfl
@[go_sem] theorem tf_str84 : stringT Tryz.prog 84 = false := by kernel_rfl
@[go_sem] theorem tf_bool84 : boolT Tryz.prog 84 = false := by kernel_rfl
@[go_sem] theorem tf_ptr84 : ptrT Tryz.prog 84 = false := by kernel_rfl
@[go_sem] theorem tf_elem84 : elemT Tryz.prog 84 = none := by kernel_rfl
@[go_sem] theorem tf_struct84 : structT Tryz.prog 84 = true := by kernel_rfl
@[go_sem] theorem tf_bld84 : buildT Tryz.prog 84 = true := by kernel_rfl
@[go_sem] theorem tf_eqg84 : Tryz.prog.eqGuardType Tryz.prog.depth 84 = false := by kernel_rfl
@[go_sem] theorem tf_f84_0 : fieldT Tryz.prog 84 0 = some (0, 1) := by kernel_rfl
@[go_sem] theorem tf_part84_0 : partT Tryz.prog 84 0 = some (0, 1) := by kernel_rfl
@[go_sem] theorem tf_f84_1 : fieldT Tryz.prog 84 1 = some (1, 1) := by kernel_rfl
@[go_sem] theorem tf_part84_1 : partT Tryz.prog 84 1 = some (1, 1) := by kernel_rfl
@[go_sem] theorem tf_f84_2 : fieldT Tryz.prog 84 2 = some (2, 1) := by kernel_rfl
@[go_sem] theorem tf_part84_2 : partT Tryz.prog 84 2 = some (2, 1) := by kernel_rfl
@[go_sem] theorem tf_f84_3 : fieldT Tryz.prog 84 3 = some (3, 1) := by kernel_rfl
@[go_sem] theorem tf_part84_3 : partT Tryz.prog 84 3 = some (3, 1) := by kernel_rfl
@[go_sem] theorem tf_f84_4 : fieldT Tryz.prog 84 4 = some (4, 1) := by kernel_rfl
@[go_sem] theorem tf_part84_4 : partT Tryz.prog 84 4 = some (4, 1) := by kernel_rfl
@[go_sem] theorem tf_kinds84 : kindsT Tryz.prog 8 84 = some [0, 0, 0, 0, 0] := by kernel_rfl
@[go_sem] theorem tf_size85 : sizeT Tryz.prog 85 = 1 := by kernel_rfl
@[go_sem] theorem tf_agg85 : aggT Tryz.prog 85 = false := by kernel_rfl
@[go_sem] theorem tf_known85 : knownT Tryz.prog 85 = true := by kernel_rfl
@[go_sem] theorem tf_bytes85 : bytesT Tryz.prog 85 = 24 := by kernel_rfl
@[go_sem] theorem tf_zero85 (K : List AV → Prop) : zeroCellsT Tryz.prog 85 K = K [.r (.v (.slice none 0 0))] := by kernel_rfl
@[go_sem] theorem tf_zis85 : (zeroT Tryz.prog 85).isSome = true := by kernel_rfl
@[go_sem] theorem tf_int85 : intT Tryz.prog 85 = none := by kernel_rfl
@[go_sem] theorem tf_flo85 : floatT Tryz.prog 85 = none := by kernel_rfl
@[go_sem] theorem tf_sl85 : sliceT Tryz.prog 85 = true := by kernel_rfl
@[go_sem] theorem tf_str85 : stringT Tryz.prog 85 = false := by kernel_rfl
@[go_sem] theorem tf_bool85 : boolT Tryz.prog 85 = false := by kernel_rfl
@[go_sem] theorem tf_ptr85 : ptrT Tryz.prog 85 = false := by kernel_rfl
@[go_sem] theorem tf_zval85 : zeroT Tryz.prog 85 = some (.slice none 0 0) := by kernel_rfl
@[go_sem] theorem tf_elem85 : elemT Tryz.prog 85 = some 84 := by kernel_rfl
@[go_sem] theorem tf_size87 : sizeT Tryz.prog 87 = 5 := by kernel_rfl
@[go_sem] theorem tf_agg87 : aggT Tryz.prog 87 = true := by kernel_rfl
@[go_sem] theorem tf_known87 : knownT Tryz.prog 87 = true := by kernel_rfl
@[go_sem] theorem tf_bytes87 : bytesT Tryz.prog 87 = 72 := by kernel_rfl
@[go_sem] theorem tf_zero87 (K : List AV → Prop) : zeroCellsT Tryz.prog 87 K = K [.r (.v (.int .i64 0)), .r (.v (.int .i64 0)), .r (.v (.bool false)), .r (.v (.slice none 0 0)), .r (.v (.slice none 0 0))] := by kernel_rfl
@[go_sem] theorem tf_zis87 : (zeroT Tryz.prog 87).isSome = true := by kernel_rfl
@[go_sem] theorem tf_int87 : intT Tryz.prog 87 = none := by kernel_rfl
@[go_sem] theorem tf_flo87 : floatT Tryz.prog 87 = none := by kernel_rfl
@[go_sem] theorem tf_sl87 : sliceT Tryz.prog 87 = false := by kernel_rfl
@[go_sem] theorem tf_str87 : stringT Tryz.prog 87 = false := by kernel_rfl
@[go_sem] theorem tf_bool87 : boolT Tryz.prog 87 = false := by kernel_rfl
@[go_sem] theorem tf_ptr87 : ptrT Tryz.prog 87 = false := by kernel_rfl
@[go_sem] theorem tf_elem87 : elemT Tryz.prog 87 = none := by kernel_rfl
@[go_sem] theorem tf_struct87 : structT Tryz.prog 87 = true := by kernel_rfl
@[go_sem] theorem tf_bld87 : buildT Tryz.prog 87 = true := by kernel_rfl
@[go_sem] theorem tf_eqg87 : Tryz.prog.eqGuardType Tryz.prog.depth 87 = false := by kernel_rfl
@[go_sem] theorem tf_f87_0 : fieldT Tryz.prog 87 0 = some (0, 1) := by kernel_rfl
@[go_sem] theorem tf_part87_0 : partT Tryz.prog 87 0 = some (0, 1) := by kernel_rfl
@[go_sem] theorem tf_f87_1 : fieldT Tryz.prog 87 1 = some (1, 1) := by kernel_rfl
@[go_sem] theorem tf_part87_1 : partT Tryz.prog 87 1 = some (1, 1) := by kernel_rfl
@[go_sem] theorem tf_f87_2 : fieldT Tryz.prog 87 2 = some (2, 1) := by kernel_rfl
@[go_sem] theorem tf_part87_2 : partT Tryz.prog 87 2 = some (2, 1) := by kernel_rfl
@[go_sem] theorem tf_f87_3 : fieldT Tryz.prog 87 3 = some (3, 1) := by kernel_rfl
@[go_sem] theorem tf_part87_3 : partT Tryz.prog 87 3 = some (3, 1) := by kernel_rfl
@[go_sem] theorem tf_f87_4 : fieldT Tryz.prog 87 4 = some (4, 1) := by kernel_rfl
@[go_sem] theorem tf_part87_4 : partT Tryz.prog 87 4 = some (4, 1) := by kernel_rfl
@[go_sem] theorem tf_size97 : sizeT Tryz.prog 97 = 2 := by kernel_rfl
@[go_sem] theorem tf_agg97 : aggT Tryz.prog 97 = true := by kernel_rfl
@[go_sem] theorem tf_known97 : knownT Tryz.prog 97 = true := by kernel_rfl
@[go_sem] theorem tf_bytes97 : bytesT Tryz.prog 97 = 16 := by kernel_rfl
@[go_sem] theorem tf_zero97 (K : List AV → Prop) : zeroCellsT Tryz.prog 97 K = K [.r (.v (.int .i64 0)), .r (.v (.int .i64 0))] := by kernel_rfl
@[go_sem] theorem tf_zis97 : (zeroT Tryz.prog 97).isSome = true := by kernel_rfl
@[go_sem] theorem tf_int97 : intT Tryz.prog 97 = none := by kernel_rfl
@[go_sem] theorem tf_flo97 : floatT Tryz.prog 97 = none := by kernel_rfl
@[go_sem] theorem tf_sl97 : sliceT Tryz.prog 97 = false := by kernel_rfl
@[go_sem] theorem tf_str97 : stringT Tryz.prog 97 = false := by kernel_rfl
@[go_sem] theorem tf_bool97 : boolT Tryz.prog 97 = false := by kernel_rfl
@[go_sem] theorem tf_ptr97 : ptrT Tryz.prog 97 = false := by kernel_rfl
@[go_sem] theorem tf_elem97 : elemT Tryz.prog 97 = none := by kernel_rfl
@[go_sem] theorem tf_struct97 : structT Tryz.prog 97 = true := by kernel_rfl
@[go_sem] theorem tf_bld97 : buildT Tryz.prog 97 = true := by kernel_rfl
@[go_sem] theorem tf_eqg97 : Tryz.prog.eqGuardType Tryz.prog.depth 97 = false := by kernel_rfl
@[go_sem] theorem tf_f97_0 : fieldT Tryz.prog 97 0 = some (0, 1) := by kernel_rfl
@[go_sem] theorem tf_part97_0 : partT Tryz.prog 97 0 = some (0, 1) := by kernel_rfl
@[go_sem] theorem tf_f97_1 : fieldT Tryz.prog 97 1 = some (1, 1) := by kernel_rfl
@[go_sem] theorem tf_part97_1 : partT Tryz.prog 97 1 = some (1, 1) := by kernel_rfl
@[go_sem] theorem tf_kinds97 : kindsT Tryz.prog 8 97 = some [0, 0] := by kernel_rfl
@[go_sem] theorem tf_size104 : sizeT Tryz.prog 104 = 1 := by kernel_rfl
@[go_sem] theorem tf_agg104 : aggT Tryz.prog 104 = false := by kernel_rfl
@[go_sem] theorem tf_known104 : knownT Tryz.prog 104 = true := by kernel_rfl
@[go_sem] theorem tf_bytes104 : bytesT Tryz.prog 104 = 8 := by kernel_rfl
@[go_sem] theorem tf_zero104 (K : List AV → Prop) : zeroCellsT Tryz.prog 104 K = K [.r (.v (.pointer none))] := by kernel_rfl
@[go_sem] theorem tf_zis104 : (zeroT Tryz.prog 104).isSome = true := by kernel_rfl
@[go_sem] theorem tf_int104 : intT Tryz.prog 104 = none := by kernel_rfl
@[go_sem] theorem tf_flo104 : floatT Tryz.prog 104 = none := by kernel_rfl
@[go_sem] theorem tf_sl104 : sliceT Tryz.prog 104 = false := by kernel_rfl
@[go_sem] theorem tf_str104 : stringT Tryz.prog 104 = false := by kernel_rfl
@[go_sem] theorem tf_bool104 : boolT Tryz.prog 104 = false := by kernel_rfl
@[go_sem] theorem tf_ptr104 : ptrT Tryz.prog 104 = true := by kernel_rfl
@[go_sem] theorem tf_elem104 : elemT Tryz.prog 104 = none := by kernel_rfl
@[go_sem] theorem tf_size108 : sizeT Tryz.prog 108 = 1 := by kernel_rfl
@[go_sem] theorem tf_agg108 : aggT Tryz.prog 108 = false := by kernel_rfl
@[go_sem] theorem tf_known108 : knownT Tryz.prog 108 = true := by kernel_rfl
@[go_sem] theorem tf_bytes108 : bytesT Tryz.prog 108 = 8 := by kernel_rfl
@[go_sem] theorem tf_zero108 (K : List AV → Prop) : zeroCellsT Tryz.prog 108 K = K [.r (.v (.pointer none))] := by kernel_rfl
@[go_sem] theorem tf_zis108 : (zeroT Tryz.prog 108).isSome = true := by kernel_rfl
@[go_sem] theorem tf_int108 : intT Tryz.prog 108 = none := by kernel_rfl
@[go_sem] theorem tf_flo108 : floatT Tryz.prog 108 = none := by kernel_rfl
@[go_sem] theorem tf_sl108 : sliceT Tryz.prog 108 = false := by kernel_rfl
@[go_sem] theorem tf_str108 : stringT Tryz.prog 108 = false := by kernel_rfl
@[go_sem] theorem tf_bool108 : boolT Tryz.prog 108 = false := by kernel_rfl
@[go_sem] theorem tf_ptr108 : ptrT Tryz.prog 108 = true := by kernel_rfl
@[go_sem] theorem tf_elem108 : elemT Tryz.prog 108 = none := by kernel_rfl
@[go_sem] theorem tf_size109 : sizeT Tryz.prog 109 = 1 := by kernel_rfl
@[go_sem] theorem tf_agg109 : aggT Tryz.prog 109 = false := by kernel_rfl
@[go_sem] theorem tf_known109 : knownT Tryz.prog 109 = true := by kernel_rfl
@[go_sem] theorem tf_bytes109 : bytesT Tryz.prog 109 = 8 := by kernel_rfl
@[go_sem] theorem tf_zero109 (K : List AV → Prop) : zeroCellsT Tryz.prog 109 K = K [.r (.v (.map none))] := by kernel_rfl
@[go_sem] theorem tf_zis109 : (zeroT Tryz.prog 109).isSome = true := by kernel_rfl
@[go_sem] theorem tf_int109 : intT Tryz.prog 109 = none := by kernel_rfl
@[go_sem] theorem tf_flo109 : floatT Tryz.prog 109 = none := by kernel_rfl
@[go_sem] theorem tf_sl109 : sliceT Tryz.prog 109 = false := by kernel_rfl
@[go_sem] theorem tf_str109 : stringT Tryz.prog 109 = false := by kernel_rfl
@[go_sem] theorem tf_bool109 : boolT Tryz.prog 109 = false := by kernel_rfl
@[go_sem] theorem tf_ptr109 : ptrT Tryz.prog 109 = false := by kernel_rfl
@[go_sem] theorem tf_elem109 : elemT Tryz.prog 109 = none := by kernel_rfl
@[go_sem] theorem tf_map109 : mapT Tryz.prog 109 = some (3, 3) := by kernel_rfl
@[go_sem] theorem tf_size110 : sizeT Tryz.prog 110 = 1 := by kernel_rfl
@[go_sem] theorem tf_agg110 : aggT Tryz.prog 110 = false := by kernel_rfl
@[go_sem] theorem tf_known110 : knownT Tryz.prog 110 = true := by kernel_rfl
@[go_sem] theorem tf_bytes110 : bytesT Tryz.prog 110 = 24 := by kernel_rfl
@[go_sem] theorem tf_zero110 (K : List AV → Prop) : zeroCellsT Tryz.prog 110 K = K [.r (.v (.slice none 0 0))] := by kernel_rfl
@[go_sem] theorem tf_zis110 : (zeroT Tryz.prog 110).isSome = true := by kernel_rfl
@[go_sem] theorem tf_int110 : intT Tryz.prog 110 = none := by kernel_rfl
@[go_sem] theorem tf_flo110 : floatT Tryz.prog 110 = none := by kernel_rfl
@[go_sem] theorem tf_sl110 : sliceT Tryz.prog 110 = true := by kernel_rfl
@[go_sem] theorem tf_str110 : stringT Tryz.prog 110 = false := by kernel_rfl
@[go_sem] theorem tf_bool110 : boolT Tryz.prog 110 = false := by kernel_rfl
@[go_sem] theorem tf_ptr110 : ptrT Tryz.prog 110 = false := by kernel_rfl
@[go_sem] theorem tf_zval110 : zeroT Tryz.prog 110 = some (.slice none 0 0) := by kernel_rfl
@[go_sem] theorem tf_elem110 : elemT Tryz.prog 110 = some 160 := by kernel_rfl
@[go_sem] theorem tf_size111 : sizeT Tryz.prog 111 = 1 := by kernel_rfl
@[go_sem] theorem tf_agg111 : aggT Tryz.prog 111 = false := by kernel_rfl
@[go_sem] theorem tf_known111 : knownT Tryz.prog 111 = true := by kernel_rfl
@[go_sem] theorem tf_bytes111 : bytesT Tryz.prog 111 = 24 := by kernel_rfl
@[go_sem] theorem tf_zero111 (K : List AV → Prop) : zeroCellsT Tryz.prog 111 K = K [.r (.v (.slice none 0 0))] := by kernel_rfl
@[go_sem] theorem tf_zis111 : (zeroT Tryz.prog 111).isSome = true := by kernel_rfl
@[go_sem] theorem tf_int111 : intT Tryz.prog 111 = none := by kernel_rfl
@[go_sem] theorem tf_flo111 : floatT Tryz.prog 111 = none := by kernel_rfl
@[go_sem] theorem tf_sl111 : sliceT Tryz.prog 111 = true := by kernel_rfl
@[go_sem] theorem tf_str111 : stringT Tryz.prog 111 = false := by kernel_rfl
@[go_sem] theorem tf_bool111 : boolT Tryz.prog 111 = false := by kernel_rfl
@[go_sem] theorem tf_ptr111 : ptrT Tryz.prog 111 = false := by kernel_rfl
@[go_sem] theorem tf_zval111 : zeroT Tryz.prog 111 = some (.slice none 0 0) := by kernel_rfl
@[go_sem] theorem tf_elem111 : elemT Tryz.prog 111 = some 147 := by kernel_rfl
@[go_sem] theorem tf_size113 : sizeT Tryz.prog 113 = 7 := by kernel_rfl
@[go_sem] theorem tf_agg113 : aggT Tryz.prog 113 = true := by kernel_rfl
@[go_sem] theorem tf_known113 : knownT Tryz.prog 113 = true := by kernel_rfl
@[go_sem] theorem tf_bytes113 : bytesT Tryz.prog 113 = 136 := by kernel_rfl
@[go_sem] theorem tf_zero113 (K : List AV → Prop) : zeroCellsT Tryz.prog 113 K = K [.r (.v (.slice none 0 0)), .r (.v (.slice none 0 0)), .r (.v (.slice none 0 0)), .r (.v (.pointer none)), .r (.v (.slice none 0 0)), .r (.v (.slice none 0 0)), .r (.v (.map none))] := by kernel_rfl
@[go_sem] theorem tf_zis113 : (zeroT Tryz.prog 113).isSome = true := by kernel_rfl
@[go_sem] theorem tf_int113 : intT Tryz.prog 113 = none := by kernel_rfl
@[go_sem] theorem tf_flo113 : floatT Tryz.prog 113 = none := by kernel_rfl
@[go_sem] theorem tf_sl113 : sliceT Tryz.prog 113 = false := by kernel_rfl
@[go_sem] theorem tf_str113 : stringT Tryz.prog 113 = false := by kernel_rfl
@[go_sem] theorem tf_bool113 : boolT Tryz.prog 113 = false := by kernel_rfl
@[go_sem] theorem tf_ptr113 : ptrT Tryz.prog 113 = false := by kernel_rfl
@[go_sem] theorem tf_elem113 : elemT Tryz.prog 113 = none := by kernel_rfl
@[go_sem] theorem tf_struct113 : structT Tryz.prog 113 = true := by kernel_rfl
@[go_sem] theorem tf_bld113 : buildT Tryz.prog 113 = true := by kernel_rfl
@[go_sem] theorem tf_eqg113 : Tryz.prog.eqGuardType Tryz.prog.depth 113 = false := by kernel_rfl
@[go_sem] theorem tf_f113_0 : fieldT Tryz.prog 113 0 = some (0, 3) := by kernel_rfl
@[go_sem] theorem tf_part113_0 : partT Tryz.prog 113 0 = some (0, 3) := by kernel_rfl
@[go_sem] theorem tf_f113_1 : fieldT Tryz.prog 113 1 = some (3, 1) := by kernel_rfl
@[go_sem] theorem tf_part113_1 : partT Tryz.prog 113 1 = some (3, 1) := by kernel_rfl
@[go_sem] theorem tf_f113_2 : fieldT Tryz.prog 113 2 = some (4, 1) := by kernel_rfl
@[go_sem] theorem tf_part113_2 : partT Tryz.prog 113 2 = some (4, 1) := by kernel_rfl
@[go_sem] theorem tf_f113_3 : fieldT Tryz.prog 113 3 = some (5, 1) := by kernel_rfl
@[go_sem] theorem tf_part113_3 : partT Tryz.prog 113 3 = some (5, 1) := by kernel_rfl
@[go_sem] theorem tf_f113_4 : fieldT Tryz.prog 113 4 = some (6, 1) := by kernel_rfl
@[go_sem] theorem tf_part113_4 : partT Tryz.prog 113 4 = some (6, 1) := by kernel_rfl
@[go_sem] theorem tf_size127 : sizeT Tryz.prog 127 = 3 := by kernel_rfl
@[go_sem] theorem tf_agg127 : aggT Tryz.prog 127 = true := by kernel_rfl
@[go_sem] theorem tf_known127 : knownT Tryz.prog 127 = true := by kernel_rfl
@[go_sem] theorem tf_bytes127 : bytesT Tryz.prog 127 = 24 := by kernel_rfl
@[go_sem] theorem tf_zero127 (K : List AV → Prop) : zeroCellsT Tryz.prog 127 K = K [.r (.v (.int .i64 0)), .r (.v (.int .i64 0)), .r (.v (.int .i64 0))] := by kernel_rfl
@[go_sem] theorem tf_zis127 : (zeroT Tryz.prog 127).isSome = true := by kernel_rfl
@[go_sem] theorem tf_int127 : intT Tryz.prog 127 = none := by kernel_rfl
@[go_sem] theorem tf_flo127 : floatT Tryz.prog 127 = none := by kernel_rfl
@[go_sem] theorem tf_sl127 : sliceT Tryz.prog 127 = false := by kernel_rfl
@[go_sem] theorem tf_str127 : stringT Tryz.prog 127 = false := by kernel_rfl
@[go_sem] theorem tf_bool127 : boolT Tryz.prog 127 = false := by kernel_rfl
@[go_sem] theorem tf_ptr127 : ptrT Tryz.prog 127 = false := by kernel_rfl
@[go_sem] theorem tf_elem127 : elemT Tryz.prog 127 = none := by kernel_rfl
@[go_sem] theorem tf_struct127 : structT Tryz.prog 127 = true := by kernel_rfl
@[go_sem] theorem tf_bld127 : buildT Tryz.prog 127 = true := by kernel_rfl
@[go_sem] theorem tf_eqg127 : Tryz.prog.eqGuardType Tryz.prog.depth 127 = false := by kernel_rfl
@[go_sem] theorem tf_f127_0 : fieldT Tryz.prog 127 0 = some (0, 1) := by kernel_rfl
@[go_sem] theorem tf_part127_0 : partT Tryz.prog 127 0 = some (0, 1) := by kernel_rfl
@[go_sem] theorem tf_f127_1 : fieldT Tryz.prog 127 1 = some (1, 2) := by kernel_rfl
@[go_sem] theorem tf_part127_1 : partT Tryz.prog 127 1 = some (1, 2) := by kernel_rfl
@[go_sem] theorem tf_kinds127 : kindsT Tryz.prog 8 127 = some [0, 0, 0] := by kernel_rfl
@[go_sem] theorem tf_size147 : sizeT Tryz.prog 147 = 1 := by kernel_rfl
@[go_sem] theorem tf_agg147 : aggT Tryz.prog 147 = false := by kernel_rfl
@[go_sem] theorem tf_known147 : knownT Tryz.prog 147 = true := by kernel_rfl
@[go_sem] theorem tf_bytes147 : bytesT Tryz.prog 147 = 24 := by kernel_rfl
@[go_sem] theorem tf_zero147 (K : List AV → Prop) : zeroCellsT Tryz.prog 147 K = K [.r (.v (.slice none 0 0))] := by kernel_rfl
@[go_sem] theorem tf_zis147 : (zeroT Tryz.prog 147).isSome = true := by kernel_rfl
@[go_sem] theorem tf_int147 : intT Tryz.prog 147 = none := by kernel_rfl
@[go_sem] theorem tf_flo147 : floatT Tryz.prog 147 = none := by kernel_rfl
@[go_sem] theorem tf_sl147 : sliceT Tryz.prog 147 = true := by kernel_rfl
@[go_sem] theorem tf_str147 : stringT Tryz.prog 147 = false := by kernel_rfl
@[go_sem] theorem tf_bool147 : boolT Tryz.prog 147 = false := by kernel_rfl
@[go_sem] theorem tf_ptr147 : ptrT Tryz.prog 147 = false := by kernel_rfl
@[go_sem] theorem tf_zval147 : zeroT Tryz.prog 147 = some (.slice none 0 0) := by kernel_rfl
@[go_sem] theorem tf_elem147 : elemT Tryz.prog 147 = some 4 := by kernel_rfl
@[go_sem] theorem tf_size151 : sizeT Tryz.prog 151 = 1 := by kernel_rfl
@[go_sem] theorem tf_agg151 : aggT Tryz.prog 151 = false := by kernel_rfl
@[go_sem] theorem tf_known151 : knownT Tryz.prog 151 = true := by kernel_rfl
@[go_sem] theorem tf_bytes151 : bytesT Tryz.prog 151 = 24 := by kernel_rfl
@[go_sem] theorem tf_zero151 (K : List AV → Prop) : zeroCellsT Tryz.prog 151 K = K [.r (.v (.slice none 0 0))] := by kernel_rfl
@[go_sem] theorem tf_zis151 : (zeroT Tryz.prog 151).isSome = true := by kernel_rfl
@[go_sem] theorem tf_int151 : intT Tryz.prog 151 = none := by kernel_rfl
@[go_sem] theorem tf_flo151 : floatT Tryz.prog 151 = none := by kernel_rfl
@[go_sem] theorem tf_sl151 : sliceT Tryz.prog 151 = true := by kernel_rfl
@[go_sem] theorem tf_str151 : stringT Tryz.prog 151 = false := by kernel_rfl
@[go_sem] theorem tf_bool151 : boolT Tryz.prog 151 = false := by kernel_rfl
@[go_sem] theorem tf_ptr151 : ptrT Tryz.prog 151 = false := by kernel_rfl
@[go_sem] theorem tf_zval151 : zeroT Tryz.prog 151 = some (.slice none 0 0) := by kernel_rfl
@[go_sem] theorem tf_elem151 : elemT Tryz.prog 151 = some 33 := by kernel_rfl
@[go_sem] theorem tf_size154 : sizeT Tryz.prog 154 = 1 := by kernel_rfl
@[go_sem] theorem tf_agg154 : aggT Tryz.prog 154 = false := by kernel_rfl
@[go_sem] theorem tf_known154 : knownT Tryz.prog 154 = true := by kernel_rfl
@[go_sem] theorem tf_bytes154 : bytesT Tryz.prog 154 = 8 := by kernel_rfl
@[go_sem] theorem tf_zero154 (K : List AV → Prop) : zeroCellsT Tryz.prog 154 K = K [.r (.v (.map none))] := by kernel_rfl
@[go_sem] theorem tf_zis154 : (zeroT Tryz.prog 154).isSome = true := by kernel_rfl
@[go_sem] theorem tf_int154 : intT Tryz.prog 154 = none := by kernel_rfl
@[go_sem] theorem tf_flo154 : floatT Tryz.prog 154 = none := by kernel_rfl
@[go_sem] theorem tf_sl154 : sliceT Tryz.prog 154 = false := by kernel_rfl
@[go_sem] theorem tf_str154 : stringT Tryz.prog 154 = false := by kernel_rfl
@[go_sem] theorem tf_bool154 : boolT Tryz.prog 154 = false := by kernel_rfl
@[go_sem] theorem tf_ptr154 : ptrT Tryz.prog 154 = false := by kernel_rfl
@[go_sem] theorem tf_elem154 : elemT Tryz.prog 154 = none := by kernel_rfl
@[go_sem] theorem tf_map154 : mapT Tryz.prog 154 = some (9, 3) := by kernel_rfl
@[go_sem] theorem tf_size158 : sizeT Tryz.prog 158 = 8 := by kernel_rfl
@[go_sem] theorem tf_agg158 : aggT Tryz.prog 158 = true := by kernel_rfl
@[go_sem] theorem tf_known158 : knownT Tryz.prog 158 = true := by kernel_rfl
@[go_sem] theorem tf_bytes158 : bytesT Tryz.prog 158 = 144 := by kernel_rfl
@[go_sem] theorem tf_zero158 (K : List AV → Prop) : zeroCellsT Tryz.prog 158 K = K [.r (.v (.slice none 0 0)), .r (.v (.slice none 0 0)), .r (.v (.slice none 0 0)), .r (.v (.int .i64 0)), .r (.v (.int .i64 0)), .r (.v (.bool false)), .r (.v (.slice none 0 0)), .r (.v (.slice none 0 0))] := by kernel_rfl
@[go_sem] theorem tf_zis158 : (zeroT Tryz.prog 158).isSome = true := by kernel_rfl
@[go_sem] theorem tf_int158 : intT Tryz.prog 158 = none := by kernel_rfl
@[go_sem] theorem tf_flo158 : floatT Tryz.prog 158 = none := by kernel_rfl
@[go_sem] theorem tf_sl158 : sliceT Tryz.prog 158 = false := by kernel_rfl
@[go_sem] theorem tf_str158 : stringT Tryz.prog 158 = false := by kernel_rfl
@[go_sem] theorem tf_bool158 : boolT Tryz.prog 158 = false := by kernel_rfl
@[go_sem] theorem tf_ptr158 : ptrT Tryz.prog 158 = false := by kernel_rfl
@[go_sem] theorem tf_elem158 : elemT Tryz.prog 158 = none := by kernel_rfl
@[go_sem] theorem tf_struct158 : structT Tryz.prog 158 = true := by kernel_rfl
@[go_sem] theorem tf_bld158 : buildT Tryz.prog 158 = true := by kernel_rfl
@[go_sem] theorem tf_eqg158 : Tryz.prog.eqGuardType Tryz.prog.depth 158 = false := by kernel_rfl
@[go_sem] theorem tf_f158_0 : fieldT Tryz.prog 158 0 = some (0, 3) := by kernel_rfl
@[go_sem] theorem tf_part158_0 : partT Tryz.prog 158 0 = some (0, 3) := by kernel_rfl
@[go_sem] theorem tf_f158_1 : fieldT Tryz.prog 158 1 = some (3, 5) := by kernel_rfl
@[go_sem] theorem tf_part158_1 : partT Tryz.prog 158 1 = some (3, 5) := by kernel_rfl
@[go_sem] theorem tf_size160 : sizeT Tryz.prog 160 = 1 := by kernel_rfl
@[go_sem] theorem tf_agg160 : aggT Tryz.prog 160 = false := by kernel_rfl
@[go_sem] theorem tf_known160 : knownT Tryz.prog 160 = true := by kernel_rfl
@[go_sem] theorem tf_bytes160 : bytesT Tryz.prog 160 = 24 := by kernel_rfl
@[go_sem] theorem tf_zero160 (K : List AV → Prop) : zeroCellsT Tryz.prog 160 K = K [.r (.v (.slice none 0 0))] := by kernel_rfl
@[go_sem] theorem tf_zis160 : (zeroT Tryz.prog 160).isSome = true := by kernel_rfl
@[go_sem] theorem tf_int160 : intT Tryz.prog 160 = none := by kernel_rfl
@[go_sem] theorem tf_flo160 : floatT Tryz.prog 160 = none := by kernel_rfl
@[go_sem] theorem tf_sl160 : sliceT Tryz.prog 160 = true := by kernel_rfl
@[go_sem] theorem tf_str160 : stringT Tryz.prog 160 = false := by kernel_rfl
@[go_sem] theorem tf_bool160 : boolT Tryz.prog 160 = false := by kernel_rfl
@[go_sem] theorem tf_ptr160 : ptrT Tryz.prog 160 = false := by kernel_rfl
@[go_sem] theorem tf_zval160 : zeroT Tryz.prog 160 = some (.slice none 0 0) := by kernel_rfl
@[go_sem] theorem tf_elem160 : elemT Tryz.prog 160 = some 59 := by kernel_rfl
@[go_sem] theorem tf_size179 : sizeT Tryz.prog 179 = 1 := by kernel_rfl
@[go_sem] theorem tf_agg179 : aggT Tryz.prog 179 = false := by kernel_rfl
@[go_sem] theorem tf_known179 : knownT Tryz.prog 179 = true := by kernel_rfl
@[go_sem] theorem tf_bytes179 : bytesT Tryz.prog 179 = 8 := by kernel_rfl
@[go_sem] theorem tf_zero179 (K : List AV → Prop) : zeroCellsT Tryz.prog 179 K = K [.r (.v (.float .f64 0))] := by kernel_rfl
@[go_sem] theorem tf_zis179 : (zeroT Tryz.prog 179).isSome = true := by kernel_rfl
@[go_sem] theorem tf_int179 : intT Tryz.prog 179 = none := by kernel_rfl
@[go_sem] theorem tf_flo179 : floatT Tryz.prog 179 = some .f64 := by kernel_rfl
@[go_sem] theorem tf_sl179 : sliceT Tryz.prog 179 = false := by kernel_rfl
@[go_sem] theorem tf_str179 : stringT Tryz.prog 179 = false := by kernel_rfl
@[go_sem] theorem tf_bool179 : boolT Tryz.prog 179 = false := by kernel_rfl
@[go_sem] theorem tf_ptr179 : ptrT Tryz.prog 179 = false := by kernel_rfl
@[go_sem] theorem tf_elem179 : elemT Tryz.prog 179 = none := by kernel_rfl
@[go_sem] theorem tf_size204 : sizeT Tryz.prog 204 = 1 := by kernel_rfl
@[go_sem] theorem tf_agg204 : aggT Tryz.prog 204 = false := by kernel_rfl
@[go_sem] theorem tf_known204 : knownT Tryz.prog 204 = true := by kernel_rfl
@[go_sem] theorem tf_bytes204 : bytesT Tryz.prog 204 = 8 := by kernel_rfl
@[go_sem] theorem tf_zero204 (K : List AV → Prop) : zeroCellsT Tryz.prog 204 K = K [.r (.v (.pointer none))] := by kernel_rfl
@[go_sem] theorem tf_zis204 : (zeroT Tryz.prog 204).isSome = true := by kernel_rfl
@[go_sem] theorem tf_int204 : intT Tryz.prog 204 = none := by kernel_rfl
@[go_sem] theorem tf_flo204 : floatT Tryz.prog 204 = none := by kernel_rfl
@[go_sem] theorem tf_sl204 : sliceT Tryz.prog 204 = false := by kernel_rfl
@[go_sem] theorem tf_str204 : stringT Tryz.prog 204 = false := by kernel_rfl
@[go_sem] theorem tf_bool204 : boolT Tryz.prog 204 = false := by kernel_rfl
@[go_sem] theorem tf_ptr204 : ptrT Tryz.prog 204 = true := by kernel_rfl
@[go_sem] theorem tf_elem204 : elemT Tryz.prog 204 = none := by kernel_rfl
@[go_sem] theorem tf_size206 : sizeT Tryz.prog 206 = 9 := by kernel_rfl
@[go_sem] theorem tf_agg206 : aggT Tryz.prog 206 = true := by kernel_rfl
@[go_sem] theorem tf_known206 : knownT Tryz.prog 206 = true := by kernel_rfl
@[go_sem] theorem tf_bytes206 : bytesT Tryz.prog 206 = 152 := by kernel_rfl
@[go_sem] theorem tf_zero206 (K : List AV → Prop) : zeroCellsT Tryz.prog 206 K = K [.r (.v (.int .i64 0)), .r (.v (.int .i64 0)), .r (.v (.bool false)), .r (.v (.slice none 0 0)), .r (.v (.slice none 0 0)), .r (.v (.slice none 0 0)), .r (.v (.slice none 0 0)), .r (.v (.slice none 0 0)), .r (.v (.bool false))] := by kernel_rfl
@[go_sem] theorem tf_zis206 : (zeroT Tryz.prog 206).isSome = true := by kernel_rfl
@[go_sem] theorem tf_int206 : intT Tryz.prog 206 = none := by kernel_rfl
@[go_sem] theorem tf_flo206 : floatT Tryz.prog 206 = none := by kernel_rfl
@[go_sem] theorem tf_sl206 : sliceT Tryz.prog 206 = false := by kernel_rfl
@[go_sem] theorem tf_str206 : stringT Tryz.prog 206 = false := by kernel_rfl
@[go_sem] theorem tf_bool206 : boolT Tryz.prog 206 = false := by kernel_rfl
@[go_sem] theorem tf_ptr206 : ptrT Tryz.prog 206 = false := by kernel_rfl
@[go_sem] theorem tf_elem206 : elemT Tryz.prog 206 = none := by kernel_rfl
@[go_sem] theorem tf_struct206 : structT Tryz.prog 206 = true := by kernel_rfl
@[go_sem] theorem tf_bld206 : buildT Tryz.prog 206 = true := by kernel_rfl
@[go_sem] theorem tf_eqg206 : Tryz.prog.eqGuardType Tryz.prog.depth 206 = false := by kernel_rfl
@[go_sem] theorem tf_f206_0 : fieldT Tryz.prog 206 0 = some (0, 5) := by kernel_rfl
@[go_sem] theorem tf_part206_0 : partT Tryz.prog 206 0 = some (0, 5) := by kernel_rfl
@[go_sem] theorem tf_f206_1 : fieldT Tryz.prog 206 1 = some (5, 1) := by kernel_rfl
@[go_sem] theorem tf_part206_1 : partT Tryz.prog 206 1 = some (5, 1) := by kernel_rfl
@[go_sem] theorem tf_f206_2 : fieldT Tryz.prog 206 2 = some (6, 1) := by kernel_rfl
@[go_sem] theorem tf_part206_2 : partT Tryz.prog 206 2 = some (6, 1) := by kernel_rfl
@[go_sem] theorem tf_f206_3 : fieldT Tryz.prog 206 3 = some (7, 1) := by kernel_rfl
@[go_sem] theorem tf_part206_3 : partT Tryz.prog 206 3 = some (7, 1) := by kernel_rfl
@[go_sem] theorem tf_f206_4 : fieldT Tryz.prog 206 4 = some (8, 1) := by kernel_rfl
@[go_sem] theorem tf_part206_4 : partT Tryz.prog 206 4 = some (8, 1) := by kernel_rfl
@[go_sem] theorem tf_size209 : sizeT Tryz.prog 209 = 1 := by kernel_rfl
@[go_sem] theorem tf_agg209 : aggT Tryz.prog 209 = false := by kernel_rfl
@[go_sem] theorem tf_known209 : knownT Tryz.prog 209 = true := by kernel_rfl
@[go_sem] theorem tf_bytes209 : bytesT Tryz.prog 209 = 8 := by kernel_rfl
@[go_sem] theorem tf_zero209 (K : List AV → Prop) : zeroCellsT Tryz.prog 209 K = K [.r (.v (.map none))] := by kernel_rfl
@[go_sem] theorem tf_zis209 : (zeroT Tryz.prog 209).isSome = true := by kernel_rfl
@[go_sem] theorem tf_int209 : intT Tryz.prog 209 = none := by kernel_rfl
@[go_sem] theorem tf_flo209 : floatT Tryz.prog 209 = none := by kernel_rfl
@[go_sem] theorem tf_sl209 : sliceT Tryz.prog 209 = false := by kernel_rfl
@[go_sem] theorem tf_str209 : stringT Tryz.prog 209 = false := by kernel_rfl
@[go_sem] theorem tf_bool209 : boolT Tryz.prog 209 = false := by kernel_rfl
@[go_sem] theorem tf_ptr209 : ptrT Tryz.prog 209 = false := by kernel_rfl
@[go_sem] theorem tf_elem209 : elemT Tryz.prog 209 = none := by kernel_rfl
@[go_sem] theorem tf_map209 : mapT Tryz.prog 209 = some (97, 3) := by kernel_rfl
@[go_sem] theorem tf_size221 : sizeT Tryz.prog 221 = 1 := by kernel_rfl
@[go_sem] theorem tf_agg221 : aggT Tryz.prog 221 = false := by kernel_rfl
@[go_sem] theorem tf_known221 : knownT Tryz.prog 221 = true := by kernel_rfl
@[go_sem] theorem tf_bytes221 : bytesT Tryz.prog 221 = 8 := by kernel_rfl
@[go_sem] theorem tf_zero221 (K : List AV → Prop) : zeroCellsT Tryz.prog 221 K = K [.r (.v (.int .u64 0))] := by kernel_rfl
@[go_sem] theorem tf_zis221 : (zeroT Tryz.prog 221).isSome = true := by kernel_rfl
@[go_sem] theorem tf_int221 : intT Tryz.prog 221 = some .u64 := by kernel_rfl
@[go_sem] theorem tf_flo221 : floatT Tryz.prog 221 = none := by kernel_rfl
@[go_sem] theorem tf_sl221 : sliceT Tryz.prog 221 = false := by kernel_rfl
@[go_sem] theorem tf_str221 : stringT Tryz.prog 221 = false := by kernel_rfl
@[go_sem] theorem tf_bool221 : boolT Tryz.prog 221 = false := by kernel_rfl
@[go_sem] theorem tf_ptr221 : ptrT Tryz.prog 221 = false := by kernel_rfl
@[go_sem] theorem tf_zval221 : zeroT Tryz.prog 221 = some (.int .u64 0) := by kernel_rfl
@[go_sem] theorem tf_elem221 : elemT Tryz.prog 221 = none := by kernel_rfl
@[go_sem] theorem tf_size223 : sizeT Tryz.prog 223 = 256 := by kernel_rfl
@[go_sem] theorem tf_agg223 : aggT Tryz.prog 223 = true := by kernel_rfl
@[go_sem] theorem tf_known223 : knownT Tryz.prog 223 = true := by kernel_rfl
@[go_sem] theorem tf_bytes223 : bytesT Tryz.prog 223 = 256 := by kernel_rfl
@[go_sem] theorem tf_int223 : intT Tryz.prog 223 = none := by kernel_rfl
@[go_sem] theorem tf_flo223 : floatT Tryz.prog 223 = none := by kernel_rfl
@[go_sem] theorem tf_sl223 : sliceT Tryz.prog 223 = false := by kernel_rfl
@[go_sem] theorem tf_str223 : stringT Tryz.prog 223 = false := by kernel_rfl
@[go_sem] theorem tf_bool223 : boolT Tryz.prog 223 = false := by kernel_rfl
@[go_sem] theorem tf_ptr223 : ptrT Tryz.prog 223 = false := by kernel_rfl
@[go_sem] theorem tf_elem223 : elemT Tryz.prog 223 = none := by kernel_rfl
@[go_sem] theorem tf_arr223 : arrT Tryz.prog 223 = some (256, 5) := by kernel_rfl
@[go_sem] theorem tf_bld223 : buildT Tryz.prog 223 = true := by kernel_rfl
@[go_sem] theorem tf_size226 : sizeT Tryz.prog 226 = 39 := by kernel_rfl
@[go_sem] theorem tf_agg226 : aggT Tryz.prog 226 = true := by kernel_rfl
@[go_sem] theorem tf_known226 : knownT Tryz.prog 226 = true := by kernel_rfl
@[go_sem] theorem tf_bytes226 : bytesT Tryz.prog 226 = 624 := by kernel_rfl
@[go_sem] theorem tf_zero226 (K : List AV → Prop) : zeroCellsT Tryz.prog 226 K = K [.r (.v (.string ⟨#[]⟩)), .r (.v (.string ⟨#[]⟩)), .r (.v (.string ⟨#[]⟩)), .r (.v (.string ⟨#[]⟩)), .r (.v (.string ⟨#[]⟩)), .r (.v (.string ⟨#[]⟩)), .r (.v (.string ⟨#[]⟩)), .r (.v (.string ⟨#[]⟩)), .r (.v (.string ⟨#[]⟩)), .r (.v (.string ⟨#[]⟩)), .r (.v (.string ⟨#[]⟩)), .r (.v (.string ⟨#[]⟩)), .r (.v (.string ⟨#[]⟩)), .r (.v (.string ⟨#[]⟩)), .r (.v (.string ⟨#[]⟩)), .r (.v (.string ⟨#[]⟩)), .r (.v (.string ⟨#[]⟩)), .r (.v (.string ⟨#[]⟩)), .r (.v (.string ⟨#[]⟩)), .r (.v (.string ⟨#[]⟩)), .r (.v (.string ⟨#[]⟩)), .r (.v (.string ⟨#[]⟩)), .r (.v (.string ⟨#[]⟩)), .r (.v (.string ⟨#[]⟩)), .r (.v (.string ⟨#[]⟩)), .r (.v (.string ⟨#[]⟩)), .r (.v (.string ⟨#[]⟩)), .r (.v (.string ⟨#[]⟩)), .r (.v (.string ⟨#[]⟩)), .r (.v (.string ⟨#[]⟩)), .r (.v (.string ⟨#[]⟩)), .r (.v (.string ⟨#[]⟩)), .r (.v (.string ⟨#[]⟩)), .r (.v (.string ⟨#[]⟩)), .r (.v (.string ⟨#[]⟩)), .r (.v (.string ⟨#[]⟩)), .r (.v (.string ⟨#[]⟩)), .r (.v (.string ⟨#[]⟩)), .r (.v (.string ⟨#[]⟩))] := by kernel_rfl
@[go_sem] theorem tf_zis226 : (zeroT Tryz.prog 226).isSome = true := by kernel_rfl
@[go_sem] theorem tf_int226 : intT Tryz.prog 226 = none := by kernel_rfl
@[go_sem] theorem tf_flo226 : floatT Tryz.prog 226 = none := by kernel_rfl
@[go_sem] theorem tf_sl226 : sliceT Tryz.prog 226 = false := by kernel_rfl
@[go_sem] theorem tf_str226 : stringT Tryz.prog 226 = false := by kernel_rfl
@[go_sem] theorem tf_bool226 : boolT Tryz.prog 226 = false := by kernel_rfl
@[go_sem] theorem tf_ptr226 : ptrT Tryz.prog 226 = false := by kernel_rfl
@[go_sem] theorem tf_elem226 : elemT Tryz.prog 226 = none := by kernel_rfl
@[go_sem] theorem tf_arr226 : arrT Tryz.prog 226 = some (39, 9) := by kernel_rfl
@[go_sem] theorem tf_bld226 : buildT Tryz.prog 226 = true := by kernel_rfl
@[go_sem] theorem tf_part226_0 : partT Tryz.prog 226 0 = some (0, 1) := by kernel_rfl
@[go_sem] theorem tf_part226_1 : partT Tryz.prog 226 1 = some (1, 1) := by kernel_rfl
@[go_sem] theorem tf_part226_2 : partT Tryz.prog 226 2 = some (2, 1) := by kernel_rfl
@[go_sem] theorem tf_part226_3 : partT Tryz.prog 226 3 = some (3, 1) := by kernel_rfl
@[go_sem] theorem tf_part226_4 : partT Tryz.prog 226 4 = some (4, 1) := by kernel_rfl
@[go_sem] theorem tf_part226_5 : partT Tryz.prog 226 5 = some (5, 1) := by kernel_rfl
@[go_sem] theorem tf_part226_6 : partT Tryz.prog 226 6 = some (6, 1) := by kernel_rfl
@[go_sem] theorem tf_part226_7 : partT Tryz.prog 226 7 = some (7, 1) := by kernel_rfl
@[go_sem] theorem tf_part226_8 : partT Tryz.prog 226 8 = some (8, 1) := by kernel_rfl
@[go_sem] theorem tf_part226_9 : partT Tryz.prog 226 9 = some (9, 1) := by kernel_rfl
@[go_sem] theorem tf_part226_10 : partT Tryz.prog 226 10 = some (10, 1) := by kernel_rfl
@[go_sem] theorem tf_part226_11 : partT Tryz.prog 226 11 = some (11, 1) := by kernel_rfl
@[go_sem] theorem tf_part226_12 : partT Tryz.prog 226 12 = some (12, 1) := by kernel_rfl
@[go_sem] theorem tf_part226_13 : partT Tryz.prog 226 13 = some (13, 1) := by kernel_rfl
@[go_sem] theorem tf_part226_14 : partT Tryz.prog 226 14 = some (14, 1) := by kernel_rfl
@[go_sem] theorem tf_part226_15 : partT Tryz.prog 226 15 = some (15, 1) := by kernel_rfl
@[go_sem] theorem tf_part226_16 : partT Tryz.prog 226 16 = some (16, 1) := by kernel_rfl
@[go_sem] theorem tf_part226_17 : partT Tryz.prog 226 17 = some (17, 1) := by kernel_rfl
@[go_sem] theorem tf_part226_18 : partT Tryz.prog 226 18 = some (18, 1) := by kernel_rfl
@[go_sem] theorem tf_part226_19 : partT Tryz.prog 226 19 = some (19, 1) := by kernel_rfl
@[go_sem] theorem tf_part226_20 : partT Tryz.prog 226 20 = some (20, 1) := by kernel_rfl
@[go_sem] theorem tf_part226_21 : partT Tryz.prog 226 21 = some (21, 1) := by kernel_rfl
@[go_sem] theorem tf_part226_22 : partT Tryz.prog 226 22 = some (22, 1) := by kernel_rfl
@[go_sem] theorem tf_part226_23 : partT Tryz.prog 226 23 = some (23, 1) := by kernel_rfl
@[go_sem] theorem tf_part226_24 : partT Tryz.prog 226 24 = some (24, 1) := by kernel_rfl
@[go_sem] theorem tf_part226_25 : partT Tryz.prog 226 25 = some (25, 1) := by kernel_rfl
@[go_sem] theorem tf_part226_26 : partT Tryz.prog 226 26 = some (26, 1) := by kernel_rfl
@[go_sem] theorem tf_part226_27 : partT Tryz.prog 226 27 = some (27, 1) := by kernel_rfl
@[go_sem] theorem tf_part226_28 : partT Tryz.prog 226 28 = some (28, 1) := by kernel_rfl
@[go_sem] theorem tf_part226_29 : partT Tryz.prog 226 29 = some (29, 1) := by kernel_rfl
@[go_sem] theorem tf_part226_30 : partT Tryz.prog 226 30 = some (30, 1) := by kernel_rfl
@[go_sem] theorem tf_part226_31 : partT Tryz.prog 226 31 = some (31, 1) := by kernel_rfl
@[go_sem] theorem tf_part226_32 : partT Tryz.prog 226 32 = some (32, 1) := by kernel_rfl
@[go_sem] theorem tf_part226_33 : partT Tryz.prog 226 33 = some (33, 1) := by kernel_rfl
@[go_sem] theorem tf_part226_34 : partT Tryz.prog 226 34 = some (34, 1) := by kernel_rfl
@[go_sem] theorem tf_part226_35 : partT Tryz.prog 226 35 = some (35, 1) := by kernel_rfl
@[go_sem] theorem tf_part226_36 : partT Tryz.prog 226 36 = some (36, 1) := by kernel_rfl
@[go_sem] theorem tf_part226_37 : partT Tryz.prog 226 37 = some (37, 1) := by kernel_rfl
@[go_sem] theorem tf_part226_38 : partT Tryz.prog 226 38 = some (38, 1) := by kernel_rfl
@[go_sem] theorem tf_size230 : sizeT Tryz.prog 230 = 1 := by kernel_rfl
@[go_sem] theorem tf_agg230 : aggT Tryz.prog 230 = false := by kernel_rfl
@[go_sem] theorem tf_known230 : knownT Tryz.prog 230 = true := by kernel_rfl
@[go_sem] theorem tf_bytes230 : bytesT Tryz.prog 230 = 24 := by kernel_rfl
@[go_sem] theorem tf_zero230 (K : List AV → Prop) : zeroCellsT Tryz.prog 230 K = K [.r (.v (.slice none 0 0))] := by kernel_rfl
@[go_sem] theorem tf_zis230 : (zeroT Tryz.prog 230).isSome = true := by kernel_rfl
@[go_sem] theorem tf_int230 : intT Tryz.prog 230 = none := by kernel_rfl
@[go_sem] theorem tf_flo230 : floatT Tryz.prog 230 = none := by kernel_rfl
@[go_sem] theorem tf_sl230 : sliceT Tryz.prog 230 = true := by kernel_rfl
@[go_sem] theorem tf_str230 : stringT Tryz.prog 230 = false := by kernel_rfl
@[go_sem] theorem tf_bool230 : boolT Tryz.prog 230 = false := by kernel_rfl
@[go_sem] theorem tf_ptr230 : ptrT Tryz.prog 230 = false := by kernel_rfl
@[go_sem] theorem tf_zval230 : zeroT Tryz.prog 230 = some (.slice none 0 0) := by kernel_rfl
@[go_sem] theorem tf_elem230 : elemT Tryz.prog 230 = some 232 := by kernel_rfl
@[go_sem] theorem tf_size232 : sizeT Tryz.prog 232 = 2 := by kernel_rfl
@[go_sem] theorem tf_agg232 : aggT Tryz.prog 232 = true := by kernel_rfl
@[go_sem] theorem tf_known232 : knownT Tryz.prog 232 = true := by kernel_rfl
@[go_sem] theorem tf_bytes232 : bytesT Tryz.prog 232 = 16 := by kernel_rfl
@[go_sem] theorem tf_zero232 (K : List AV → Prop) : zeroCellsT Tryz.prog 232 K = K [.r (.v (.int .i64 0)), .r (.v (.int .i64 0))] := by kernel_rfl
@[go_sem] theorem tf_zis232 : (zeroT Tryz.prog 232).isSome = true := by kernel_rfl
@[go_sem] theorem tf_int232 : intT Tryz.prog 232 = none := by kernel_rfl
@[go_sem] theorem tf_flo232 : floatT Tryz.prog 232 = none := by kernel_rfl
@[go_sem] theorem tf_sl232 : sliceT Tryz.prog 232 = false := by kernel_rfl
@[go_sem] theorem tf_str232 : stringT Tryz.prog 232 = false := by kernel_rfl
@[go_sem] theorem tf_bool232 : boolT Tryz.prog 232 = false := by kernel_rfl
@[go_sem] theorem tf_ptr232 : ptrT Tryz.prog 232 = false := by kernel_rfl
@[go_sem] theorem tf_elem232 : elemT Tryz.prog 232 = none := by kernel_rfl
@[go_sem] theorem tf_struct232 : structT Tryz.prog 232 = true := by kernel_rfl
@[go_sem] theorem tf_bld232 : buildT Tryz.prog 232 = true := by kernel_rfl
@[go_sem] theorem tf_eqg232 : Tryz.prog.eqGuardType Tryz.prog.depth 232 = false := by kernel_rfl
@[go_sem] theorem tf_f232_0 : fieldT Tryz.prog 232 0 = some (0, 1) := by kernel_rfl
@[go_sem] theorem tf_part232_0 : partT Tryz.prog 232 0 = some (0, 1) := by kernel_rfl
@[go_sem] theorem tf_f232_1 : fieldT Tryz.prog 232 1 = some (1, 1) := by kernel_rfl
@[go_sem] theorem tf_part232_1 : partT Tryz.prog 232 1 = some (1, 1) := by kernel_rfl
@[go_sem] theorem tf_kinds232 : kindsT Tryz.prog 8 232 = some [0, 0] := by kernel_rfl
@[go_sem] theorem tf_size233 : sizeT Tryz.prog 233 = 1 := by kernel_rfl
@[go_sem] theorem tf_agg233 : aggT Tryz.prog 233 = false := by kernel_rfl
@[go_sem] theorem tf_known233 : knownT Tryz.prog 233 = true := by kernel_rfl
@[go_sem] theorem tf_bytes233 : bytesT Tryz.prog 233 = 4 := by kernel_rfl
@[go_sem] theorem tf_zero233 (K : List AV → Prop) : zeroCellsT Tryz.prog 233 K = K [.r (.v (.int .u32 0))] := by kernel_rfl
@[go_sem] theorem tf_zis233 : (zeroT Tryz.prog 233).isSome = true := by kernel_rfl
@[go_sem] theorem tf_int233 : intT Tryz.prog 233 = some .u32 := by kernel_rfl
@[go_sem] theorem tf_flo233 : floatT Tryz.prog 233 = none := by kernel_rfl
@[go_sem] theorem tf_sl233 : sliceT Tryz.prog 233 = false := by kernel_rfl
@[go_sem] theorem tf_str233 : stringT Tryz.prog 233 = false := by kernel_rfl
@[go_sem] theorem tf_bool233 : boolT Tryz.prog 233 = false := by kernel_rfl
@[go_sem] theorem tf_ptr233 : ptrT Tryz.prog 233 = false := by kernel_rfl
@[go_sem] theorem tf_zval233 : zeroT Tryz.prog 233 = some (.int .u32 0) := by kernel_rfl
@[go_sem] theorem tf_elem233 : elemT Tryz.prog 233 = none := by kernel_rfl
@[go_sem] theorem tf_size235 : sizeT Tryz.prog 235 = 1 := by kernel_rfl
@[go_sem] theorem tf_agg235 : aggT Tryz.prog 235 = false := by kernel_rfl
@[go_sem] theorem tf_known235 : knownT Tryz.prog 235 = true := by kernel_rfl
@[go_sem] theorem tf_bytes235 : bytesT Tryz.prog 235 = 8 := by kernel_rfl
@[go_sem] theorem tf_zero235 (K : List AV → Prop) : zeroCellsT Tryz.prog 235 K = K [.r (.v (.pointer none))] := by kernel_rfl
@[go_sem] theorem tf_zis235 : (zeroT Tryz.prog 235).isSome = true := by kernel_rfl
@[go_sem] theorem tf_int235 : intT Tryz.prog 235 = none := by kernel_rfl
@[go_sem] theorem tf_flo235 : floatT Tryz.prog 235 = none := by kernel_rfl
@[go_sem] theorem tf_sl235 : sliceT Tryz.prog 235 = false := by kernel_rfl
@[go_sem] theorem tf_str235 : stringT Tryz.prog 235 = false := by kernel_rfl
@[go_sem] theorem tf_bool235 : boolT Tryz.prog 235 = false := by kernel_rfl
@[go_sem] theorem tf_ptr235 : ptrT Tryz.prog 235 = true := by kernel_rfl
@[go_sem] theorem tf_elem235 : elemT Tryz.prog 235 = none := by kernel_rfl
@[go_sem] theorem tf_size237 : sizeT Tryz.prog 237 = 1 := by kernel_rfl
@[go_sem] theorem tf_agg237 : aggT Tryz.prog 237 = false := by kernel_rfl
@[go_sem] theorem tf_known237 : knownT Tryz.prog 237 = true := by kernel_rfl
@[go_sem] theorem tf_bytes237 : bytesT Tryz.prog 237 = 24 := by kernel_rfl
@[go_sem] theorem tf_zero237 (K : List AV → Prop) : zeroCellsT Tryz.prog 237 K = K [.r (.v (.slice none 0 0))] := by kernel_rfl
@[go_sem] theorem tf_zis237 : (zeroT Tryz.prog 237).isSome = true := by kernel_rfl
@[go_sem] theorem tf_int237 : intT Tryz.prog 237 = none := by kernel_rfl
@[go_sem] theorem tf_flo237 : floatT Tryz.prog 237 = none := by kernel_rfl
@[go_sem] theorem tf_sl237 : sliceT Tryz.prog 237 = true := by kernel_rfl
@[go_sem] theorem tf_str237 : stringT Tryz.prog 237 = false := by kernel_rfl
@[go_sem] theorem tf_bool237 : boolT Tryz.prog 237 = false := by kernel_rfl
@[go_sem] theorem tf_ptr237 : ptrT Tryz.prog 237 = false := by kernel_rfl
@[go_sem] theorem tf_zval237 : zeroT Tryz.prog 237 = some (.slice none 0 0) := by kernel_rfl
@[go_sem] theorem tf_elem237 : elemT Tryz.prog 237 = some 243 := by kernel_rfl
@[go_sem] theorem tf_size238 : sizeT Tryz.prog 238 = 1 := by kernel_rfl
@[go_sem] theorem tf_agg238 : aggT Tryz.prog 238 = false := by kernel_rfl
@[go_sem] theorem tf_known238 : knownT Tryz.prog 238 = true := by kernel_rfl
@[go_sem] theorem tf_bytes238 : bytesT Tryz.prog 238 = 24 := by kernel_rfl
@[go_sem] theorem tf_zero238 (K : List AV → Prop) : zeroCellsT Tryz.prog 238 K = K [.r (.v (.slice none 0 0))] := by kernel_rfl
@[go_sem] theorem tf_zis238 : (zeroT Tryz.prog 238).isSome = true := by kernel_rfl
@[go_sem] theorem tf_int238 : intT Tryz.prog 238 = none := by kernel_rfl
@[go_sem] theorem tf_flo238 : floatT Tryz.prog 238 = none := by kernel_rfl
@[go_sem] theorem tf_sl238 : sliceT Tryz.prog 238 = true := by kernel_rfl
@[go_sem] theorem tf_str238 : stringT Tryz.prog 238 = false := by kernel_rfl
@[go_sem] theorem tf_bool238 : boolT Tryz.prog 238 = false := by kernel_rfl
@[go_sem] theorem tf_ptr238 : ptrT Tryz.prog 238 = false := by kernel_rfl
@[go_sem] theorem tf_zval238 : zeroT Tryz.prog 238 = some (.slice none 0 0) := by kernel_rfl
@[go_sem] theorem tf_elem238 : elemT Tryz.prog 238 = some 246 := by kernel_rfl
@[go_sem] theorem tf_size240 : sizeT Tryz.prog 240 = 3 := by kernel_rfl
@[go_sem] theorem tf_agg240 : aggT Tryz.prog 240 = true := by kernel_rfl
@[go_sem] theorem tf_known240 : knownT Tryz.prog 240 = true := by kernel_rfl
@[go_sem] theorem tf_bytes240 : bytesT Tryz.prog 240 = 56 := by kernel_rfl
@[go_sem] theorem tf_zero240 (K : List AV → Prop) : zeroCellsT Tryz.prog 240 K = K [.r (.v (.slice none 0 0)), .r (.v (.slice none 0 0)), .r (.v (.int .i64 0))] := by kernel_rfl
@[go_sem] theorem tf_zis240 : (zeroT Tryz.prog 240).isSome = true := by kernel_rfl
@[go_sem] theorem tf_int240 : intT Tryz.prog 240 = none := by kernel_rfl
@[go_sem] theorem tf_flo240 : floatT Tryz.prog 240 = none := by kernel_rfl
@[go_sem] theorem tf_sl240 : sliceT Tryz.prog 240 = false := by kernel_rfl
@[go_sem] theorem tf_str240 : stringT Tryz.prog 240 = false := by kernel_rfl
@[go_sem] theorem tf_bool240 : boolT Tryz.prog 240 = false := by kernel_rfl
@[go_sem] theorem tf_ptr240 : ptrT Tryz.prog 240 = false := by kernel_rfl
@[go_sem] theorem tf_elem240 : elemT Tryz.prog 240 = none := by kernel_rfl
@[go_sem] theorem tf_struct240 : structT Tryz.prog 240 = true := by kernel_rfl
@[go_sem] theorem tf_bld240 : buildT Tryz.prog 240 = true := by kernel_rfl
@[go_sem] theorem tf_eqg240 : Tryz.prog.eqGuardType Tryz.prog.depth 240 = false := by kernel_rfl
@[go_sem] theorem tf_f240_0 : fieldT Tryz.prog 240 0 = some (0, 1) := by kernel_rfl
@[go_sem] theorem tf_part240_0 : partT Tryz.prog 240 0 = some (0, 1) := by kernel_rfl
@[go_sem] theorem tf_f240_1 : fieldT Tryz.prog 240 1 = some (1, 1) := by kernel_rfl
@[go_sem] theorem tf_part240_1 : partT Tryz.prog 240 1 = some (1, 1) := by kernel_rfl
@[go_sem] theorem tf_f240_2 : fieldT Tryz.prog 240 2 = some (2, 1) := by kernel_rfl
@[go_sem] theorem tf_part240_2 : partT Tryz.prog 240 2 = some (2, 1) := by kernel_rfl
@[go_sem] theorem tf_size241 : sizeT Tryz.prog 241 = 1 := by kernel_rfl
@[go_sem] theorem tf_agg241 : aggT Tryz.prog 241 = false := by kernel_rfl
@[go_sem] theorem tf_known241 : knownT Tryz.prog 241 = true := by kernel_rfl
@[go_sem] theorem tf_bytes241 : bytesT Tryz.prog 241 = 2 := by kernel_rfl
@[go_sem] theorem tf_zero241 (K : List AV → Prop) : zeroCellsT Tryz.prog 241 K = K [.r (.v (.int .u16 0))] := by kernel_rfl
@[go_sem] theorem tf_zis241 : (zeroT Tryz.prog 241).isSome = true := by kernel_rfl
@[go_sem] theorem tf_int241 : intT Tryz.prog 241 = some .u16 := by kernel_rfl
@[go_sem] theorem tf_flo241 : floatT Tryz.prog 241 = none := by kernel_rfl
@[go_sem] theorem tf_sl241 : sliceT Tryz.prog 241 = false := by kernel_rfl
@[go_sem] theorem tf_str241 : stringT Tryz.prog 241 = false := by kernel_rfl
@[go_sem] theorem tf_bool241 : boolT Tryz.prog 241 = false := by kernel_rfl
@[go_sem] theorem tf_ptr241 : ptrT Tryz.prog 241 = false := by kernel_rfl
@[go_sem] theorem tf_zval241 : zeroT Tryz.prog 241 = some (.int .u16 0) := by kernel_rfl
@[go_sem] theorem tf_elem241 : elemT Tryz.prog 241 = none := by kernel_rfl
@[go_sem] theorem tf_size243 : sizeT Tryz.prog 243 = 3 := by kernel_rfl
@[go_sem] theorem tf_agg243 : aggT Tryz.prog 243 = true := by kernel_rfl
@[go_sem] theorem tf_known243 : knownT Tryz.prog 243 = true := by kernel_rfl
@[go_sem] theorem tf_bytes243 : bytesT Tryz.prog 243 = 6 := by kernel_rfl
@[go_sem] theorem tf_zero243 (K : List AV → Prop) : zeroCellsT Tryz.prog 243 K = K [.r (.v (.int .u16 0)), .r (.v (.int .u16 0)), .r (.v (.int .u16 0))] := by kernel_rfl
@[go_sem] theorem tf_zis243 : (zeroT Tryz.prog 243).isSome = true := by kernel_rfl
@[go_sem] theorem tf_int243 : intT Tryz.prog 243 = none := by kernel_rfl
@[go_sem] theorem tf_flo243 : floatT Tryz.prog 243 = none := by kernel_rfl
@[go_sem] theorem tf_sl243 : sliceT Tryz.prog 243 = false := by kernel_rfl
@[go_sem] theorem tf_str243 : stringT Tryz.prog 243 = false := by kernel_rfl
@[go_sem] theorem tf_bool243 : boolT Tryz.prog 243 = false := by kernel_rfl
@[go_sem] theorem tf_ptr243 : ptrT Tryz.prog 243 = false := by kernel_rfl
@[go_sem] theorem tf_elem243 : elemT Tryz.prog 243 = none := by kernel_rfl
@[go_sem] theorem tf_struct243 : structT Tryz.prog 243 = true := by kernel_rfl
@[go_sem] theorem tf_bld243 : buildT Tryz.prog 243 = true := by kernel_rfl
@[go_sem] theorem tf_eqg243 : Tryz.prog.eqGuardType Tryz.prog.depth 243 = false := by kernel_rfl
@[go_sem] theorem tf_f243_0 : fieldT Tryz.prog 243 0 = some (0, 1) := by kernel_rfl
@[go_sem] theorem tf_part243_0 : partT Tryz.prog 243 0 = some (0, 1) := by kernel_rfl
@[go_sem] theorem tf_f243_1 : fieldT Tryz.prog 243 1 = some (1, 1) := by kernel_rfl
@[go_sem] theorem tf_part243_1 : partT Tryz.prog 243 1 = some (1, 1) := by kernel_rfl
@[go_sem] theorem tf_f243_2 : fieldT Tryz.prog 243 2 = some (2, 1) := by kernel_rfl
@[go_sem] theorem tf_part243_2 : partT Tryz.prog 243 2 = some (2, 1) := by kernel_rfl
@[go_sem] theorem tf_kinds243 : kindsT Tryz.prog 8 243 = some [0, 0, 0] := by kernel_rfl
@[go_sem] theorem tf_size246 : sizeT Tryz.prog 246 = 3 := by kernel_rfl
@[go_sem] theorem tf_agg246 : aggT Tryz.prog 246 = true := by kernel_rfl
@[go_sem] theorem tf_known246 : knownT Tryz.prog 246 = true := by kernel_rfl
@[go_sem] theorem tf_bytes246 : bytesT Tryz.prog 246 = 12 := by kernel_rfl
@[go_sem] theorem tf_zero246 (K : List AV → Prop) : zeroCellsT Tryz.prog 246 K = K [.r (.v (.int .u32 0)), .r (.v (.int .u32 0)), .r (.v (.int .u32 0))] := by kernel_rfl
@[go_sem] theorem tf_zis246 : (zeroT Tryz.prog 246).isSome = true := by kernel_rfl
@[go_sem] theorem tf_int246 : intT Tryz.prog 246 = none := by kernel_rfl
@[go_sem] theorem tf_flo246 : floatT Tryz.prog 246 = none := by kernel_rfl
@[go_sem] theorem tf_sl246 : sliceT Tryz.prog 246 = false := by kernel_rfl
@[go_sem] theorem tf_str246 : stringT Tryz.prog 246 = false := by kernel_rfl
@[go_sem] theorem tf_bool246 : boolT Tryz.prog 246 = false := by kernel_rfl
@[go_sem] theorem tf_ptr246 : ptrT Tryz.prog 246 = false := by kernel_rfl
@[go_sem] theorem tf_elem246 : elemT Tryz.prog 246 = none := by kernel_rfl
@[go_sem] theorem tf_struct246 : structT Tryz.prog 246 = true := by kernel_rfl
@[go_sem] theorem tf_bld246 : buildT Tryz.prog 246 = true := by kernel_rfl
@[go_sem] theorem tf_eqg246 : Tryz.prog.eqGuardType Tryz.prog.depth 246 = false := by kernel_rfl
@[go_sem] theorem tf_f246_0 : fieldT Tryz.prog 246 0 = some (0, 1) := by kernel_rfl
@[go_sem] theorem tf_part246_0 : partT Tryz.prog 246 0 = some (0, 1) := by kernel_rfl
@[go_sem] theorem tf_f246_1 : fieldT Tryz.prog 246 1 = some (1, 1) := by kernel_rfl
@[go_sem] theorem tf_part246_1 : partT Tryz.prog 246 1 = some (1, 1) := by kernel_rfl
@[go_sem] theorem tf_f246_2 : fieldT Tryz.prog 246 2 = some (2, 1) := by kernel_rfl
@[go_sem] theorem tf_part246_2 : partT Tryz.prog 246 2 = some (2, 1) := by kernel_rfl
@[go_sem] theorem tf_kinds246 : kindsT Tryz.prog 8 246 = some [0, 0, 0] := by kernel_rfl
@[go_sem] theorem tf_size249 : sizeT Tryz.prog 249 = 1 := by kernel_rfl
@[go_sem] theorem tf_agg249 : aggT Tryz.prog 249 = false := by kernel_rfl
@[go_sem] theorem tf_known249 : knownT Tryz.prog 249 = true := by kernel_rfl
@[go_sem] theorem tf_bytes249 : bytesT Tryz.prog 249 = 8 := by kernel_rfl
@[go_sem] theorem tf_zero249 (K : List AV → Prop) : zeroCellsT Tryz.prog 249 K = K [.r (.v (.int .u64 0))] := by kernel_rfl
@[go_sem] theorem tf_zis249 : (zeroT Tryz.prog 249).isSome = true := by kernel_rfl
@[go_sem] theorem tf_int249 : intT Tryz.prog 249 = some .u64 := by kernel_rfl
@[go_sem] theorem tf_flo249 : floatT Tryz.prog 249 = none := by kernel_rfl
@[go_sem] theorem tf_sl249 : sliceT Tryz.prog 249 = false := by kernel_rfl
@[go_sem] theorem tf_str249 : stringT Tryz.prog 249 = false := by kernel_rfl
@[go_sem] theorem tf_bool249 : boolT Tryz.prog 249 = false := by kernel_rfl
@[go_sem] theorem tf_ptr249 : ptrT Tryz.prog 249 = false := by kernel_rfl
@[go_sem] theorem tf_zval249 : zeroT Tryz.prog 249 = some (.int .u64 0) := by kernel_rfl
@[go_sem] theorem tf_elem249 : elemT Tryz.prog 249 = none := by kernel_rfl
theorem en14 : Enters Tryz.prog 14 := fun args w => Tryz.call14 args w
theorem en15 : Enters Tryz.prog 15 := fun args w => Tryz.call15 args w
theorem en16 : Enters Tryz.prog 16 := fun args w => Tryz.call16 args w
theorem en17 : Enters Tryz.prog 17 := fun args w => Tryz.call17 args w
theorem en18 : Enters Tryz.prog 18 := fun args w => Tryz.call18 args w
theorem en19 : Enters Tryz.prog 19 := fun args w => Tryz.call19 args w
theorem en20 : Enters Tryz.prog 20 := fun args w => Tryz.call20 args w
theorem en21 : Enters Tryz.prog 21 := fun args w => Tryz.call21 args w
theorem en22 : Enters Tryz.prog 22 := fun args w => Tryz.call22 args w
theorem en23 : Enters Tryz.prog 23 := fun args w => Tryz.call23 args w
theorem en24 : Enters Tryz.prog 24 := fun args w => Tryz.call24 args w
theorem en25 : Enters Tryz.prog 25 := fun args w => Tryz.call25 args w
theorem en26 : Enters Tryz.prog 26 := fun args w => Tryz.call26 args w
theorem en27 : Enters Tryz.prog 27 := fun args w => Tryz.call27 args w
theorem en48 : Enters Tryz.prog 48 := fun args w => Tryz.call48 args w
theorem en49 : Enters Tryz.prog 49 := fun args w => Tryz.call49 args w
theorem en50 : Enters Tryz.prog 50 := fun args w => Tryz.call50 args w
theorem en51 : Enters Tryz.prog 51 := fun args w => Tryz.call51 args w
theorem en52 : Enters Tryz.prog 52 := fun args w => Tryz.call52 args w
theorem en53 : Enters Tryz.prog 53 := fun args w => Tryz.call53 args w
theorem en54 : Enters Tryz.prog 54 := fun args w => Tryz.call54 args w
theorem en55 : Enters Tryz.prog 55 := fun args w => Tryz.call55 args w
theorem en56 : Enters Tryz.prog 56 := fun args w => Tryz.call56 args w
theorem en57 : Enters Tryz.prog 57 := fun args w => Tryz.call57 args w
theorem en58 : Enters Tryz.prog 58 := fun args w => Tryz.call58 args w
theorem en59 : Enters Tryz.prog 59 := fun args w => Tryz.call59 args w
theorem en60 : Enters Tryz.prog 60 := fun args w => Tryz.call60 args w
theorem en61 : Enters Tryz.prog 61 := fun args w => Tryz.call61 args w
theorem en62 : Enters Tryz.prog 62 := fun args w => Tryz.call62 args w
theorem en63 : Enters Tryz.prog 63 := fun args w => Tryz.call63 args w
theorem en64 : Enters Tryz.prog 64 := fun args w => Tryz.call64 args w
theorem en65 : Enters Tryz.prog 65 := fun args w => Tryz.call65 args w
theorem en66 : Enters Tryz.prog 66 := fun args w => Tryz.call66 args w
theorem en67 : Enters Tryz.prog 67 := fun args w => Tryz.call67 args w
theorem en68 : Enters Tryz.prog 68 := fun args w => Tryz.call68 args w
theorem en69 : Enters Tryz.prog 69 := fun args w => Tryz.call69 args w
theorem en70 : Enters Tryz.prog 70 := fun args w => Tryz.call70 args w
theorem en71 : Enters Tryz.prog 71 := fun args w => Tryz.call71 args w
theorem en72 : Enters Tryz.prog 72 := fun args w => Tryz.call72 args w
theorem en83 : Enters Tryz.prog 83 := fun args w => Tryz.call83 args w
theorem en89 : Enters Tryz.prog 89 := fun args w => Tryz.call89 args w
theorem en97 : Enters Tryz.prog 97 := fun args w => Tryz.call97 args w
theorem en98 : Enters Tryz.prog 98 := fun args w => Tryz.call98 args w
theorem en99 : Enters Tryz.prog 99 := fun args w => Tryz.call99 args w
theorem en100 : Enters Tryz.prog 100 := fun args w => Tryz.call100 args w
theorem en101 : Enters Tryz.prog 101 := fun args w => Tryz.call101 args w
theorem en102 : Enters Tryz.prog 102 := fun args w => Tryz.call102 args w
theorem en103 : Enters Tryz.prog 103 := fun args w => Tryz.call103 args w
theorem en104 : Enters Tryz.prog 104 := fun args w => Tryz.call104 args w
theorem en105 : Enters Tryz.prog 105 := fun args w => Tryz.call105 args w
theorem en106 : Enters Tryz.prog 106 := fun args w => Tryz.call106 args w
theorem en107 : Enters Tryz.prog 107 := fun args w => Tryz.call107 args w
theorem en108 : Enters Tryz.prog 108 := fun args w => Tryz.call108 args w
theorem en109 : Enters Tryz.prog 109 := fun args w => Tryz.call109 args w
theorem en110 : Enters Tryz.prog 110 := fun args w => Tryz.call110 args w
theorem en111 : Enters Tryz.prog 111 := fun args w => Tryz.call111 args w
theorem en112 : Enters Tryz.prog 112 := fun args w => Tryz.call112 args w
theorem en113 : Enters Tryz.prog 113 := fun args w => Tryz.call113 args w
theorem en114 : Enters Tryz.prog 114 := fun args w => Tryz.call114 args w
theorem en115 : Enters Tryz.prog 115 := fun args w => Tryz.call115 args w
theorem en116 : Enters Tryz.prog 116 := fun args w => Tryz.call116 args w
theorem en117 : Enters Tryz.prog 117 := fun args w => Tryz.call117 args w
theorem en118 : Enters Tryz.prog 118 := fun args w => Tryz.call118 args w
theorem en119 : Enters Tryz.prog 119 := fun args w => Tryz.call119 args w
theorem en120 : Enters Tryz.prog 120 := fun args w => Tryz.call120 args w
theorem en121 : Enters Tryz.prog 121 := fun args w => Tryz.call121 args w
theorem en122 : Enters Tryz.prog 122 := fun args w => Tryz.call122 args w
theorem en123 : Enters Tryz.prog 123 := fun args w => Tryz.call123 args w
theorem en124 : Enters Tryz.prog 124 := fun args w => Tryz.call124 args w
theorem en125 : Enters Tryz.prog 125 := fun args w => Tryz.call125 args w
theorem en126 : Enters Tryz.prog 126 := fun args w => Tryz.call126 args w
theorem en127 : Enters Tryz.prog 127 := fun args w => Tryz.call127 args w
theorem en128 : Enters Tryz.prog 128 := fun args w => Tryz.call128 args w
theorem en129 : Enters Tryz.prog 129 := fun args w => Tryz.call129 args w
theorem en130 : Enters Tryz.prog 130 := fun args w => Tryz.call130 args w
theorem en139 : Enters Tryz.prog 139 := fun args w => Tryz.call139 args w
theorem en150 : Enters Tryz.prog 150 := fun args w => Tryz.call150 args w
theorem en151 : Enters Tryz.prog 151 := fun args w => Tryz.call151 args w
theorem en152 : Enters Tryz.prog 152 := fun args w => Tryz.call152 args w
theorem en153 : Enters Tryz.prog 153 := fun args w => Tryz.call153 args w
theorem en154 : Enters Tryz.prog 154 := fun args w => Tryz.call154 args w
theorem en155 : Enters Tryz.prog 155 := fun args w => Tryz.call155 args w
theorem en156 : Enters Tryz.prog 156 := fun args w => Tryz.call156 args w
theorem en157 : Enters Tryz.prog 157 := fun args w => Tryz.call157 args w
theorem en158 : Enters Tryz.prog 158 := fun args w => Tryz.call158 args w
theorem en159 : Enters Tryz.prog 159 := fun args w => Tryz.call159 args w
theorem en160 : Enters Tryz.prog 160 := fun args w => Tryz.call160 args w
theorem en161 : Enters Tryz.prog 161 := fun args w => Tryz.call161 args w
theorem en162 : Enters Tryz.prog 162 := fun args w => Tryz.call162 args w
theorem en163 : Enters Tryz.prog 163 := fun args w => Tryz.call163 args w
theorem en164 : Enters Tryz.prog 164 := fun args w => Tryz.call164 args w
theorem en165 : Enters Tryz.prog 165 := fun args w => Tryz.call165 args w
theorem en166 : Enters Tryz.prog 166 := fun args w => Tryz.call166 args w
theorem en167 : Enters Tryz.prog 167 := fun args w => Tryz.call167 args w
theorem en168 : Enters Tryz.prog 168 := fun args w => Tryz.call168 args w
theorem en169 : Enters Tryz.prog 169 := fun args w => Tryz.call169 args w
theorem en170 : Enters Tryz.prog 170 := fun args w => Tryz.call170 args w
theorem en171 : Enters Tryz.prog 171 := fun args w => Tryz.call171 args w
theorem en172 : Enters Tryz.prog 172 := fun args w => Tryz.call172 args w
theorem en173 : Enters Tryz.prog 173 := fun args w => Tryz.call173 args w
theorem en174 : Enters Tryz.prog 174 := fun args w => Tryz.call174 args w
theorem en175 : Enters Tryz.prog 175 := fun args w => Tryz.call175 args w
theorem en176 : Enters Tryz.prog 176 := fun args w => Tryz.call176 args w
theorem en179 : Enters Tryz.prog 179 := fun args w => Tryz.call179 args w
theorem en182 : Enters Tryz.prog 182 := fun args w => Tryz.call182 args w
theorem en183 : Enters Tryz.prog 183 := fun args w => Tryz.call183 args w
theorem en184 : Enters Tryz.prog 184 := fun args w => Tryz.call184 args w
theorem en185 : Enters Tryz.prog 185 := fun args w => Tryz.call185 args w
theorem en186 : Enters Tryz.prog 186 := fun args w => Tryz.call186 args w
theorem en187 : Enters Tryz.prog 187 := fun args w => Tryz.call187 args w
theorem en188 : Enters Tryz.prog 188 := fun args w => Tryz.call188 args w
theorem en189 : Enters Tryz.prog 189 := fun args w => Tryz.call189 args w
theorem en191 : Enters Tryz.prog 191 := fun args w => Tryz.call191 args w
theorem en192 : Enters Tryz.prog 192 := fun args w => Tryz.call192 args w
abbrev lv3 : List (Nat × List Nat) := [(0, [0]), (1, [1]), (2, [1, 3, 4]), (3, [1, 4]), (4, [1, 3]), (5, [1, 3, 5, 6])]
abbrev lv4 : List (Nat × List Nat) := [(0, [0, 1, 2]), (1, [2, 3, 4]), (2, []), (3, [2, 3, 4]), (4, [2, 3, 4, 7]), (5, [2, 3, 4, 7]), (6, [3, 4, 7])]
abbrev lv5 : List (Nat × List Nat) := [(0, [0, 1, 2, 3, 4]), (1, [2, 3, 5, 6, 9]), (2, []), (3, [2, 3, 5, 6, 9]), (4, [2, 3, 5, 6, 9, 11]), (5, [2, 3, 5, 6, 9, 11, 12]), (6, [2, 3, 5, 9, 11, 12]), (7, [2, 3, 5, 9, 11, 12, 13]), (8, [2, 3, 5, 9, 11, 12, 13, 14]), (9, []), (10, [2, 3, 5, 9, 11, 12, 13, 14]), (11, [2, 3, 5, 9, 11, 12, 13, 14]), (12, [2, 5, 11, 12, 13]), (13, [5, 11, 12])]
abbrev lv14 : List (Nat × List Nat) := [(0, [0]), (1, [1, 2]), (2, [1, 2, 4]), (3, [2, 4]), (4, [1, 2]), (5, [1, 2, 5])]
abbrev lv15 : List (Nat × List Nat) := [(0, []), (1, []), (2, [1]), (3, [1, 2, 3]), (4, [1, 2, 3, 4, 5]), (5, [1, 2, 3, 4, 5, 6]), (6, [1, 2, 3, 4, 5, 6])]
abbrev lv16 : List (Nat × List Nat) := [(0, [0]), (1, [1]), (2, []), (3, [1]), (4, []), (5, [1]), (6, []), (7, [])]
abbrev lv17 : List (Nat × List Nat) := [(0, [0, 1]), (1, [2, 3]), (2, [3, 6]), (3, [6]), (4, [3]), (5, [3, 7]), (6, [3, 7, 17, 18]), (7, [3, 7, 17, 18]), (8, [3, 7, 8, 17, 18]), (9, [3, 7, 8, 17, 18]), (10, [3, 7, 17, 18]), (11, [7])]
abbrev lv18 : List (Nat × List Nat) := [(0, [0, 1]), (1, [0, 1]), (2, []), (3, [0, 1]), (4, [0, 1, 12, 13]), (5, [0, 1, 12, 13]), (6, [0, 1, 5, 12, 13]), (7, []), (8, [0, 1, 12, 13]), (9, [])]
abbrev lv19 : List (Nat × List Nat) := [(0, [0, 1]), (1, [2, 3]), (2, [2, 3, 5]), (3, [5]), (4, [2, 3]), (5, [2, 3, 6]), (6, [6]), (7, [2, 3]), (8, []), (9, [2, 3]), (10, [2, 7]), (11, [7]), (12, []), (13, [])]
abbrev lv20 : List (Nat × List Nat) := [(0, [0, 1]), (1, [0, 1])]
abbrev lv21 : List (Nat × List Nat) := [(0, [0]), (1, [0]), (2, []), (3, [0])]
abbrev lv22 : List (Nat × List Nat) := [(0, [0]), (1, [0, 2])]
abbrev lv23 : List (Nat × List Nat) := [(0, [0]), (1, [0]), (2, []), (3, [0])]
abbrev lv24 : List (Nat × List Nat) := [(0, [0, 1]), (1, [2, 3])]
abbrev lv25 : List (Nat × List Nat) := [(0, [0]), (1, [0]), (2, []), (3, [0])]
abbrev lv26 : List (Nat × List Nat) := [(0, [0]), (1, [0]), (2, []), (3, [0])]
abbrev lv27 : List (Nat × List Nat) := [(0, [0]), (1, [0]), (2, []), (3, [0])]
abbrev lv48 : List (Nat × List Nat) := [(0, [0, 1]), (1, [0, 1])]
abbrev lv49 : List (Nat × List Nat) := [(0, [0]), (1, [0, 2])]
abbrev lv50 : List (Nat × List Nat) := [(0, [0]), (1, [0]), (2, [5, 6, 7]), (3, [5, 6, 7]), (4, [4, 5, 6, 7]), (5, []), (6, [5, 6, 7]), (7, [])]
abbrev lv51 : List (Nat × List Nat) := [(0, [0]), (1, [1])]
abbrev lv52 : List (Nat × List Nat) := [(0, [0]), (1, [1]), (2, [1, 3]), (3, []), (4, [1]), (5, [1, 4]), (6, [1, 4, 26, 27, 28]), (7, [1, 4, 26, 27, 28]), (8, [1, 4, 6, 26, 27, 28]), (9, []), (10, [1, 4, 6, 26, 27, 28]), (11, [1, 4, 26, 27, 28]), (12, [1])]
abbrev lv53 : List (Nat × List Nat) := [(0, [0, 1]), (1, [0, 1])]
abbrev lv54 : List (Nat × List Nat) := [(0, [0, 1]), (1, [1, 2])]
abbrev lv55 : List (Nat × List Nat) := [(0, [0, 1]), (1, [2, 3]), (2, [3, 5]), (3, []), (4, [3, 5]), (5, [3, 5, 30, 31, 32]), (6, [3, 5, 30, 31, 32]), (7, [3, 5, 6, 7, 30, 31, 32]), (8, []), (9, [3, 5, 30, 31, 32]), (10, [3]), (11, [10])]
abbrev lv56 : List (Nat × List Nat) := [(0, [0, 1]), (1, [0, 1]), (2, [0, 5]), (3, [0, 5, 15]), (4, []), (5, [0, 5, 15]), (6, [0, 5]), (7, [0, 5, 15]), (8, [0, 5]), (9, [6]), (10, [])]
abbrev lv57 : List (Nat × List Nat) := [(0, [0]), (1, [1]), (2, []), (3, [1]), (4, [1, 3]), (5, [3]), (6, [1]), (7, []), (8, [1]), (9, []), (10, [1]), (11, []), (12, [])]
abbrev lv58 : List (Nat × List Nat) := [(0, [0, 1]), (1, [0, 1])]
abbrev lv59 : List (Nat × List Nat) := [(0, [0]), (1, [1])]
abbrev lv60 : List (Nat × List Nat) := [(0, [0]), (1, [1]), (2, [1, 4]), (3, [1, 4, 5]), (4, [4, 5, 12, 13, 14]), (5, [4, 5, 12, 13, 14]), (6, [4, 5, 7, 12, 13, 14]), (7, [4, 5, 8, 9, 12, 13, 14]), (8, [4, 5, 12, 13, 14]), (9, [4, 5])]
abbrev lv61 : List (Nat × List Nat) := [(0, [0]), (1, [1]), (2, [1, 3]), (3, []), (4, [1]), (5, []), (6, [1]), (7, [1, 99, 100, 101]), (8, [1, 99, 100, 101]), (9, [1, 4, 5, 99, 100, 101]), (10, []), (11, [1, 99, 100, 101]), (12, [])]
abbrev lv62 : List (Nat × List Nat) := [(0, [0, 1]), (1, [0, 1]), (2, [0, 1, 7, 8]), (3, [0, 1, 7, 8]), (4, [0, 1, 5, 7, 8]), (5, [5]), (6, [0, 1, 7, 8]), (7, [])]
abbrev lv63 : List (Nat × List Nat) := [(0, [0, 1, 2]), (1, [0, 1, 2]), (2, []), (3, [0, 1, 2]), (4, [1, 2, 15, 16, 17]), (5, [1, 2, 15, 16, 17]), (6, [1, 2, 7, 8, 15, 16, 17]), (7, [1, 2, 8, 9, 15, 16, 17]), (8, []), (9, [1, 2, 15, 16, 17]), (10, [])]
abbrev lv64 : List (Nat × List Nat) := [(0, [0, 1]), (1, [2, 3])]
abbrev lv65 : List (Nat × List Nat) := [(0, [0, 1]), (1, [0, 1]), (2, []), (3, [0, 1]), (4, [0, 1, 12, 13]), (5, [0, 1, 12, 13]), (6, [0, 1, 5, 12, 13]), (7, []), (8, [0, 1, 12, 13]), (9, [])]
abbrev lv66 : List (Nat × List Nat) := [(0, [0, 1]), (1, [0, 1])]
abbrev lv67 : List (Nat × List Nat) := [(0, [0, 1]), (1, [0, 1]), (2, []), (3, [0, 1]), (4, [0, 1, 12, 13]), (5, [0, 1, 12, 13]), (6, [0, 1, 5, 12, 13]), (7, []), (8, [0, 1, 12, 13]), (9, [])]
abbrev lv68 : List (Nat × List Nat) := [(0, [0, 1]), (1, [0, 1]), (2, []), (3, [0, 1]), (4, [0, 1, 12, 13]), (5, [0, 1, 12, 13]), (6, [0, 1, 5, 12, 13]), (7, []), (8, [0, 1, 12, 13]), (9, [])]
abbrev lv69 : List (Nat × List Nat) := [(0, [0, 1, 2]), (1, [0, 1, 2]), (2, []), (3, [0, 1, 2]), (4, [1, 2, 15, 16, 17]), (5, [1, 2, 15, 16, 17]), (6, [1, 2, 7, 8, 15, 16, 17]), (7, [1, 2, 8, 9, 15, 16, 17]), (8, []), (9, [1, 2, 15, 16, 17]), (10, [])]
abbrev lv70 : List (Nat × List Nat) := [(0, [0, 1]), (1, [2, 3])]
abbrev lv71 : List (Nat × List Nat) := [(0, [0, 1]), (1, [0, 1]), (2, []), (3, [0, 1]), (4, [0, 1, 12, 13]), (5, [0, 1, 12, 13]), (6, [0, 1, 5, 12, 13]), (7, []), (8, [0, 1, 12, 13]), (9, [])]
abbrev lv72 : List (Nat × List Nat) := [(0, []), (1, [])]
abbrev lv83 : List (Nat × List Nat) := [(0, [0, 1]), (1, [0, 3])]
abbrev lv89 : List (Nat × List Nat) := [(0, [0]), (1, [0, 2])]
abbrev lv97 : List (Nat × List Nat) := [(0, [0, 1]), (1, [0, 1]), (2, [0, 1, 7, 8]), (3, [0, 1, 7, 8]), (4, [0, 1, 5, 7, 8]), (5, [5]), (6, [0, 1, 7, 8]), (7, [])]
abbrev lv98 : List (Nat × List Nat) := [(0, []), (1, [])]
abbrev lv99 : List (Nat × List Nat) := [(0, [0, 1]), (1, [0, 1])]
abbrev lv100 : List (Nat × List Nat) := [(0, [0]), (1, [0])]
abbrev lv101 : List (Nat × List Nat) := [(0, [0]), (1, [1])]
abbrev lv102 : List (Nat × List Nat) := [(0, [0, 1]), (1, [0, 1])]
abbrev lv103 : List (Nat × List Nat) := [(0, [0, 1]), (1, [1, 2])]
abbrev lv104 : List (Nat × List Nat) := [(0, [0]), (1, [1]), (2, [1, 4]), (3, [1]), (4, [1, 4]), (5, [1]), (6, [1, 4]), (7, [1]), (8, [1, 4]), (9, [1]), (10, [1, 4]), (11, [1, 4]), (12, [1]), (13, [1, 4]), (14, [1]), (15, [])]
abbrev lv105 : List (Nat × List Nat) := [(0, [0, 1]), (1, [0, 1]), (2, [0, 1, 7, 8]), (3, [0, 1, 7, 8]), (4, [0, 1, 5, 7, 8]), (5, [5]), (6, [0, 1, 7, 8]), (7, [])]
abbrev lv106 : List (Nat × List Nat) := [(0, [0, 1, 2]), (1, [1, 3, 5]), (2, [1, 3, 5, 7]), (3, []), (4, [1, 3, 5]), (5, [1, 3, 5, 47]), (6, [1, 5]), (7, [3, 5, 47]), (8, [3, 5]), (9, [3, 5, 47]), (10, [3, 5]), (11, [3, 5, 47]), (12, [3, 5]), (13, [3, 47]), (14, [3]), (15, [])]
abbrev lv107 : List (Nat × List Nat) := [(0, [0]), (1, [1]), (2, [5]), (3, [5]), (4, [5]), (5, [5, 6]), (6, [5, 6]), (7, [5])]
abbrev lv108 : List (Nat × List Nat) := [(0, [0]), (1, [0])]
abbrev lv109 : List (Nat × List Nat) := [(0, [0]), (1, [0]), (2, []), (3, [0]), (4, []), (5, [0]), (6, [0, 3]), (7, [0, 3, 21, 22, 23]), (8, [0, 3, 21, 22, 23]), (9, [0, 3, 4, 5, 21, 22, 23]), (10, []), (11, [0, 3, 5, 21, 22, 23]), (12, [0, 3, 21, 22, 23]), (13, [])]
abbrev lv110 : List (Nat × List Nat) := [(0, [0]), (1, [0]), (2, [0, 3]), (3, [0, 3, 4]), (4, [0, 3, 4, 9, 10, 11]), (5, [0, 3, 4, 9, 10, 11]), (6, [0, 3, 4, 5, 6, 9, 10, 11]), (7, []), (8, [0, 3, 4, 6, 9, 10, 11]), (9, [0, 3, 4, 9, 10, 11]), (10, [0, 3])]
abbrev lv111 : List (Nat × List Nat) := [(0, [0, 1]), (1, [0, 1])]
abbrev lv112 : List (Nat × List Nat) := [(0, [0, 1]), (1, [1, 2])]
abbrev lv113 : List (Nat × List Nat) := [(0, [0, 1]), (1, [0, 1])]
abbrev lv114 : List (Nat × List Nat) := [(0, [0, 1]), (1, [1, 2])]
abbrev lv115 : List (Nat × List Nat) := [(0, [0, 1]), (1, [2, 3]), (2, [2, 3, 5, 6, 7]), (3, []), (4, [2, 3, 5, 6, 7, 16]), (5, [2, 3, 5, 6, 7, 16]), (6, [2, 3, 7]), (7, [2, 3, 5, 7]), (8, [2, 3, 5, 6, 7, 16]), (9, [2, 3, 5, 7]), (10, [2, 3, 5, 6, 7, 16]), (11, [2, 3, 5, 7]), (12, [2, 3, 5, 6, 7, 16]), (13, [2, 3, 7]), (14, [2, 3, 5, 7]), (15, [2, 3, 5, 6, 7, 16]), (16, [2, 3, 6, 7]), (17, [2, 3, 5, 6, 7]), (18, [2, 3, 5, 6]), (19, [2, 3, 5, 6, 7, 16]), (20, [2, 3, 6, 7]), (21, [2, 3, 5, 7, 16]), (22, [2, 3, 5, 7]), (23, [2, 3, 5, 6, 7]), (24, []), (25, [2, 3])]
abbrev lv116 : List (Nat × List Nat) := [(0, [0, 1]), (1, [1, 2])]
abbrev lv117 : List (Nat × List Nat) := [(0, [0, 1]), (1, [0, 3]), (2, []), (3, [0, 3]), (4, [0, 3]), (5, [0, 3]), (6, [0, 3]), (7, [])]
abbrev lv118 : List (Nat × List Nat) := [(0, [0, 1]), (1, [0, 1])]
abbrev lv119 : List (Nat × List Nat) := [(0, [0, 1]), (1, [1, 2])]
abbrev lv120 : List (Nat × List Nat) := [(0, [0, 1, 2]), (1, [0, 1, 2])]
abbrev lv121 : List (Nat × List Nat) := [(0, [0, 1, 2]), (1, [0, 2, 4])]
abbrev lv122 : List (Nat × List Nat) := [(0, [0, 1]), (1, [0, 1]), (2, [0, 1, 7, 8]), (3, [0, 1, 7, 8]), (4, [0, 1, 5, 7, 8]), (5, [5]), (6, [0, 1, 7, 8]), (7, [])]
abbrev lv123 : List (Nat × List Nat) := [(0, [0, 1, 2]), (1, [0, 1, 2])]
abbrev lv124 : List (Nat × List Nat) := [(0, [0, 1]), (1, [1, 2])]
abbrev lv125 : List (Nat × List Nat) := [(0, [0, 1]), (1, [0, 3]), (2, [0, 3, 6]), (3, [0, 3]), (4, [0, 3, 6]), (5, [0, 3]), (6, [])]
abbrev lv126 : List (Nat × List Nat) := [(0, [0, 1]), (1, [1, 2])]
abbrev lv127 : List (Nat × List Nat) := [(0, [0, 1]), (1, [0, 3]), (2, [0, 3, 5]), (3, []), (4, [0, 3]), (5, [0, 3]), (6, []), (7, [0, 3, 49]), (8, [0, 3]), (9, [0, 3, 7]), (10, []), (11, [0, 3, 49]), (12, [0, 3]), (13, []), (14, [0, 3])]
abbrev lv128 : List (Nat × List Nat) := [(0, [0, 1, 2]), (1, [0, 1, 2]), (2, []), (3, [0, 1, 2]), (4, [1, 2, 15, 16, 17]), (5, [1, 2, 15, 16, 17]), (6, [1, 2, 7, 8, 15, 16, 17]), (7, [1, 2, 8, 9, 15, 16, 17]), (8, []), (9, [1, 2, 15, 16, 17]), (10, [])]
abbrev lv129 : List (Nat × List Nat) := [(0, [0, 1]), (1, [2, 3])]
abbrev lv130 : List (Nat × List Nat) := [(0, [0, 1]), (1, [0, 1]), (2, []), (3, [0, 1]), (4, [0, 1, 12, 13]), (5, [0, 1, 12, 13]), (6, [0, 1, 5, 12, 13]), (7, []), (8, [0, 1, 12, 13]), (9, [])]
abbrev lv139 : List (Nat × List Nat) := [(0, [0]), (1, [0]), (2, []), (3, [0])]
abbrev lv151 : List (Nat × List Nat) := [(0, [0, 1]), (1, [0, 1]), (2, [0, 1, 7, 8]), (3, [0, 1, 7, 8]), (4, [0, 1, 5, 7, 8]), (5, [5]), (6, [0, 1, 7, 8]), (7, [])]
abbrev lv152 : List (Nat × List Nat) := [(0, [0, 1]), (1, [0, 1]), (2, [0, 1, 7, 8]), (3, [0, 1, 7, 8]), (4, [0, 1, 5, 7, 8]), (5, [5]), (6, [0, 1, 7, 8]), (7, [])]
abbrev lv153 : List (Nat × List Nat) := [(0, [0, 1, 2]), (1, [0, 1, 2])]
abbrev lv154 : List (Nat × List Nat) := [(0, [0]), (1, [1])]
abbrev lv155 : List (Nat × List Nat) := [(0, [0]), (1, [0]), (2, [0, 3]), (3, []), (4, [0, 3])]
abbrev lv156 : List (Nat × List Nat) := [(0, [0, 1, 2]), (1, [0, 1, 2])]
abbrev lv157 : List (Nat × List Nat) := [(0, [0, 1, 2]), (1, [1, 2, 3]), (2, [2, 3, 7]), (3, [2, 3]), (4, [2, 3, 7]), (5, [2, 3]), (6, [2, 3, 7]), (7, [2, 3]), (8, [2, 3, 7]), (9, [2, 3]), (10, [2, 3, 7]), (11, [2, 3]), (12, [2, 3, 7]), (13, [2, 3]), (14, [2, 3, 7]), (15, [2, 3, 7]), (16, [2, 3, 7]), (17, [2, 3]), (18, [2])]
abbrev lv158 : List (Nat × List Nat) := [(0, [0, 1]), (1, [1, 2])]
abbrev lv159 : List (Nat × List Nat) := [(0, [0, 1]), (1, [2, 3])]
abbrev lv160 : List (Nat × List Nat) := [(0, [0, 1, 2]), (1, [0]), (2, [0, 1, 2]), (3, [0, 1, 2]), (4, [0, 1]), (5, [0, 1, 2]), (6, [0])]
abbrev lv161 : List (Nat × List Nat) := [(0, [0, 1]), (1, [0, 1, 4, 5]), (2, [0, 1, 4, 5, 22]), (3, [0, 1, 4, 5, 22]), (4, [0, 1, 4, 5, 22]), (5, [0, 1, 4, 5, 22]), (6, [0, 4, 5]), (7, [0, 1, 4, 5, 22]), (8, [0, 1, 4, 5]), (9, [0, 1, 4, 5, 22]), (10, [0, 1, 4, 5]), (11, [0, 1, 4, 5]), (12, [0, 1, 5, 22]), (13, [0, 1, 5]), (14, [0]), (15, [0, 1, 5]), (16, [0, 1, 5])]
abbrev lv162 : List (Nat × List Nat) := [(0, [0]), (1, [0])]
abbrev lv163 : List (Nat × List Nat) := [(0, [0]), (1, [1])]
abbrev lv164 : List (Nat × List Nat) := [(0, [0, 1]), (1, [0, 1]), (2, [0, 1, 5]), (3, [0, 1, 5]), (4, [0, 1, 5]), (5, [5]), (6, [5])]
abbrev lv165 : List (Nat × List Nat) := [(0, [0, 1]), (1, [0, 1]), (2, [0, 1, 7, 8]), (3, [0, 1, 7, 8]), (4, [0, 1, 5, 7, 8]), (5, [5]), (6, [0, 1, 7, 8]), (7, [])]
abbrev lv166 : List (Nat × List Nat) := [(0, [0, 1]), (1, [0, 1]), (2, [0, 1, 7, 8]), (3, [0, 1, 7, 8]), (4, [0, 1, 5, 7, 8]), (5, [5]), (6, [0, 1, 7, 8]), (7, [])]
abbrev lv167 : List (Nat × List Nat) := [(0, [0, 1]), (1, [0, 1]), (2, []), (3, [0, 1])]
abbrev lv168 : List (Nat × List Nat) := [(0, [0, 1]), (1, [1, 2])]
abbrev lv169 : List (Nat × List Nat) := [(0, [1]), (1, [1]), (2, [1, 5]), (3, [1, 5, 6]), (4, [1, 5, 6]), (5, [1, 5, 6]), (6, []), (7, [1, 5, 6]), (8, [1])]
abbrev lv170 : List (Nat × List Nat) := [(0, [0, 1]), (1, [1, 2])]
abbrev lv171 : List (Nat × List Nat) := [(0, [0, 1]), (1, [0, 1])]
abbrev lv172 : List (Nat × List Nat) := [(0, [0, 1]), (1, [1, 2])]
abbrev lv173 : List (Nat × List Nat) := [(0, [0, 1]), (1, [0, 1]), (2, [0, 1, 7, 8]), (3, [0, 1, 7, 8]), (4, [0, 1, 5, 7, 8]), (5, [5]), (6, [0, 1, 7, 8]), (7, [])]
abbrev lv174 : List (Nat × List Nat) := [(0, [0, 1]), (1, [0, 3]), (2, []), (3, [0, 3])]
abbrev lv175 : List (Nat × List Nat) := [(0, [0, 1, 2]), (1, [0, 2, 4, 6]), (2, [6]), (3, [0, 4, 6])]
abbrev lv176 : List (Nat × List Nat) := [(0, [0, 1]), (1, [0, 1]), (2, [0, 1, 11, 12, 13]), (3, [0, 1, 11, 12, 13]), (4, [0, 1, 5, 6, 11, 12, 13]), (5, [0, 1, 5, 6, 7, 11, 12, 13]), (6, [0, 1, 5, 6, 11, 12, 13]), (7, [0, 1, 5, 6, 7, 11, 12, 13]), (8, [0, 1, 5, 6, 7, 8, 11, 12, 13]), (9, []), (10, [0, 1, 5, 6, 8, 11, 12, 13]), (11, [0, 1, 5, 6, 11, 12, 13]), (12, [0, 1, 5, 6, 9, 10, 11, 12, 13]), (13, []), (14, [0, 1, 6, 11, 12, 13]), (15, [0, 1, 11, 12, 13]), (16, [])]
abbrev lv179 : List (Nat × List Nat) := [(0, [0]), (1, [0]), (2, []), (3, [0])]
abbrev lv182 : List (Nat × List Nat) := [(0, [0, 1]), (1, [1, 2])]
abbrev lv183 : List (Nat × List Nat) := [(0, [0, 1]), (1, [1, 2])]
abbrev lv184 : List (Nat × List Nat) := [(0, [0, 1]), (1, [0, 1])]
abbrev lv185 : List (Nat × List Nat) := [(0, [0, 1]), (1, [0, 1])]
abbrev lv186 : List (Nat × List Nat) := [(0, [0]), (1, [0, 2, 3]), (2, [0, 2, 3]), (3, [0, 2, 3])]
abbrev lv187 : List (Nat × List Nat) := [(0, [0, 1]), (1, [1, 2])]
abbrev lv188 : List (Nat × List Nat) := [(0, [0, 1]), (1, [0, 1]), (2, [0, 1, 7, 8]), (3, [0, 1, 7, 8]), (4, [0, 1, 5, 7, 8]), (5, [5]), (6, [0, 1, 7, 8]), (7, [])]
abbrev lv189 : List (Nat × List Nat) := [(0, [0, 1]), (1, [2, 3]), (2, []), (3, [2, 3]), (4, [2, 3, 5]), (5, [2, 3, 5, 6, 7]), (6, []), (7, [2, 3])]
abbrev lv191 : List (Nat × List Nat) := [(0, [0, 1]), (1, [0, 1]), (2, [0, 1, 7, 8]), (3, [0, 1, 7, 8]), (4, [0, 1, 5, 7, 8]), (5, [5]), (6, [0, 1, 7, 8]), (7, [])]
abbrev lv192 : List (Nat × List Nat) := [(0, [0, 1]), (1, [1, 2])]
end Go.Proofs.YtbhnmolmkembdaaGreatDoor
namespace Go.Proofs.YtbhnmolmkembdaaGreatDoor
set_option linter.unusedVariables false
set_option linter.unusedSimpArgs false
set_option maxHeartbeats 10000000
open Go
abbrev VV (k n : Int) : AV := .agg [Iv k, Iv n]
attribute [go_sem ↓] reduceIte
attribute [go_sem] Nat.reduceEqDiff Nat.reduceAdd Nat.reduceSub Nat.reduceMul Nat.reduceLT Nat.reduceLeDiff reduceCtorEq Int.reduceLT Int.reduceLE Int.reduceAdd Int.reduceSub Int.reduceMul Int.reduceToNat Int.reduceNeg Int.reduceEq
attribute [go_sem ↓] opG opK valK
attribute [go_sem] List.set_cons_zero List.set_cons_succ
attribute [go_sem] lookupK updK keyK plainL
attribute [go_sem] frz frzL frzT frzR frzRs frzSt roL FinMB bmp bmpL bmpT bmpR bmpRs bmpSt bmpAll mpS mpD renRes backV ndB
attribute [go_sem] isNd noNd fnAV ctQ_g ctQ_run spQ resAt nvC
attribute [go_sem] FinF FinO FinM nil1 nilL nilR own1 ownL subR callG ren renL withinL
attribute [go_sem] findC callT lendAs lendC lendL lendR resG FinK resV flatAV flatL flatR within withinL
attribute [go_sem] lookN addN dstOk skipped ev lookT putT lookR putR St.set St.upd St.cur binAV binI binS eqOr unAV convAV eq1 eqCells floatOrd wk
attribute [go_sem] rd avCells okCell okCells splice loadK fillK rowsK srcK okRows appendK lenAV indexAddrK fieldAddrK derefK storeK nilCheckK boundAV sliceK roK argT
attribute [go_sem] List.length_cons List.length_nil List.take_succ_cons List.take_zero List.take_nil List.drop_succ_cons List.drop_zero List.map_cons List.map_nil List.getD_cons_zero List.getD_cons_succ List.append_nil List.nil_append List.cons_append List.isEmpty_nil List.isEmpty_cons Bool.true_or Bool.false_or Bool.or_true Bool.or_false
@[go_sem] theorem oc_int (k : IntKind) (n : Int) : (Value.int k n).oneCell' = true := rfl
@[go_sem] theorem oc_bool (b : Bool) : (Value.bool b).oneCell' = true := rfl
@[go_sem] theorem oc_string (b : ByteArray) : (Value.string b).oneCell' = true := rfl
@[go_sem] theorem oc_float (k : FloatKind) (b : Nat) : (Value.float k b).oneCell' = true := rfl
@[go_sem] theorem oc_slice (a : Option Addr) (n c : Nat) : (Value.slice a n c).oneCell' = true := rfl
@[go_sem] theorem oc_pointer (a : Option Addr) : (Value.pointer a).oneCell' = true := rfl
@[go_sem] theorem oc_map (a : Option Nat) : (Value.map a).oneCell' = true := rfl
@[go_sem] theorem lendA_agg (st : St) (cs : List AV) (K : List Loc → AV → Prop) : lendA st (.agg cs) K = (noNd cs = true ∧ lendL (lendC 4 st) cs fun l ys => K l (.agg (ys.map .r))) := rfl
@[go_sem] theorem lendA_cl (st : St) (f : Nat) (cs : List AV) (K : List Loc → AV → Prop) : lendA st (.cl f cs) K = (noNd cs = true ∧ lendL (lendC 4 st) cs fun l ys => K l (.r (.fn f ys))) := rfl
@[go_sem] theorem lendA_any (st : St) (K : List Loc → AV → Prop) : lendA st .any K = K [] .any := rfl
@[go_sem] theorem lendA_r (st : St) (x : RV) (K : List Loc → AV → Prop) : lendA st (.r x) K = K [] (.r x) := rfl
@[go_sem] theorem lendA_os (st : St) (k ver : Nat) (K : List Loc → AV → Prop) : lendA st (.os k ver) K = lendC 4 st (.os k ver) fun l y => K l (.r y) := rfl
@[go_sem] theorem lendA_rf (st : St) (k ver off : Nat) (K : List Loc → AV → Prop) : lendA st (.rf k ver off) K = lendC 4 st (.rf k ver off) fun l y => K l (.r y) := rfl
attribute [go_sem] decide_true decide_false Nat.lt_irrefl Nat.le_refl eq_self true_and and_true Bool.and_true Bool.true_and Bool.false_and Bool.and_false cond_true cond_false Bool.not_true Bool.not_false beq_self_eq_true RV.v.injEq beq_true beq_false
attribute [go_sem] wantK_bif oneK memN trimT
@[go_sem] theorem wantK_v (q b : Bool) (K : Bool → Prop) : wantK (.r (.v (.bool q))) b K = K (q == b) := rfl
@[go_sem] theorem wantK_u (b : Bool) (K : Bool → Prop) : wantK UD b K = K false := rfl
@[go_sem] theorem wantK_fib (c p b : Bool) (K : Bool → Prop) : wantK (bif c then UD else .r (.v (.bool p))) b K = K (!c && (p == b)) := by cases c <;> rfl
@[go_sem] theorem pick_bb (q p r : Bool) : pickAV q (.r (.v (.bool p))) (.r (.v (.bool r))) = .r (.v (.bool (bif q then p else r))) := rfl
@[go_sem] theorem pick_t (x y : AV) : pickAV true x y = x := by unfold pickAV; split <;> simp_all
@[go_sem] theorem pick_f (x y : AV) : pickAV false x y = y := by unfold pickAV; split <;> simp_all
@[go_sem] theorem pick_bif_t (q p r : Bool) : pickAV q (bif q then .r (.v (.bool p)) else UD) (.r (.v (.bool r))) = .r (.v (.bool (bif q then p else r))) := by cases q <;> rfl
@[go_sem] theorem pick_bif_f (q p r : Bool) : pickAV q (.r (.v (.bool r))) (bif q then UD else .r (.v (.bool p))) = .r (.v (.bool (bif q then r else p))) := by cases q <;> rfl
@[go_sem] theorem pick_bif_nt (q p r : Bool) : pickAV (!q) (bif q then UD else .r (.v (.bool p))) (.r (.v (.bool r))) = .r (.v (.bool (bif q then r else p))) := by cases q <;> rfl
@[go_sem] theorem pick_bif_nf (q p r : Bool) : pickAV (!q) (.r (.v (.bool r))) (bif q then .r (.v (.bool p)) else UD) = .r (.v (.bool (bif q then p else r))) := by cases q <;> rfl
@[go_sem] theorem bif_fa (q p : Bool) : (bif q then false else p) = (!q && p) := by cases q <;> rfl
@[go_sem] theorem bif_tr (q p : Bool) : (bif q then p else true) = (!q || p) := by cases q <;> rfl
@[go_sem] theorem bif_not (q : Bool) (x y : AV) : (bif !q then x else y) = bif q then y else x := by cases q <;> rfl
@[go_sem] theorem bif_same (q : Bool) (x y z : AV) : (bif q then (bif q then x else y) else z) = bif q then x else z := by cases q <;> rfl
@[go_sem] theorem bif_or (q p : Bool) : (bif q then true else p) = (q || p) := by cases q <;> rfl
@[go_sem] theorem bif_and (q p : Bool) : (bif q then p else false) = (q && p) := by cases q <;> rfl
@[go_sem] theorem beq_true' (q : Bool) : (q == true) = q := by cases q <;> rfl
@[go_sem] theorem beq_false' (q : Bool) : (q == false) = !q := by cases q <;> rfl
@[go_sem] theorem wrap_id (n : Int) (h1 : -9223372036854775808 ≤ n) (h2 : n ≤ 9223372036854775807) : IntKind.i64.wrap n = n := by
  have e : IntKind.i64.wrap n = if n % 18446744073709551616 ≥ 9223372036854775808 then n % 18446744073709551616 - 18446744073709551616 else n % 18446744073709551616 := by
    by_cases h : n % 18446744073709551616 ≥ 9223372036854775808 <;> simp [IntKind.wrap, IntKind.bits, IntKind.signed, h]
  rw [e]
  split <;> omega
attribute [go_sem] Int.cast_ofNat_Int List.range_zero Option.isSome_some Option.getD_some Option.getD_none
theorem mixed : Tryz.prog.follows .mixedOrders = true := by kernel_rfl
theorem gSpace : Tryz.prog.globalNamed "strings.asciiSpace" = some 1 := by kernel_rfl
theorem space_stays (w w' : World) (h : Lib.TabIs Tryz.prog w "strings.asciiSpace" .u8 Lib.asciiSpaceTab) (hb : ∀ b, b < 1 + 1 → w'.heap[b]? = w.heap[b]?) : Lib.TabIs Tryz.prog w' "strings.asciiSpace" .u8 Lib.asciiSpaceTab := by
  unfold Lib.TabIs World.var? at *
  rw [gSpace] at h ⊢
  simp only [Option.bind_some] at h ⊢
  rw [hb _ (Nat.lt_succ_self _)]
  exact h
noncomputable def Cx : Ctx := { P := Tryz.prog, gs := 1 + 1, G := fun w => Lib.TabIs Tryz.prog w "strings.asciiSpace" .u8 Lib.asciiSpaceTab, hG := fun w w' h hb _ => space_stays w w' h hb, mixed := mixed }
@[go_sem] theorem Cx_P : Cx.P = Tryz.prog := rfl
end Go.Proofs.YtbhnmolmkembdaaGreatDoor
namespace Go.Proofs.YtbhnmolmkembdaaGreatDoor
set_option linter.unusedVariables false
set_option linter.unusedSimpArgs false
set_option maxHeartbeats 10000000
open Go
inductive Ro (P : Program) : Nat → List RV → Prop
  | int (t : Nat) (k : IntKind) (n : Int) (ht : P.underlying t = some (.int k)) (hw : (Lit.int k n).wf = true) : Ro P t [.v (.int k n)]
  | bool (t : Nat) (b : Bool) (ht : P.underlying t = some .bool) : Ro P t [.v (.bool b)]
  | string (t : Nat) (s : ByteArray) (ht : P.underlying t = some .string) (hs : s.size ≤ maxLen) : Ro P t [.v (.string s)]
  | struct (t : Nat) (fs : Array Field) (rows : List (List RV)) (ht : P.underlying t = some (.struct fs)) (hn : rows.length = fs.toList.length)
      (h : ∀ (i : Nat) (f : Field) (row : List RV), fs.toList[i]? = some f → rows[i]? = some row → Ro P f.type row) : Ro P t rows.flatten
  | slice (t e : Nat) (rows : List (List RV)) (ht : P.underlying t = some (.slice e)) (hl : rows.length ≤ maxLen) (h : ∀ row ∈ rows, Ro P e row) : Ro P t [.rs (P.cellsOf e) rows]
def contigB (P : Program) : List Field → Nat → Nat → Bool
  | [], off, n => off == n
  | f :: fs, off, n => f.offset == off && contigB P fs (off + P.cellsOf f.type) n
def openB (P : Program) : Nat → Nat → Bool
  | 0, _ => false
  | d + 1, t => match P.underlying t with
    | some (.int _) | some .bool | some .string => P.cellsOf t == 1
    | some (.struct fs) => contigB P fs.toList 0 (P.cellsOf t) && fs.toList.all fun f => openB P d f.type
    | some (.slice e) => P.cellsOf t == 1 && decide (0 < P.cellsOf e) && openB P d e
    | _ => false
theorem opens_fields {P : Program} {W : World} {H : Type} {enc : TypeId × Value → H} {n : Nat}
    (ih : ∀ (t : Nat) (cs : List Value) (x : DataW H × List MemPlace), DataW.trod enc P W 0 (fun _ => true) true n t cs = some x → ∀ d, openB P d t = true → ∃ row, Ro P t row ∧ row.length = P.cellsOf t ∧ cs.length = P.cellsOf t ∧ ∀ (j : Nat) (r : RV) (c : Value), row[j]? = some r → cs[j]? = some c → RR W (fun _ => False) r c) (d : Nat) (cs : List Value) :
    ∀ (fs : List Field) (off : Nat) (xs : List (DataW H × List MemPlace)), fs.mapM (fun f => DataW.trod enc P W 0 (fun _ => true) true n f.type ((cs.drop f.offset).take (P.cellsOf f.type))) = some xs → contigB P fs off cs.length = true → fs.all (fun f => openB P d f.type) = true →
      ∃ rows : List (List RV), rows.length = fs.length ∧ (∀ (i : Nat) (f : Field) (row : List RV), fs[i]? = some f → rows[i]? = some row → Ro P f.type row) ∧ off + rows.flatten.length = cs.length ∧ ∀ (j : Nat) (r : RV) (c : Value), rows.flatten[j]? = some r → cs[off + j]? = some c → RR W (fun _ => False) r c
  | [], off, xs, _, hc, _ => by
    simp only [contigB, beq_iff_eq] at hc
    exact ⟨[], rfl, fun i f row h => by simp at h, by simpa using hc, fun j r c h => by simp at h⟩
  | f :: fs, off, xs, h, hc, ha => by
    simp only [contigB, Bool.and_eq_true, beq_iff_eq] at hc
    simp only [List.all_cons, Bool.and_eq_true] at ha
    rw [List.mapM_cons] at h
    cases h1 : DataW.trod enc P W 0 (fun _ => true) true n f.type ((cs.drop f.offset).take (P.cellsOf f.type)) with
    | none => rw [h1] at h; simp at h
    | some y =>
      rw [h1] at h
      cases h2 : fs.mapM (fun f => DataW.trod enc P W 0 (fun _ => true) true n f.type ((cs.drop f.offset).take (P.cellsOf f.type))) with
      | none => rw [h2] at h; simp at h
      | some ys =>
        obtain ⟨row, r1, r2, r3, r4⟩ := ih _ _ _ h1 d ha.1
        obtain ⟨rows, q1, q2, q3, q4⟩ := opens_fields ih d cs fs _ ys h2 hc.2 ha.2
        refine ⟨row :: rows, by simp [q1], fun i f' row' hi hr => ?_, by simp only [List.flatten_cons, List.length_append]; omega, fun j r c hj hcj => ?_⟩
        · cases i with
          | zero => simp at hi hr; subst hi; subst hr; exact r1
          | succ i => exact q2 i f' row' (by simpa using hi) (by simpa using hr)
        · rw [List.flatten_cons] at hj
          by_cases hjl : j < row.length
          · rw [List.getElem?_append_left hjl] at hj
            refine r4 j r c hj ?_
            rw [List.getElem?_take, if_pos (by omega), List.getElem?_drop, hc.1]; exact hcj
          · rw [List.getElem?_append_right (by omega)] at hj
            refine q4 _ r c hj ?_
            have : off + P.cellsOf f.type + (j - row.length) = off + j := by omega
            rw [this]; exact hcj
theorem add2 {a : Addr} (h : a.spot = none) (n m : Nat) : (a.add n).add m = ⟨a.block, a.off + (n + m), none⟩ := by
  obtain ⟨b, o, sp⟩ := a
  simp only at h
  subst h
  by_cases hn : n = 0 <;> by_cases hm : m = 0 <;> simp [Addr.add, hn, hm, Nat.add_assoc]
theorem add_block (a : Addr) (n : Nat) : (a.add n).block = a.block := by
  unfold Addr.add; split <;> rfl
theorem opens {P : Program} {W : World} {H : Type} {enc : TypeId × Value → H} : ∀ (n : Nat) (t : Nat) (cs : List Value) (x : DataW H × List MemPlace), DataW.trod enc P W 0 (fun _ => true) true n t cs = some x → ∀ d, openB P d t = true →
    ∃ row, Ro P t row ∧ row.length = P.cellsOf t ∧ cs.length = P.cellsOf t ∧ ∀ (j : Nat) (r : RV) (c : Value), row[j]? = some r → cs[j]? = some c → RR W (fun _ => False) r c := by
  intro n
  induction n with
  | zero => intro t cs x h; simp [DataW.trod] at h
  | succ n ih =>
    intro t cs x h d hd
    cases d with
    | zero => simp [openB] at hd
    | succ d =>
      have one : ∀ (r : RV) (c : Value), cs = [c] → RR W (fun _ => False) r c → ∀ (j : Nat) (r' : RV) (c' : Value), [r][j]? = some r' → cs[j]? = some c' → RR W (fun _ => False) r' c' := by
        intro r c hcs hr j r' c' h1 h2
        subst hcs
        cases j with
        | zero => simp at h1 h2; subst h1; subst h2; exact hr
        | succ j => simp at h1
      unfold openB at hd
      split at hd
      · rename_i k ht
        obtain ⟨m, rfl, hx, hw⟩ := DataW.trod_int ht h
        exact ⟨[.v (.int k m)], .int t k m ht hw, (beq_iff_eq.1 hd).symm, (beq_iff_eq.1 hd).symm, one _ _ rfl (.v _)⟩
      · rename_i ht
        have : ∃ b, cs = [.bool b] := by
          unfold DataW.trod at h
          rw [ht] at h
          split at h <;> simp_all
        obtain ⟨b, rfl⟩ := this
        exact ⟨[.v (.bool b)], .bool t b ht, (beq_iff_eq.1 hd).symm, (beq_iff_eq.1 hd).symm, one _ _ rfl (.v _)⟩
      · rename_i ht
        have : ∃ s : ByteArray, cs = [.string s] ∧ s.size ≤ maxLen := by
          unfold DataW.trod at h
          rw [ht] at h
          split at h <;> simp_all
        obtain ⟨s, rfl, hs⟩ := this
        exact ⟨[.v (.string s)], .string t s ht hs, (beq_iff_eq.1 hd).symm, (beq_iff_eq.1 hd).symm, one _ _ rfl (.v _)⟩
      · rename_i fs ht
        simp only [Bool.and_eq_true] at hd
        have : cs.length = P.cellsOf t ∧ ∃ xs, fs.toList.mapM (fun f => DataW.trod enc P W 0 (fun _ => true) true n f.type ((cs.drop f.offset).take (P.cellsOf f.type))) = some xs := by
          unfold DataW.trod at h
          rw [ht] at h
          simp only at h
          split at h
          · rename_i hl
            cases hm : fs.toList.mapM (fun f => DataW.trod enc P W 0 (fun _ => true) true n f.type ((cs.drop f.offset).take (P.cellsOf f.type))) with
            | none => rw [hm] at h; simp at h
            | some xs => exact ⟨hl, xs, rfl⟩
          · simp at h
        obtain ⟨hl, xs, hm⟩ := this
        obtain ⟨rows, q1, q2, q3, q4⟩ := opens_fields ih d cs fs.toList 0 xs hm (by rw [hl]; exact hd.1) hd.2
        exact ⟨rows.flatten, .struct t fs rows ht q1 q2, by omega, hl, fun j r c hj hc => q4 j r c hj (by simpa using hc)⟩
      · rename_i e ht
        simp only [Bool.and_eq_true, beq_iff_eq, decide_eq_true_eq] at hd
        obtain ⟨⟨hd1, hd2⟩, hd3⟩ := hd
        rcases DataW.trod_slice ht h with ⟨rfl, _⟩ | ⟨a, len, cap, elems, rest, n', hn, rfl, _, hb, hlc, hcm, hlen, hel, _, _⟩
        · exact ⟨[.rs (P.cellsOf e) []], .slice t e [] ht (by simp) (fun row h => by simp at h), by simpa using hd1.symm, by simpa using hd1.symm, one _ _ rfl (.nil _)⟩
        · obtain rfl : n = n' := by omega
          have each : ∀ i, ∃ row : List RV, i < len → Ro P e row ∧ row.length = P.cellsOf e ∧ ∀ j, j < P.cellsOf e → ∃ c, W.cell? ((a.add (i * P.cellsOf e)).add j) = some c ∧ ∀ r, row[j]? = some r → RR W (fun _ => False) r c := by
            intro i
            by_cases hi : i < len
            · have h1 := hel i hi
              rw [List.getElem?_eq_getElem (by omega : i < elems.length)] at h1
              cases h2 : W.cells? 0 (a.add (i * P.cellsOf e)) (P.cellsOf e) with
              | none => rw [h2] at h1; simp at h1
              | some cs' =>
                rw [h2] at h1
                simp only [Option.bind_some] at h1
                obtain ⟨row, r1, r2, r3, r4⟩ := ih _ _ _ h1 d hd3
                obtain ⟨_, c1, c2⟩ := World.cells?_some h2
                refine ⟨row, fun _ => ⟨r1, r2, fun j hj => ?_⟩⟩
                have h3 : cs'[j]? = some cs'[j] := List.getElem?_eq_getElem (by omega)
                exact ⟨cs'[j], by rw [c2 j hj, h3], fun r hr => r4 j r _ hr h3⟩
            · exact ⟨[], fun h => absurd h hi⟩
          obtain ⟨f, hf⟩ := Classical.axiomOfChoice each
          have hrows : ∀ (i : Nat) (row : List RV), ((List.range len).map f)[i]? = some row → i < len ∧ row = f i := by
            intro i row hr
            rw [List.getElem?_map] at hr
            by_cases hi : i < len
            · rw [List.getElem?_range hi] at hr; simp at hr; exact ⟨hi, hr.symm⟩
            · rw [List.getElem?_eq_none (by simpa using hi)] at hr; simp at hr
          have hmem : ∀ row ∈ (List.range len).map f, ∃ i, i < len ∧ row = f i := by
            intro row hr
            obtain ⟨i, hi, rfl⟩ := List.mem_map.1 hr
            exact ⟨i, List.mem_range.1 hi, rfl⟩
          have hspot : 0 < len → a.spot = none ∧ a.block < W.heap.size := by
            intro h0
            obtain ⟨c, h1, _⟩ := (hf 0 h0).2.2 0 hd2
            unfold World.cell? at h1
            split at h1
            · rename_i q1 q2 q3 hq
              refine ⟨?_, by have := (Array.getElem?_eq_some_iff.1 hq).1; rwa [add_block, add_block] at this⟩
              cases hs : a.spot with
              | none => rfl
              | some z => simp [Addr.add, hs] at h1
            · cases h1
          refine ⟨[.rs (P.cellsOf e) ((List.range len).map f)], .slice t e _ ht (by simp; omega) (fun row hr => ?_), by simpa using hd1.symm, by simpa using hd1.symm, one _ _ rfl ?_⟩
          · obtain ⟨i, hi, rfl⟩ := hmem row hr
            exact (hf i hi).1
          · have := RR.rs (w := W) (N := fun _ => False) (P.cellsOf e) ((List.range len).map f) a cap (fun i j => (W.cell? ⟨a.block, a.off + (i * P.cellsOf e + j), none⟩).getD undef) (fun hne => ?_) (by simpa using hlc) (fun row hr => ?_) (fun i j hi hj => ?_) (fun i j row r hi hj => ?_)
            · simpa using this
            · have h0 : 0 < len := by
                rcases Nat.eq_zero_or_pos len with h | h
                · subst h; exact absurd rfl hne
                · exact h
              exact ⟨(hspot h0).2, fun h => h, (hspot h0).1⟩
            · obtain ⟨i, hi, rfl⟩ := hmem row hr
              exact (hf i hi).2.1
            · have hi' : i < len := by simpa using hi
              obtain ⟨c, h1, _⟩ := (hf i hi').2.2 j hj
              have h2 := (hspot (by omega)).1
              have h3 := add2 h2 (i * P.cellsOf e) j
              rw [h3] at h1
              rw [h1]; rfl
            · obtain ⟨hi', rfl⟩ := hrows i row hi
              have hj' : j < P.cellsOf e := by
                have := (List.getElem?_eq_some_iff.1 hj).1
                rw [(hf i hi').2.1] at this; exact this
              obtain ⟨c, h1, h4⟩ := (hf i hi').2.2 j hj'
              have h2 := (hspot (by omega)).1
              have h3 := add2 h2 (i * P.cellsOf e) j
              rw [h3] at h1
              rw [h1]; exact h4 r hj
      · simp at hd
end Go.Proofs.YtbhnmolmkembdaaGreatDoor
namespace Go.Proofs.YtbhnmolmkembdaaGreatDoor
set_option linter.unusedVariables false
set_option linter.unusedSimpArgs false
set_option maxHeartbeats 10000000
open Go Go.ChangeShapes Go.WideShapes Go.ChangeAt Go.RowKit
def avOf (P : Program) (t : Nat) (row : List RV) : AV := match aggT P t with
  | true => .agg (row.map .r)
  | false => match row with
    | x :: _ => .r x
    | [] => .any
theorem arg_open {P : Program} {W : World} {H : Type} {enc : TypeId × Value → H} {r : Reach} {b0 n t : Nat} {v : Value} {d : DataW H} {ps : List MemPlace} (ho : openB P n t = true) (hval : Value.okWide P W r b0 t v) (hd : DataW.Trod enc P W 0 (fun _ => true) true t v d ps) (cur : Nat → Nat) (g : Gh) :
    ∃ row, Ro P t row ∧ AR cur g W (fun _ => False) (avOf P t row) v := by
  obtain ⟨fuel, hf⟩ := hd
  obtain ⟨row, h1, h2, h3, h4⟩ := opens fuel t _ _ hf n ho
  refine ⟨row, h1, ?_⟩
  have one : (∀ v', v.cells = #[v'] → v' = v) → aggT P t = false → v.cells = #[v] → AR cur g W (fun _ => False) (avOf P t row) v := fun _ ha hc => by
    unfold avOf
    rw [ha]
    cases row with
    | nil => exact .any _
    | cons x l => exact .r (h4 0 x v rfl (by rw [hc]; rfl))
  cases n with
  | zero => simp [openB] at ho
  | succ n =>
    unfold openB at ho
    split at ho
    · rename_i k ht
      obtain ⟨m, rfl⟩ := okWide_int ht hval
      exact one (fun v' h => by simpa [Value.cells] using h.symm) (by simp [aggT, ht]) rfl
    · rename_i ht
      obtain ⟨m, rfl⟩ := okWide_bool ht hval
      exact one (fun v' h => by simpa [Value.cells] using h.symm) (by simp [aggT, ht]) rfl
    · rename_i ht
      obtain ⟨m, rfl⟩ := okWide_string ht hval
      exact one (fun v' h => by simpa [Value.cells] using h.symm) (by simp [aggT, ht]) rfl
    · rename_i fs ht
      obtain ⟨cs, rfl, hs⟩ := okWide_struct ht hval
      unfold avOf
      rw [show aggT P t = true by simp [aggT, ht]]
      refine .agg _ _ (by simp only [List.length_map]; simp only [Value.cells] at h3; omega) (fun j x y hx hy => ?_)
      rw [List.getElem?_map] at hx
      cases hj : row[j]? with
      | none => simp [hj] at hx
      | some z => simp [hj] at hx; subst hx; exact .r (h4 j z y hj (by simpa [Value.cells] using hy))
    · rename_i e ht
      obtain ⟨a, l, c, rfl⟩ := okWide_slice ht hval
      exact one (fun v' h => by simpa [Value.cells] using h.symm) (by simp [aggT, ht]) rfl
    · simp at ho
theorem args_open {P : Program} {W : World} {H : Type} {enc : TypeId × Value → H} {r : Reach} {b0 : Nat} (cur : Nat → Nat) (g : Gh) : ∀ {ts : List Nat} {vs : List Value} {ds : List (DataW H)} {ps : List MemPlace}, DataW.TrodAll enc P W 0 (fun _ => true) true ts vs ds ps → ts.all (openB P 20) = true →
    (∀ (j : Nat) t v, ts[j]? = some t → vs[j]? = some v → Value.okWide P W r b0 t v) →
    ∃ rows : List (List RV), rows.length = ts.length ∧ vs.length = ts.length ∧ ds.length = ts.length ∧ (∀ (j : Nat) (t : Nat) (row : List RV), ts[j]? = some t → rows[j]? = some row → Ro P t row) ∧
      ∀ (j : Nat) (t : Nat) (row : List RV) (v : Value), ts[j]? = some t → rows[j]? = some row → vs[j]? = some v → AR cur g W (fun _ => False) (avOf P t row) v
  | [], [], [], _, _, _, _ => ⟨[], rfl, rfl, rfl, fun j t row h => by simp at h, fun j t row v h => by simp at h⟩
  | t :: ts, v :: vs, d :: ds, ps, h, ha, hv => by
    obtain ⟨p, q, h1, h2, _⟩ := h
    simp only [List.all_cons, Bool.and_eq_true] at ha
    obtain ⟨row, r1, r2⟩ := arg_open ha.1 (hv 0 t v rfl rfl) h1 cur g
    obtain ⟨rows, q1, q2, q3, q4, q5⟩ := args_open cur g h2 ha.2 (fun j t v ht hv' => hv (j + 1) t v (by simpa using ht) (by simpa using hv'))
    refine ⟨row :: rows, by simp [q1], by simp [q2], by simp [q3], fun j t' row' ht hr => ?_, fun j t' row' v' ht hr hv' => ?_⟩
    · cases j with
      | zero => simp at ht hr; subst ht; subst hr; exact r1
      | succ j => exact q4 j t' row' (by simpa using ht) (by simpa using hr)
    · cases j with
      | zero => simp at ht hr hv'; subst ht; subst hr; subst hv'; exact r2
      | succ j => exact q5 j t' row' v' (by simpa using ht) (by simpa using hr) (by simpa using hv')
  | [], _ :: _, _, _, h, _, _ => h.elim
  | [], [], _ :: _, _, h, _, _ => h.elim
  | _ :: _, [], _, _, h, _, _ => h.elim
  | _ :: _, _ :: _, [], _, h, _, _ => h.elim
theorem trodAll_same {P : Program} {H : Type} {enc : TypeId × Value → H} (hl : laidOutB P = true) {W W' : World} {sp : Nat → Bool} : ∀ {ts : List Nat} {vs : List Value} {ds : List (DataW H)} {ps : List MemPlace}, DataW.TrodAll enc P W 0 (fun _ => true) true ts vs ds ps → (ts.all fun t => P.readableRec t && decide (t < P.types.size)) = true →
    (∀ p ∈ ps, W.sameAt W' p) → (∀ p ∈ ps, sp p.block = true) → DataW.TrodAll enc P W' 0 sp true ts vs ds ps
  | [], [], [], _, h, _, _, _ => h
  | t :: ts, v :: vs, d :: ds, ps, h, ha, hs, hp => by
    obtain ⟨p, q, h1, h2, rfl⟩ := h
    simp only [List.all_cons, Bool.and_eq_true, decide_eq_true_eq] at ha
    exact ⟨p, q, WideElems.Trod_stays hl ha.1.1 ha.1.2 h1 (fun x hx => hs x (List.mem_append_left _ hx)) (fun x hx => hp x (List.mem_append_left _ hx)),
      trodAll_same hl h2 (by simpa using ha.2) (fun x hx => hs x (List.mem_append_right _ hx)) (fun x hx => hp x (List.mem_append_right _ hx)), rfl⟩
  | [], _ :: _, _, _, h, _, _, _ => h.elim
  | [], [], _ :: _, _, h, _, _, _ => h.elim
  | _ :: _, [], _, _, h, _, _, _ => h.elim
  | _ :: _, _ :: _, [], _, h, _, _, _ => h.elim
theorem same_of {W W' : World} (hx : Ext W (fun _ => False) W' (fun _ => False)) {p : MemPlace} (hp : p.block < W.heap.size) : W.sameAt W' p := by
  cases p with
  | cell b o => exact World.cell?_of_block (w := W) (hx.block b hp (fun h => h)).1
  | map b => exact (hx.block b hp (fun h => h)).1
theorem kept_of {W W' : World} (hx : Ext W (fun _ => False) W' (fun _ => False)) (may : MemPlace → Prop) : W.keptBut W' may := by
  refine ⟨hx.os, hx.output, fun i hi => ?_⟩
  rw [(hx.block i hi (fun h => h)).1]
  split <;> simp_all
theorem law_post {P : Program} {H : Type} {enc : TypeId × Value → H} {f : Func} {s : ChangeSpec} {W W' : World} {args : Array Value} {ds gs : List (DataW H)} {before : List MemPlace} {tb : Nat} (hl : laidOutB P = true) (hread : (f.params.toList.all fun t => P.readableRec t && decide (t < P.types.size)) = true)
    (hvars : s.vars = []) (hres : f.resultTypes = #[tb]) (htb : P.underlying tb = some .bool) (hfn : ∀ ds : List (DataW H), ds.length = f.params.size → s.fn H ds = { results := [.lit (.bool true)], args := ds })
    (hW : DataW.Whole enc P f.params.toList s.vars false W args.toList ds gs before) (hds : ds.length = f.params.size) (hx : Ext W (fun _ => False) W' (fun _ => False)) : s.post enc P f false true false false W args (.bool true) W' := by
  obtain ⟨p, q, hA, hV, hpq, hfz, hnd⟩ := id hW
  have hgs : gs = [] ∧ q = [] := by
    rw [hvars] at hV
    cases gs with
    | nil => exact ⟨rfl, hV⟩
    | cons a b => exact hV.elim
  obtain ⟨rfl, rfl⟩ := hgs
  rw [List.append_nil] at hpq
  subst hpq
  have hf := hfn ds hds
  refine ⟨ds, [], before, [], before, [], hW, ?_, ?_, ?_, kept_of hx _, fun h => by cases h⟩
  · rw [List.append_nil, hf, hres]
    exact trodAll_cons_mk (shut_bool htb true) trodAll_mk0
  · rw [List.append_nil, hf]
    exact trodAll_same hl hA hread (fun x hx' => same_of hx (hW.lt x hx')) (fun x hx' => by simpa using hW.lt x hx')
  · rw [List.append_nil, hf, hvars]
    exact rfl
theorem law_end {C : Ctx} {H : Type} {enc : TypeId × Value → H} {f : Nat} {fn : Func} {s : ChangeSpec} {W : World} {args : Array Value} {avs : List AV} {ds gs : List (DataW H)} {before : List MemPlace} {tb : Nat} (hl : laidOutB C.P = true) (hread : (fn.params.toList.all fun t => C.P.readableRec t && decide (t < C.P.types.size)) = true)
    (hvars : s.vars = []) (hres : fn.resultTypes = #[tb]) (htb : C.P.underlying tb = some .bool) (hfn : ∀ ds : List (DataW H), ds.length = fn.params.size → s.fn H ds = { results := [.lit (.bool true)], args := ds })
    (hW : DataW.Whole enc C.P fn.params.toList s.vars false W args.toList ds gs before) (hds : ds.length = fn.params.size) (hG : C.G W) (hgs : C.gs ≤ W.heap.size) (hpw : PW (fun _ => 0) gh0 W (fun _ => False) avs args) (ha : withinL none0 avs = true)
    (hfc : FC C f avs [] (Bv true) []) : Calls C.P f args W fun e W' => ∃ v, e = .returned v ∧ s.post enc C.P fn false true false false W args v W' := by
  refine (hfc.use0 rfl hG hgs (av := fun _ => False) (fun b hb => hb.elim) ha hpw).mono ?_
  rintro x w' ⟨v, rfl, hx, hv⟩
  have h1 := hv (fun _ => 0) gh0
  obtain rfl : v = .bool true := by cases h1 with | r h => cases h; rfl
  exact ⟨_, rfl, law_post hl hread hvars hres htb hfn hW hds hx⟩
end Go.Proofs.YtbhnmolmkembdaaGreatDoor
namespace Go.Proofs.YtbhnmolmkembdaaGreatDoor
set_option linter.unusedVariables false
set_option linter.unusedSimpArgs false
set_option maxHeartbeats 10000000
open Go Go.ChangeShapes Go.WideShapes Go.ChangeAt Go.RowKit
theorem noKnob : ownKnob Tryz.prog.godebug = none := by kernel_rfl
theorem laidB : laidOutB Tryz.prog = true := by kernel_rfl
theorem Ro_int {P : Program} {t : Nat} {k : IntKind} {row : List RV} (h : Ro P t row) (ht : P.underlying t = some (.int k)) : ∃ n, row = [.v (.int k n)] ∧ (Lit.int k n).wf = true := by
  cases h with
  | int _ k' n h1 h2 => rw [ht] at h1; cases h1; exact ⟨n, rfl, h2⟩
  | bool _ _ h1 => rw [ht] at h1; cases h1
  | string _ _ h1 => rw [ht] at h1; cases h1
  | struct _ _ _ h1 => rw [ht] at h1; cases h1
  | slice _ _ _ h1 => rw [ht] at h1; cases h1
theorem Ro_struct {P : Program} {t : Nat} {fs : Array Field} {row : List RV} (h : Ro P t row) (ht : P.underlying t = some (.struct fs)) : ∃ rows : List (List RV), row = rows.flatten ∧ rows.length = fs.toList.length ∧ ∀ (i : Nat) (f : Field) (row : List RV), fs.toList[i]? = some f → rows[i]? = some row → Ro P f.type row := by
  cases h with
  | int _ k' n h1 h2 => rw [ht] at h1; cases h1
  | bool _ _ h1 => rw [ht] at h1; cases h1
  | string _ _ h1 => rw [ht] at h1; cases h1
  | struct _ _ rows h1 h2 h3 => rw [ht] at h1; cases h1; exact ⟨rows, rfl, h2, h3⟩
  | slice _ _ _ h1 => rw [ht] at h1; cases h1
theorem Ro_val {row : List RV} (h : Ro Tryz.prog 50 row) : ∃ k n, row = [.v (.int .i64 k), .v (.int .i64 n)] := by
  obtain ⟨rows, rfl, h1, h2⟩ := Ro_struct h Tryz.underlying50
  match rows, h1 with
  | [a, b], _ =>
    obtain ⟨k, rfl, _⟩ := Ro_int (h2 0 _ a rfl rfl) Tryz.underlying3
    obtain ⟨n, rfl, _⟩ := Ro_int (h2 1 _ b rfl rfl) Tryz.underlying3
    exact ⟨k, n, rfl⟩
theorem Ro_slice {P : Program} {t e : Nat} {row : List RV} (h : Ro P t row) (ht : P.underlying t = some (.slice e)) : ∃ rows : List (List RV), row = [.rs (P.cellsOf e) rows] ∧ rows.length ≤ maxLen ∧ ∀ r ∈ rows, Ro P e r := by
  cases h with
  | int _ k' n h1 h2 => rw [ht] at h1; cases h1
  | bool _ _ h1 => rw [ht] at h1; cases h1
  | string _ _ h1 => rw [ht] at h1; cases h1
  | struct _ _ _ h1 => rw [ht] at h1; cases h1
  | slice _ e' rows h1 h2 h3 => rw [ht] at h1; cases h1; exact ⟨rows, rfl, h2, h3⟩
theorem rows_all {α : Type} {f : α → List RV} {p : α → Prop} : ∀ {rows : List (List RV)}, (∀ r ∈ rows, ∃ x, r = f x ∧ p x) → ∃ l : List α, rows = l.map f ∧ ∀ x ∈ l, p x
  | [], _ => ⟨[], rfl, fun x hx => by simp at hx⟩
  | r :: rows, h => by
    obtain ⟨x, rfl, hx⟩ := h r (List.mem_cons_self ..)
    obtain ⟨l, rfl, hl⟩ := rows_all (rows := rows) fun r hr => h r (List.mem_cons_of_mem _ hr)
    exact ⟨x :: l, rfl, fun y hy => (List.mem_cons.1 hy).elim (fun h => h ▸ hx) (hl y)⟩
end Go.Proofs.YtbhnmolmkembdaaGreatDoor
namespace Go.Proofs.YtbhnmolmkembdaaGreatDoor
set_option linter.unusedVariables false
set_option linter.unusedSimpArgs false
set_option maxHeartbeats 10000000
open Go Go.ChangeShapes Go.WideShapes Go.ChangeAt Go.RowKit
noncomputable abbrev laidL : List (String × DataW Unit) := [("unicode.White_Space", Rows.laid_unicode_White_Space), ("strings.asciiSpace", Rows.laid_strings_asciiSpace)]
theorem door_met (os : Os) (args : Array Value) : laidMetH Tryz.prog laidL ((World.doorLaid Tryz.prog 400 os).forCall (fun _ _ => 0) ⟨#[], args, []⟩).memory :=
  laidMetH_of_parts3 (fuel := 8) (laidMet_of_run' 8 (by kernel_rfl) (by kernel_rfl)) (by kernel_rfl) (by kernel_rfl)
theorem space_data : (Rows.laid_strings_asciiSpace : DataW Unit) = Lib.tabData .u8 Lib.asciiSpaceTab := by kernel_rfl
theorem space_of_laid {W : World} (h : laidMetH Tryz.prog laidL W) : Cx.G W ∧ Cx.gs ≤ W.heap.size := by
  rw [MakeChecks.laidMetH_plain _ _ _ (by kernel_rfl)] at h
  have h2 := h.tail
  rw [space_data] at h2
  have h3 : Lib.TabIs Tryz.prog W "strings.asciiSpace" .u8 Lib.asciiSpaceTab := Lib.tabIs_of_head gSpace (t := 223) (e := 5) (n := 256) (by kernel_rfl) Tryz.underlying223 Tryz.underlying5 (by kernel_rfl) (by kernel_rfl) h2
  refine ⟨h3, ?_⟩
  unfold Lib.TabIs World.var? at h3
  rw [gSpace] at h3
  simp only [Option.bind_some] at h3
  show 1 + 1 ≤ _
  rcases Nat.lt_or_ge 1 W.heap.size with h' | h'
  · exact h'
  · rw [Array.getElem?_eq_none h'] at h3; simp at h3
end Go.Proofs.YtbhnmolmkembdaaGreatDoor
namespace Go.Proofs.YtbhnmolmkembdaaGreatDoor
set_option linter.unusedVariables false
set_option linter.unusedSimpArgs false
set_option maxHeartbeats 10000000
open Go
set_option maxRecDepth 10000
theorem getD_map {α β : Type} (f : α → β) {l : List α} {i : Nat} {x : α} (h : l[i]? = some x) (d : β) : (l.map f).getD i d = f x := by simp [List.getD, h]
abbrev strR (s : ByteArray) : List RV := [.v (.string s)]
abbrev strsV (l : List ByteArray) : AV := .r (.rs 1 (l.map strR))
abbrev boolR (b : Bool) : List RV := [.v (.bool b)]
abbrev boolsV (l : List Bool) : AV := .r (.rs 1 (l.map boolR))
abbrev tryR (p : Int × Int) : List RV := [.v (.int .i64 p.1), .v (.int .i64 p.2)]
abbrev triesV (l : List (Int × Int)) : AV := .r (.rs 2 (l.map tryR))
def strsOf (xs : List (List RV)) : List ByteArray := xs.map fun r => match r with | [.v (.string n)] => n | _ => ⟨#[]⟩
def boolsOf (xs : List (List RV)) : List Bool := xs.map fun r => match r with | [.v (.bool n)] => n | _ => false
def triesOf (xs : List (List RV)) : List (Int × Int) := xs.map fun r => match r with | [.v (.int _ n), .v (.int _ m)] => (n, m) | _ => (0, 0)
@[go_sem] theorem strsOf_map (l : List ByteArray) : strsOf (l.map strR) = l := by
  unfold strsOf; rw [List.map_map]; conv => rhs; rw [← List.map_id l]
  exact List.map_congr_left fun x _ => rfl
@[go_sem] theorem boolsOf_map (l : List Bool) : boolsOf (l.map boolR) = l := by
  unfold boolsOf; rw [List.map_map]; conv => rhs; rw [← List.map_id l]
  exact List.map_congr_left fun x _ => rfl
@[go_sem] theorem triesOf_map (l : List (Int × Int)) : triesOf (l.map tryR) = l := by
  unfold triesOf; rw [List.map_map]; conv => rhs; rw [← List.map_id l]
  exact List.map_congr_left fun x _ => rfl
theorem strsOf_at {xs : List (List RV)} (h : xs = (strsOf xs).map strR) : strsV (strsOf xs) = .r (.rs 1 xs) := congrArg (fun z => AV.r (RV.rs 1 z)) h.symm
theorem boolsOf_at {xs : List (List RV)} (h : xs = (boolsOf xs).map boolR) : boolsV (boolsOf xs) = .r (.rs 1 xs) := congrArg (fun z => AV.r (RV.rs 1 z)) h.symm
theorem triesOf_at {xs : List (List RV)} (h : xs = (triesOf xs).map tryR) : triesV (triesOf xs) = .r (.rs 2 xs) := congrArg (fun z => AV.r (RV.rs 2 z)) h.symm
@[go_sem] theorem str_eq (a b : ByteArray) : (a.toList == b.toList) = decide (a = b) := by
  rw [Bool.eq_iff_iff, beq_iff_eq, decide_eq_true_eq]
  refine ⟨fun h => ?_, fun h => by rw [h]⟩
  rw [ByteArray.toList_eq, ByteArray.toList_eq] at h
  exact ByteArray.ext (Array.ext' h)
@[go_sem] theorem str_ne (a b : ByteArray) : (a.toList != b.toList) = !decide (a = b) := by rw [bne, str_eq]
theorem eqStr_c (l m : List ByteArray) (hl : l.length ≤ 9223372036854775807) : FC Cx 68 [strsV l, strsV m] [] (Bv (decide (l = m))) [] := by
  have hlen : (l.map strR).length = l.length := List.length_map ..
  have hlen' : (m.map strR).length = m.length := List.length_map ..
  refine FCp_of [] Tryz.func68 rfl Tryz.ntmps68 (by simp) Tryz.results68 rfl ?_
  apply Rn_st; (intro K0; simp only [go_sem]; exact ⟨id⟩)
  (any_goals refine go lv68 0 ?_)
  repeat' (first | (refine Br.go (fun h h' => ?_) (fun h h' => ?_)) | (refine Br.mk (fun h => ?_) (fun h => ?_)))
  · simp only [go_sem]
    have : l ≠ m := fun he => h' (by rw [he])
    simp [this]
  have hlm : l.length = m.length := by omega
  refine Rn_loopT [0, 1, 12, 13] (fun i => i ≤ l.length ∧ ∀ j, j < i → l[j]? = m[j]?) (fun (i : Nat) => ⟨26, [(0, strsV l), (1, strsV m), (12, Iv m.length), (13, Iv i)], []⟩) (fun i => l.length - i) 0 rfl rfl rfl ⟨Nat.zero_le _, fun j hj => by omega⟩ ?_
  rintro i ⟨hi, hno⟩
  by_cases hlt : i < l.length
  · obtain ⟨x, hx⟩ : ∃ x, l[i]? = some x := ⟨l[i], List.getElem?_eq_getElem hlt⟩
    obtain ⟨y, hy⟩ : ∃ y, m[i]? = some y := ⟨m[i], List.getElem?_eq_getElem (by omega)⟩
    have hg := getD_map strR hx ([] : List RV)
    have hg' := getD_map strR hy ([] : List RV)
    have hw : IntKind.i64.wrap ((i : Int) + 1) = ((i + 1 : Nat) : Int) := by rw [wrap_id] <;> omega
    have h1 : decide ((i : Int) < (m.length : Int)) = true := by rw [decide_eq_true_eq]; omega
    have h2 : Int.toNat (i : Int) = i := by omega
    (any_goals refine go lv68 0 ?_)
    repeat' (first | (refine Br.go (fun h h' => ?_) (fun h h' => ?_)) | (refine Br.mk (fun h => ?_) (fun h => ?_)))
    all_goals (try simp only [go_sem])
    · have h9 := h
      have : l ≠ m := fun he => by
        rw [he] at hx; rw [hx] at hy
        have := Option.some.inj hy
        subst this
        simp at h9
      simp [this]
    · refine ⟨i + 1, ⟨by omega, fun j hj => ?_⟩, by omega, Le_keep [0, 1, 12, 13] rfl rfl rfl⟩
      rcases Nat.lt_succ_iff_lt_or_eq.1 hj with h3 | h3
      · exact hno j h3
      · rw [h3, hx, hy]; exact congrArg some (by first | exact h' | exact Prod.ext h'.1 h'.2 | (cases x; cases y; simp_all))
  · have h1 : decide ((i : Int) < (m.length : Int)) = false := by rw [decide_eq_false_iff_not]; omega
    (any_goals refine go lv68 0 ?_)
    repeat' (first | (refine Br.go (fun h h' => ?_) (fun h h' => ?_)) | (refine Br.mk (fun h => ?_) (fun h => ?_)))
    all_goals (try simp only [go_sem])
    have : l = m := List.ext_getElem? fun j => by
      by_cases hj : j < i
      · exact hno j hj
      · rw [List.getElem?_eq_none (by omega), List.getElem?_eq_none (by omega)]
    simp [this]
theorem eqStr'_c (xs ys : List (List RV)) (h : xs = (strsOf xs).map strR ∧ ys = (strsOf ys).map strR ∧ xs.length ≤ 9223372036854775807) : FC Cx 68 [.r (.rs 1 xs), .r (.rs 1 ys)] [] (Bv (decide (strsOf xs = strsOf ys))) [] := by
  have := eqStr_c (strsOf xs) (strsOf ys) (by simpa [strsOf] using h.2.2)
  rwa [strsOf_at h.1, strsOf_at h.2.1] at this
def sp_eqStr' (args : List AV) (K : AV → Prop) : Prop := match args with
  | [.r (.rs 1 xs), .r (.rs 1 ys)] => (xs = (strsOf xs).map strR ∧ ys = (strsOf ys).map strR ∧ xs.length ≤ 9223372036854775807) ∧ K (Bv (decide (strsOf xs = strsOf ys)))
  | _ => False
theorem sp_eqStr'_ok (args : List AV) (K : AV → Prop) (h : sp_eqStr' args K) : ∃ r, CallOk Cx 68 args r ∧ K r := by
  unfold sp_eqStr' at h
  split at h
  · exact ⟨_, CallOk_of (eqStr'_c _ _ h.1) en68 rfl rfl, h.2⟩
  · exact h.elim
noncomputable def ct_eqStr' : Ct Cx := .pure 68 sp_eqStr' sp_eqStr'_ok
@[go_sem] theorem ct_eqStr'_g : ct_eqStr'.g = 68 := rfl
@[go_sem] theorem ct_eqStr'_run (c : Call) (fop : Operand) (caps : List AV) (o : Oper) (st : St) (K : List Loc → List (Loc × Cont) → Prop) : ct_eqStr'.run c fop caps o st K = callT Cx sp_eqStr' c fop caps o st K := rfl
@[go_sem] theorem sp_eqStr'_eq (args : List AV) (K : AV → Prop) : sp_eqStr' args K = (match args with
    | [.r (.rs 1 xs), .r (.rs 1 ys)] => (xs = (strsOf xs).map strR ∧ ys = (strsOf ys).map strR ∧ xs.length ≤ 9223372036854775807) ∧ K (Bv (decide (strsOf xs = strsOf ys)))
    | _ => False) := rfl
theorem eqTry_c (l m : List (Int × Int)) (hl : l.length ≤ 9223372036854775807) : FC Cx 130 [triesV l, triesV m] [] (Bv (decide (l = m))) [] := by
  have hlen : (l.map tryR).length = l.length := List.length_map ..
  have hlen' : (m.map tryR).length = m.length := List.length_map ..
  refine FCp_of [] Tryz.func130 rfl Tryz.ntmps130 (by simp) Tryz.results130 rfl ?_
  apply Rn_st; (intro K0; simp only [go_sem]; exact ⟨id⟩)
  (any_goals refine go lv130 0 ?_)
  repeat' (first | (refine Br.go (fun h h' => ?_) (fun h h' => ?_)) | (refine Br.mk (fun h => ?_) (fun h => ?_)))
  · simp only [go_sem]
    have : l ≠ m := fun he => h' (by rw [he])
    simp [this]
  have hlm : l.length = m.length := by omega
  refine Rn_loopT [0, 1, 12, 13] (fun i => i ≤ l.length ∧ ∀ j, j < i → l[j]? = m[j]?) (fun (i : Nat) => ⟨26, [(0, triesV l), (1, triesV m), (12, Iv m.length), (13, Iv i)], []⟩) (fun i => l.length - i) 0 rfl rfl rfl ⟨Nat.zero_le _, fun j hj => by omega⟩ ?_
  rintro i ⟨hi, hno⟩
  by_cases hlt : i < l.length
  · obtain ⟨x, hx⟩ : ∃ x, l[i]? = some x := ⟨l[i], List.getElem?_eq_getElem hlt⟩
    obtain ⟨y, hy⟩ : ∃ y, m[i]? = some y := ⟨m[i], List.getElem?_eq_getElem (by omega)⟩
    have hg := getD_map tryR hx ([] : List RV)
    have hg' := getD_map tryR hy ([] : List RV)
    have hw : IntKind.i64.wrap ((i : Int) + 1) = ((i + 1 : Nat) : Int) := by rw [wrap_id] <;> omega
    have h1 : decide ((i : Int) < (m.length : Int)) = true := by rw [decide_eq_true_eq]; omega
    have h2 : Int.toNat (i : Int) = i := by omega
    (any_goals refine go lv130 0 ?_)
    repeat' (first | (refine Br.go (fun h h' => ?_) (fun h h' => ?_)) | (refine Br.mk (fun h => ?_) (fun h => ?_)))
    all_goals (try simp only [go_sem])
    · have h9 := h
      have : l ≠ m := fun he => by
        rw [he] at hx; rw [hx] at hy
        have := Option.some.inj hy
        subst this
        simp at h9
      simp [this]
    · refine ⟨i + 1, ⟨by omega, fun j hj => ?_⟩, by omega, Le_keep [0, 1, 12, 13] rfl rfl rfl⟩
      rcases Nat.lt_succ_iff_lt_or_eq.1 hj with h3 | h3
      · exact hno j h3
      · rw [h3, hx, hy]; exact congrArg some (by first | exact h' | exact Prod.ext h'.1 h'.2 | (cases x; cases y; simp_all))
  · have h1 : decide ((i : Int) < (m.length : Int)) = false := by rw [decide_eq_false_iff_not]; omega
    (any_goals refine go lv130 0 ?_)
    repeat' (first | (refine Br.go (fun h h' => ?_) (fun h h' => ?_)) | (refine Br.mk (fun h => ?_) (fun h => ?_)))
    all_goals (try simp only [go_sem])
    have : l = m := List.ext_getElem? fun j => by
      by_cases hj : j < i
      · exact hno j hj
      · rw [List.getElem?_eq_none (by omega), List.getElem?_eq_none (by omega)]
    simp [this]
theorem eqTry'_c (xs ys : List (List RV)) (h : xs = (triesOf xs).map tryR ∧ ys = (triesOf ys).map tryR ∧ xs.length ≤ 9223372036854775807) : FC Cx 130 [.r (.rs 2 xs), .r (.rs 2 ys)] [] (Bv (decide (triesOf xs = triesOf ys))) [] := by
  have := eqTry_c (triesOf xs) (triesOf ys) (by simpa [triesOf] using h.2.2)
  rwa [triesOf_at h.1, triesOf_at h.2.1] at this
def sp_eqTry' (args : List AV) (K : AV → Prop) : Prop := match args with
  | [.r (.rs 2 xs), .r (.rs 2 ys)] => (xs = (triesOf xs).map tryR ∧ ys = (triesOf ys).map tryR ∧ xs.length ≤ 9223372036854775807) ∧ K (Bv (decide (triesOf xs = triesOf ys)))
  | _ => False
theorem sp_eqTry'_ok (args : List AV) (K : AV → Prop) (h : sp_eqTry' args K) : ∃ r, CallOk Cx 130 args r ∧ K r := by
  unfold sp_eqTry' at h
  split at h
  · exact ⟨_, CallOk_of (eqTry'_c _ _ h.1) en130 rfl rfl, h.2⟩
  · exact h.elim
noncomputable def ct_eqTry' : Ct Cx := .pure 130 sp_eqTry' sp_eqTry'_ok
@[go_sem] theorem ct_eqTry'_g : ct_eqTry'.g = 130 := rfl
@[go_sem] theorem ct_eqTry'_run (c : Call) (fop : Operand) (caps : List AV) (o : Oper) (st : St) (K : List Loc → List (Loc × Cont) → Prop) : ct_eqTry'.run c fop caps o st K = callT Cx sp_eqTry' c fop caps o st K := rfl
@[go_sem] theorem sp_eqTry'_eq (args : List AV) (K : AV → Prop) : sp_eqTry' args K = (match args with
    | [.r (.rs 2 xs), .r (.rs 2 ys)] => (xs = (triesOf xs).map tryR ∧ ys = (triesOf ys).map tryR ∧ xs.length ≤ 9223372036854775807) ∧ K (Bv (decide (triesOf xs = triesOf ys)))
    | _ => False) := rfl
end Go.Proofs.YtbhnmolmkembdaaGreatDoor
namespace Go.Proofs.YtbhnmolmkembdaaGreatDoor
set_option linter.unusedVariables false
set_option linter.unusedSimpArgs false
set_option maxHeartbeats 10000000
open Go
set_option maxRecDepth 10000
structure InsT where
  op : Int
  a : Int
  b : Int
  c : Int
  line : Int
  deriving DecidableEq
structure FnT where
  params : Int
  regs : Int
  gen : Bool
  caught : List Int
  code : List InsT
structure ProgT where
  fns : List FnT
  consts : List (Int × Int)
  texts : List ByteArray
abbrev intR (n : Int) : List RV := [.v (.int .i64 n)]
abbrev intsV (l : List Int) : AV := .r (.rs 1 (l.map intR))
abbrev valR (p : Int × Int) : List RV := [.v (.int .i64 p.1), .v (.int .i64 p.2)]
abbrev valsV (l : List (Int × Int)) : AV := .r (.rs 2 (l.map valR))
abbrev valA (p : Int × Int) : AV := .agg [Iv p.1, Iv p.2]
abbrev strA (s : ByteArray) : AV := .r (.v (.string s))
abbrev intA (n : Int) : AV := .r (.v (.int .i64 n))
abbrev insR (i : InsT) : List RV := [.v (.int .i64 i.op), .v (.int .i64 i.a), .v (.int .i64 i.b), .v (.int .i64 i.c), .v (.int .i64 i.line)]
abbrev insA (i : InsT) : AV := .agg [Iv i.op, Iv i.a, Iv i.b, Iv i.c, Iv i.line]
abbrev inssV (l : List InsT) : AV := .r (.rs 5 (l.map insR))
abbrev fnR (f : FnT) : List RV := [.v (.int .i64 f.params), .v (.int .i64 f.regs), .v (.bool f.gen), .rs 1 (f.caught.map intR), .rs 5 (f.code.map insR)]
abbrev fnA (f : FnT) : AV := .agg [Iv f.params, Iv f.regs, Bv f.gen, intsV f.caught, inssV f.code]
abbrev fnsV (l : List FnT) : AV := .r (.rs 5 (l.map fnR))
abbrev progR (p : ProgT) : List RV := [.rs 5 (p.fns.map fnR), .rs 2 (p.consts.map valR), .rs 1 (p.texts.map strR)]
abbrev progV (p : ProgT) : AV := .agg [fnsV p.fns, valsV p.consts, strsV p.texts]
def intsOf (xs : List (List RV)) : List Int := xs.map fun r => match r with | [.v (.int _ n)] => n | _ => 0
def valsOf (xs : List (List RV)) : List (Int × Int) := xs.map fun r => match r with | [.v (.int _ n), .v (.int _ m)] => (n, m) | _ => (0, 0)
def inssOf (xs : List (List RV)) : List InsT := xs.map fun r => match r with | [.v (.int _ o), .v (.int _ a), .v (.int _ b), .v (.int _ c), .v (.int _ l)] => ⟨o, a, b, c, l⟩ | _ => ⟨0, 0, 0, 0, 0⟩
def fnsOf (xs : List (List RV)) : List FnT := xs.map fun r => match r with | [.v (.int _ p), .v (.int _ g), .v (.bool b), .rs _ cs, .rs _ is] => ⟨p, g, b, intsOf cs, inssOf is⟩ | _ => ⟨0, 0, false, [], []⟩
@[go_sem] theorem intsOf_map (l : List Int) : intsOf (l.map intR) = l := by
  unfold intsOf; rw [List.map_map]; conv => rhs; rw [← List.map_id l]
  exact List.map_congr_left fun x _ => rfl
@[go_sem] theorem valsOf_map (l : List (Int × Int)) : valsOf (l.map valR) = l := by
  unfold valsOf; rw [List.map_map]; conv => rhs; rw [← List.map_id l]
  exact List.map_congr_left fun x _ => rfl
@[go_sem] theorem inssOf_map (l : List InsT) : inssOf (l.map insR) = l := by
  unfold inssOf; rw [List.map_map]; conv => rhs; rw [← List.map_id l]
  exact List.map_congr_left fun x _ => rfl
@[go_sem] theorem fnsOf_map (l : List FnT) : fnsOf (l.map fnR) = l := by
  unfold fnsOf; rw [List.map_map]; conv => rhs; rw [← List.map_id l]
  refine List.map_congr_left fun x _ => ?_
  show (⟨x.params, x.regs, x.gen, intsOf (x.caught.map intR), inssOf (x.code.map insR)⟩ : FnT) = x
  rw [intsOf_map, inssOf_map]
theorem intsOf_at {xs : List (List RV)} (h : xs = (intsOf xs).map intR) : intsV (intsOf xs) = .r (.rs 1 xs) := congrArg (fun z => AV.r (RV.rs 1 z)) h.symm
theorem valsOf_at {xs : List (List RV)} (h : xs = (valsOf xs).map valR) : valsV (valsOf xs) = .r (.rs 2 xs) := congrArg (fun z => AV.r (RV.rs 2 z)) h.symm
theorem inssOf_at {xs : List (List RV)} (h : xs = (inssOf xs).map insR) : inssV (inssOf xs) = .r (.rs 5 xs) := congrArg (fun z => AV.r (RV.rs 5 z)) h.symm
theorem fnsOf_at {xs : List (List RV)} (h : xs = (fnsOf xs).map fnR) : fnsV (fnsOf xs) = .r (.rs 5 xs) := congrArg (fun z => AV.r (RV.rs 5 z)) h.symm
@[go_sem] theorem fn_eta (f : FnT) : FnT.mk f.params f.regs f.gen f.caught f.code = f := rfl
@[go_sem] theorem ins_eta (i : InsT) : InsT.mk i.op i.a i.b i.c i.line = i := rfl
@[go_sem] theorem prog_eta (p : ProgT) : ProgT.mk p.fns p.consts p.texts = p := rfl
@[go_sem] theorem val_eta (p : Int × Int) : (p.1, p.2) = p := rfl
def fidx {α : Type} (p : α → Bool) : List α → Int
  | [] => -1
  | x :: l => if p x = true then 0 else if fidx p l < 0 then -1 else fidx p l + 1
theorem fidx_ge {α : Type} (p : α → Bool) : ∀ l : List α, -1 ≤ fidx p l
  | [] => by simp [fidx]
  | x :: l => by
    have := fidx_ge p l
    unfold fidx; split
    · omega
    · split <;> omega
theorem fidx_hit {α : Type} {p : α → Bool} {x : α} : ∀ {l : List α} {i : Nat}, l[i]? = some x → p x = true → (∀ j y, j < i → l[j]? = some y → p y = false) → fidx p l = i
  | y :: l, 0, h, hp, _ => by simp at h; subst h; simp [fidx, hp]
  | y :: l, i + 1, h, hp, hno => by
    have h0 := hno 0 y (by omega) rfl
    have ih := fidx_hit (l := l) (i := i) (by simpa using h) hp fun j z hj hz => hno (j + 1) z (by omega) (by simpa using hz)
    unfold fidx
    rw [h0, if_neg (by simp), ih, if_neg (by omega)]
    omega
theorem fidx_none {α : Type} {p : α → Bool} : ∀ {l : List α}, (∀ (j : Nat) y, l[j]? = some y → p y = false) → fidx p l = -1
  | [], _ => rfl
  | y :: l, h => by
    have ih := fidx_none (p := p) (l := l) fun j z hz => h (j + 1) z (by simpa using hz)
    unfold fidx
    rw [h 0 y rfl, if_neg (by simp), ih]; rfl
theorem fidx_any {α : Type} (p : α → Bool) : ∀ l : List α, decide (fidx p l ≥ 0) = l.any p
  | [] => rfl
  | x :: l => by
    have ih := fidx_any p l
    have hge := fidx_ge p l
    unfold fidx
    cases hp : p x with
    | true => simp [hp]
    | false =>
      rw [if_neg (by simp), List.any_cons, hp, Bool.false_or, ← ih]
      by_cases h : fidx p l < 0
      · rw [if_pos h, decide_eq_false (by omega), decide_eq_false (by omega)]
      · rw [if_neg h, decide_eq_true (by omega), decide_eq_true (by omega)]
@[go_sem] theorem fidx_any' {α : Type} (p : α → Bool) (l : List α) : decide (0 ≤ fidx p l) = l.any p := fidx_any p l
def spF (caps : List RV) (dom : AV → Prop) (pv : AV → Bool) (args : List AV) (K : AV → Prop) : Prop := match args with
  | y :: ys => (dom y ∧ ys = caps.map .r) ∧ K (Bv (pv y))
  | [] => False
theorem spF_ok {C : Ctx} {f : Nat} {caps : List RV} {dom : AV → Prop} {pv : AV → Bool} (h : ∀ y, dom y → CallOk C f (y :: caps.map AV.r) (Bv (pv y))) (args : List AV) (K : AV → Prop) (hs : spF caps dom pv args K) : ∃ r, CallOk C f args r ∧ K r := by
  unfold spF at hs
  split at hs
  · obtain ⟨⟨h1, rfl⟩, h2⟩ := hs
    exact ⟨_, h _ h1, h2⟩
  · exact hs.elim
noncomputable def ctF {C : Ctx} (f : Nat) (caps : List RV) (dom : AV → Prop) (pv : AV → Bool) (h : ∀ y, dom y → CallOk C f (y :: caps.map AV.r) (Bv (pv y))) : Ct C := .pure f (spF caps dom pv) (spF_ok h)
@[go_sem] theorem ctF_g {C : Ctx} (f : Nat) (caps : List RV) (dom : AV → Prop) (pv : AV → Bool) (h : ∀ y, dom y → CallOk C f (y :: caps.map AV.r) (Bv (pv y))) : (ctF f caps dom pv h).g = f := rfl
@[go_sem] theorem ctF_run {C : Ctx} (f : Nat) (caps : List RV) (dom : AV → Prop) (pv : AV → Bool) (h : ∀ y, dom y → CallOk C f (y :: caps.map AV.r) (Bv (pv y))) (c : Call) (fop : Operand) (cs : List AV) (o : Oper) (st : St) (K : List Loc → List (Loc × Cont) → Prop) : (ctF f caps dom pv h).run c fop cs o st K = callT C (spF caps dom pv) c fop cs o st K := rfl
@[go_sem] theorem spF_eq (caps : List RV) (dom : AV → Prop) (pv : AV → Bool) (y : AV) (ys : List AV) (K : AV → Prop) : spF caps dom pv (y :: ys) K = ((dom y ∧ ys = caps.map .r) ∧ K (Bv (pv y))) := rfl
def spE (args : List AV) (r : AV) (args' : List AV) (K : AV → Prop) : Prop := args' = args ∧ K r
theorem spE_ok {C : Ctx} {f : Nat} {args : List AV} {r : AV} (h : ∀ y, y = args → CallOk C f y r) (args' : List AV) (K : AV → Prop) (hs : spE args r args' K) : ∃ r, CallOk C f args' r ∧ K r := ⟨r, h _ hs.1, hs.2⟩
noncomputable def ctE {C : Ctx} (f : Nat) (args : List AV) (r : AV) (h : ∀ y, y = args → CallOk C f y r) : Ct C := .pure f (spE args r) (spE_ok h)
@[go_sem] theorem ctE_g {C : Ctx} (f : Nat) (args : List AV) (r : AV) (h : ∀ y, y = args → CallOk C f y r) : (ctE f args r h).g = f := rfl
@[go_sem] theorem ctE_run {C : Ctx} (f : Nat) (args : List AV) (r : AV) (h : ∀ y, y = args → CallOk C f y r) (c : Call) (fop : Operand) (cs : List AV) (o : Oper) (st : St) (K : List Loc → List (Loc × Cont) → Prop) : (ctE f args r h).run c fop cs o st K = callT C (spE args r) c fop cs o st K := rfl
attribute [go_sem] spE
@[go_sem] theorem lendAs_r (st : St) : ∀ (caps : List RV) (K : List Loc → List AV → Prop), lendAs st (caps.map AV.r) K = K [] (caps.map AV.r)
  | [], K => rfl
  | x :: l, K => by
    simp only [List.map_cons, lendAs, lendA_r]
    rw [lendAs_r st l]; rfl
@[go_sem] theorem withinL_r (ok : Nat → Bool) : ∀ caps : List RV, withinL ok (caps.map AV.r) = true
  | [] => rfl
  | x :: l => by simp only [List.map_cons, withinL, within, withinL_r ok l]; rfl
theorem idxfStr_c (l : List ByteArray) (f : Nat) (caps : List RV) (dom : AV → Prop) (pv : AV → Bool) (h : ∀ y, dom y → CallOk Cx f (y :: caps.map AV.r) (Bv (pv y))) (hd : ∀ x ∈ l, dom (strA x)) (hl : l.length ≤ 9223372036854775807) :
    FC Cx 151 [strsV l, .r (.fn f caps)] [] (Iv (fidx (fun x => pv (strA x)) l)) [] := by
  have hlen : (l.map strR).length = l.length := List.length_map ..
  refine FCp_of [ctF f caps dom pv h] Tryz.func151 rfl Tryz.ntmps151 (by simp) Tryz.results151 rfl ?_
  apply Rn_st; (intro K0; simp only [go_sem]; exact ⟨id⟩)
  (any_goals refine go lv151 0 ?_)
  repeat' (first | (refine Br.go (fun h h' => ?_) (fun h h' => ?_)) | (refine Br.mk (fun h => ?_) (fun h => ?_)))
  refine Rn_loopT [0, 1, 7, 8] (fun i => i ≤ l.length ∧ ∀ j x, j < i → l[j]? = some x → pv (strA x) = false) (fun (i : Nat) => ⟨19, [(0, strsV l), (1, .r (.fn f caps)), (7, Iv l.length), (8, Iv i)], []⟩) (fun i => l.length - i) 0 rfl (by rw [← hlen]; rfl) rfl ⟨Nat.zero_le _, fun j x hj => by omega⟩ ?_
  rintro i ⟨hi, hno⟩
  by_cases hlt : i < l.length
  · obtain ⟨x, hx⟩ : ∃ x, l[i]? = some x := ⟨l[i], List.getElem?_eq_getElem hlt⟩
    have hg := getD_map strR hx ([] : List RV)
    have hdx := hd x (List.mem_of_getElem? hx)
    have hw : IntKind.i64.wrap ((i : Int) + 1) = ((i + 1 : Nat) : Int) := by rw [wrap_id] <;> omega
    have h1 : decide ((i : Int) < (l.length : Int)) = true := by rw [decide_eq_true_eq]; omega
    have h2 : Int.toNat (i : Int) = i := by omega
    cases hp : pv (strA x) with
    | true =>
      (any_goals refine go lv151 0 ?_)
      repeat' (first | (refine Br.go (fun h h' => ?_) (fun h h' => ?_)) | (refine Br.mk (fun h => ?_) (fun h => ?_)))
      all_goals (try simp only [go_sem])
      rw [fidx_hit hx hp fun j y hj hy => hno j y hj hy]
    | false =>
      (any_goals refine go lv151 0 ?_)
      repeat' (first | (refine Br.go (fun h h' => ?_) (fun h h' => ?_)) | (refine Br.mk (fun h => ?_) (fun h => ?_)))
      all_goals (try simp only [go_sem])
      refine ⟨i + 1, ⟨by omega, fun j y hj hy => ?_⟩, by omega, Le_keep [0, 1, 7, 8] rfl rfl rfl⟩
      rcases Nat.lt_succ_iff_lt_or_eq.1 hj with h3 | h3
      · exact hno j y h3 hy
      · subst h3; rw [hx] at hy; cases hy; exact hp
  · have h1 : decide ((i : Int) < (l.length : Int)) = false := by rw [decide_eq_false_iff_not]; omega
    (any_goals refine go lv151 0 ?_)
    repeat' (first | (refine Br.go (fun h h' => ?_) (fun h h' => ?_)) | (refine Br.mk (fun h => ?_) (fun h => ?_)))
    all_goals (try simp only [go_sem])
    rw [fidx_none fun j y hy => hno j y (by have := (List.getElem?_eq_some_iff.1 hy).1; omega) hy]
theorem anyStr_c (l : List ByteArray) (f : Nat) (caps : List RV) (dom : AV → Prop) (pv : AV → Bool) (h : ∀ y, dom y → CallOk Cx f (y :: caps.map AV.r) (Bv (pv y))) (hd : ∀ x ∈ l, dom (strA x)) (hl : l.length ≤ 9223372036854775807) :
    FC Cx 99 [strsV l, .r (.fn f caps)] [] (Bv (l.any fun x => pv (strA x))) [] := by
  have hA : ∀ y, y = [strsV l, .r (.fn f caps)] → CallOk Cx 151 y (Iv (fidx (fun x => pv (strA x)) l)) := fun y hy => by
    subst hy; exact CallOk_of (idxfStr_c l f caps dom pv h hd hl) en151 rfl rfl
  refine FCp_of [ctE 151 [strsV l, .r (.fn f caps)] (Iv (fidx (fun x => pv (strA x)) l)) hA] Tryz.func99 rfl Tryz.ntmps99 (by simp) Tryz.results99 rfl ?_
  apply Rn_st; (intro K0; simp only [go_sem]; exact ⟨id⟩)
  (any_goals refine go lv99 0 ?_)
  repeat' (first | (refine Br.go (fun h h' => ?_) (fun h h' => ?_)) | (refine Br.mk (fun h => ?_) (fun h => ?_)))
  all_goals (try simp only [go_sem])
  all_goals (try rw [fidx_any])
end Go.Proofs.YtbhnmolmkembdaaGreatDoor
namespace Go.Proofs.YtbhnmolmkembdaaGreatDoor
set_option linter.unusedVariables false
set_option linter.unusedSimpArgs false
set_option maxHeartbeats 10000000
open Go
set_option maxRecDepth 10000
abbrev lookA (p : ProgT) (f : FnT) : AV := .agg [fnsV p.fns, valsV p.consts, strsV p.texts, Iv f.params, Iv f.regs, Bv f.gen, intsV f.caught, inssV f.code]
theorem prog_at {xs ys zs : List (List RV)} (h : xs = (fnsOf xs).map fnR ∧ ys = (valsOf ys).map valR ∧ zs = (strsOf zs).map strR) : progV ⟨fnsOf xs, valsOf ys, strsOf zs⟩ = .agg [.r (.rs 5 xs), .r (.rs 2 ys), .r (.rs 1 zs)] := by
  show AV.agg [fnsV (fnsOf xs), valsV (valsOf ys), strsV (strsOf zs)] = _
  rw [fnsOf_at h.1, valsOf_at h.2.1, strsOf_at h.2.2]
theorem fn_at {pa rg : Int} {ge : Bool} {us vs : List (List RV)} (h : us = (intsOf us).map intR ∧ vs = (inssOf vs).map insR) : fnA ⟨pa, rg, ge, intsOf us, inssOf vs⟩ = .agg [Iv pa, Iv rg, Bv ge, .r (.rs 1 us), .r (.rs 5 vs)] := by
  show AV.agg [Iv pa, Iv rg, Bv ge, intsV (intsOf us), inssV (inssOf vs)] = _
  rw [intsOf_at h.1, inssOf_at h.2]
theorem look_at {xs ys zs : List (List RV)} {pa rg : Int} {ge : Bool} {us vs : List (List RV)} (h : (xs = (fnsOf xs).map fnR ∧ ys = (valsOf ys).map valR ∧ zs = (strsOf zs).map strR) ∧ us = (intsOf us).map intR ∧ vs = (inssOf vs).map insR) : lookA ⟨fnsOf xs, valsOf ys, strsOf zs⟩ ⟨pa, rg, ge, intsOf us, inssOf vs⟩ = .agg [.r (.rs 5 xs), .r (.rs 2 ys), .r (.rs 1 zs), Iv pa, Iv rg, Bv ge, .r (.rs 1 us), .r (.rs 5 vs)] := by
  show AV.agg [fnsV (fnsOf xs), valsV (valsOf ys), strsV (strsOf zs), Iv pa, Iv rg, Bv ge, intsV (intsOf us), inssV (inssOf vs)] = _
  rw [fnsOf_at h.1.1, valsOf_at h.1.2.1, strsOf_at h.1.2.2, intsOf_at h.2.1, inssOf_at h.2.2]
def ML : Nat := 140737488351232
structure Fok (f : FnT) : Prop where
  caught : f.caught.length ≤ 9223372036854775807
  code : f.code.length ≤ 9223372036854775807
  regs : 1 ≤ f.regs ∧ f.regs ≤ 60
structure Psz (p : ProgT) : Prop where
  fns : p.fns.length ≤ 9223372036854775807
  consts : p.consts.length ≤ 9223372036854775807
  texts : p.texts.length ≤ 9223372036854775807
def wiF (n lo hi : Int) : Bool := decide (lo ≤ n ∧ n ≤ hi)
theorem cwithin_c (n lo hi : Int) : FC Cx 156 [Iv n, Iv lo, Iv hi] [] (Bv (wiF n lo hi)) [] := by
  refine FCp_of [] Tryz.func156 rfl Tryz.ntmps156 (by simp) Tryz.results156 rfl ?_
  apply Rn_st; (intro K0; simp only [go_sem]; exact ⟨id⟩)
  (any_goals refine go lv156 0 ?_)
  repeat' (first | (refine Br.go (fun h h' => ?_) (fun h h' => ?_)) | (refine Br.mk (fun h => ?_) (fun h => ?_)))
  all_goals (try simp only [go_sem])
  all_goals simp_all [wiF]
  all_goals omega
def sp_cwithin (args : List AV) (K : AV → Prop) : Prop := match args with
  | [.r (.v (.int .i64 n)), .r (.v (.int .i64 lo)), .r (.v (.int .i64 hi))] => K (Bv (wiF n lo hi))
  | _ => False
theorem sp_cwithin_ok (args : List AV) (K : AV → Prop) (h : sp_cwithin args K) : ∃ r, CallOk Cx 156 args r ∧ K r := by
  unfold sp_cwithin at h
  split at h
  · exact ⟨_, CallOk_of (cwithin_c _ _ _) en156 rfl rfl, h⟩
  · exact h.elim
noncomputable def ct_cwithin : Ct Cx := .pure 156 sp_cwithin sp_cwithin_ok
@[go_sem] theorem ct_cwithin_g : ct_cwithin.g = 156 := rfl
@[go_sem] theorem ct_cwithin_run (c : Call) (fop : Operand) (caps : List AV) (o : Oper) (st : St) (K : List Loc → List (Loc × Cont) → Prop) : ct_cwithin.run c fop caps o st K = callT Cx sp_cwithin c fop caps o st K := rfl
@[go_sem] theorem sp_cwithin_eq (args : List AV) (K : AV → Prop) : sp_cwithin args K = (match args with
    | [.r (.v (.int .i64 n)), .r (.v (.int .i64 lo)), .r (.v (.int .i64 hi))] => K (Bv (wiF n lo hi))
    | _ => False) := rfl
theorem reg_c (p : ProgT) (f : FnT) (n : Int) (h : Fok f) : FC Cx 158 [lookA p f, Iv n] [] (Bv (wiF n 0 (f.regs - 1))) [] := by
  have hw : IntKind.i64.wrap (f.regs - 1) = f.regs - 1 := by have := h.regs; rw [wrap_id] <;> omega
  refine FCp_of [ct_cwithin] Tryz.func158 rfl Tryz.ntmps158 (by simp) Tryz.results158 rfl ?_
  apply Rn_st; (intro K0; simp only [go_sem]; exact ⟨id⟩)
  refine goR (L := []) (n := 0) ?_
  (apply Rn_frzB 2; (exact rfl); (exact rfl); (exact rfl); (intro K0; (try simp only [go_sem]); exact ⟨id⟩))
  (any_goals refine go lv158 0 ?_)
  repeat' (first | (refine Br.go (fun h h' => ?_) (fun h h' => ?_)) | (refine Br.mk (fun h => ?_) (fun h => ?_)))
  all_goals (try simp only [go_sem])
theorem reg'_c (xs ys zs : List (List RV)) (pa rg : Int) (ge : Bool) (us vs : List (List RV)) (n : Int) (h : ((xs = (fnsOf xs).map fnR ∧ ys = (valsOf ys).map valR ∧ zs = (strsOf zs).map strR) ∧ us = (intsOf us).map intR ∧ vs = (inssOf vs).map insR) ∧ Fok ⟨pa, rg, ge, intsOf us, inssOf vs⟩) : FC Cx 158 [.agg [.r (.rs 5 xs), .r (.rs 2 ys), .r (.rs 1 zs), Iv pa, Iv rg, Bv ge, .r (.rs 1 us), .r (.rs 5 vs)], Iv n] [] (Bv (wiF n 0 (rg - 1))) [] := by
  have := reg_c ⟨fnsOf xs, valsOf ys, strsOf zs⟩ ⟨pa, rg, ge, intsOf us, inssOf vs⟩ n h.2
  rwa [look_at h.1] at this
def sp_reg' (args : List AV) (K : AV → Prop) : Prop := match args with
  | [.agg [.r (.rs 5 xs), .r (.rs 2 ys), .r (.rs 1 zs), .r (.v (.int .i64 pa)), .r (.v (.int .i64 rg)), .r (.v (.bool ge)), .r (.rs 1 us), .r (.rs 5 vs)], .r (.v (.int .i64 n))] => (((xs = (fnsOf xs).map fnR ∧ ys = (valsOf ys).map valR ∧ zs = (strsOf zs).map strR) ∧ us = (intsOf us).map intR ∧ vs = (inssOf vs).map insR) ∧ Fok ⟨pa, rg, ge, intsOf us, inssOf vs⟩) ∧ K (Bv (wiF n 0 (rg - 1)))
  | _ => False
theorem sp_reg'_ok (args : List AV) (K : AV → Prop) (h : sp_reg' args K) : ∃ r, CallOk Cx 158 args r ∧ K r := by
  unfold sp_reg' at h
  split at h
  · exact ⟨_, CallOk_of (reg'_c _ _ _ _ _ _ _ _ _ h.1) en158 rfl rfl, h.2⟩
  · exact h.elim
noncomputable def ct_reg' : Ct Cx := .pure 158 sp_reg' sp_reg'_ok
@[go_sem] theorem ct_reg'_g : ct_reg'.g = 158 := rfl
@[go_sem] theorem ct_reg'_run (c : Call) (fop : Operand) (caps : List AV) (o : Oper) (st : St) (K : List Loc → List (Loc × Cont) → Prop) : ct_reg'.run c fop caps o st K = callT Cx sp_reg' c fop caps o st K := rfl
@[go_sem] theorem sp_reg'_eq (args : List AV) (K : AV → Prop) : sp_reg' args K = (match args with
    | [.agg [.r (.rs 5 xs), .r (.rs 2 ys), .r (.rs 1 zs), .r (.v (.int .i64 pa)), .r (.v (.int .i64 rg)), .r (.v (.bool ge)), .r (.rs 1 us), .r (.rs 5 vs)], .r (.v (.int .i64 n))] => (((xs = (fnsOf xs).map fnR ∧ ys = (valsOf ys).map valR ∧ zs = (strsOf zs).map strR) ∧ us = (intsOf us).map intR ∧ vs = (inssOf vs).map insR) ∧ Fok ⟨pa, rg, ge, intsOf us, inssOf vs⟩) ∧ K (Bv (wiF n 0 (rg - 1)))
    | _ => False) := rfl
theorem at_c (p : ProgT) (f : FnT) (n : Int) (h : Fok f) : FC Cx 183 [lookA p f, Iv n] [] (Bv (wiF n 0 ((f.code.length : Int) - 1))) [] := by
  have hw : IntKind.i64.wrap ((f.code.length : Int) - 1) = (f.code.length : Int) - 1 := by have := h.code; rw [wrap_id] <;> omega
  have hl : (f.code.map insR).length = f.code.length := List.length_map ..
  refine FCp_of [ct_cwithin] Tryz.func183 rfl Tryz.ntmps183 (by simp) Tryz.results183 rfl ?_
  apply Rn_st; (intro K0; simp only [go_sem]; exact ⟨id⟩)
  refine goR (L := []) (n := 0) ?_
  (apply Rn_frzB 2; (exact rfl); (exact rfl); (exact rfl); (intro K0; (try simp only [go_sem]); exact ⟨id⟩))
  (any_goals refine go lv183 0 ?_)
  repeat' (first | (refine Br.go (fun h h' => ?_) (fun h h' => ?_)) | (refine Br.mk (fun h => ?_) (fun h => ?_)))
  all_goals (try simp only [go_sem])
theorem at'_c (xs ys zs : List (List RV)) (pa rg : Int) (ge : Bool) (us vs : List (List RV)) (n : Int) (h : ((xs = (fnsOf xs).map fnR ∧ ys = (valsOf ys).map valR ∧ zs = (strsOf zs).map strR) ∧ us = (intsOf us).map intR ∧ vs = (inssOf vs).map insR) ∧ Fok ⟨pa, rg, ge, intsOf us, inssOf vs⟩) : FC Cx 183 [.agg [.r (.rs 5 xs), .r (.rs 2 ys), .r (.rs 1 zs), Iv pa, Iv rg, Bv ge, .r (.rs 1 us), .r (.rs 5 vs)], Iv n] [] (Bv (wiF n 0 (((inssOf vs).length : Int) - 1))) [] := by
  have := at_c ⟨fnsOf xs, valsOf ys, strsOf zs⟩ ⟨pa, rg, ge, intsOf us, inssOf vs⟩ n h.2
  rwa [look_at h.1] at this
def sp_at' (args : List AV) (K : AV → Prop) : Prop := match args with
  | [.agg [.r (.rs 5 xs), .r (.rs 2 ys), .r (.rs 1 zs), .r (.v (.int .i64 pa)), .r (.v (.int .i64 rg)), .r (.v (.bool ge)), .r (.rs 1 us), .r (.rs 5 vs)], .r (.v (.int .i64 n))] => (((xs = (fnsOf xs).map fnR ∧ ys = (valsOf ys).map valR ∧ zs = (strsOf zs).map strR) ∧ us = (intsOf us).map intR ∧ vs = (inssOf vs).map insR) ∧ Fok ⟨pa, rg, ge, intsOf us, inssOf vs⟩) ∧ K (Bv (wiF n 0 (((inssOf vs).length : Int) - 1)))
  | _ => False
theorem sp_at'_ok (args : List AV) (K : AV → Prop) (h : sp_at' args K) : ∃ r, CallOk Cx 183 args r ∧ K r := by
  unfold sp_at' at h
  split at h
  · exact ⟨_, CallOk_of (at'_c _ _ _ _ _ _ _ _ _ h.1) en183 rfl rfl, h.2⟩
  · exact h.elim
noncomputable def ct_at' : Ct Cx := .pure 183 sp_at' sp_at'_ok
@[go_sem] theorem ct_at'_g : ct_at'.g = 183 := rfl
@[go_sem] theorem ct_at'_run (c : Call) (fop : Operand) (caps : List AV) (o : Oper) (st : St) (K : List Loc → List (Loc × Cont) → Prop) : ct_at'.run c fop caps o st K = callT Cx sp_at' c fop caps o st K := rfl
@[go_sem] theorem sp_at'_eq (args : List AV) (K : AV → Prop) : sp_at' args K = (match args with
    | [.agg [.r (.rs 5 xs), .r (.rs 2 ys), .r (.rs 1 zs), .r (.v (.int .i64 pa)), .r (.v (.int .i64 rg)), .r (.v (.bool ge)), .r (.rs 1 us), .r (.rs 5 vs)], .r (.v (.int .i64 n))] => (((xs = (fnsOf xs).map fnR ∧ ys = (valsOf ys).map valR ∧ zs = (strsOf zs).map strR) ∧ us = (intsOf us).map intR ∧ vs = (inssOf vs).map insR) ∧ Fok ⟨pa, rg, ge, intsOf us, inssOf vs⟩) ∧ K (Bv (wiF n 0 (((inssOf vs).length : Int) - 1)))
    | _ => False) := rfl
theorem text_c (p : ProgT) (f : FnT) (n : Int) (h : Psz p) : FC Cx 182 [lookA p f, Iv n] [] (Bv (wiF n 0 ((p.texts.length : Int) - 1))) [] := by
  have hw : IntKind.i64.wrap ((p.texts.length : Int) - 1) = (p.texts.length : Int) - 1 := by have := h.texts; rw [wrap_id] <;> omega
  have hl : (p.texts.map strR).length = p.texts.length := List.length_map ..
  refine FCp_of [ct_cwithin] Tryz.func182 rfl Tryz.ntmps182 (by simp) Tryz.results182 rfl ?_
  apply Rn_st; (intro K0; simp only [go_sem]; exact ⟨id⟩)
  refine goR (L := []) (n := 0) ?_
  (apply Rn_frzB 2; (exact rfl); (exact rfl); (exact rfl); (intro K0; (try simp only [go_sem]); exact ⟨id⟩))
  (any_goals refine go lv182 0 ?_)
  repeat' (first | (refine Br.go (fun h h' => ?_) (fun h h' => ?_)) | (refine Br.mk (fun h => ?_) (fun h => ?_)))
  all_goals (try simp only [go_sem])
theorem text'_c (xs ys zs : List (List RV)) (pa rg : Int) (ge : Bool) (us vs : List (List RV)) (n : Int) (h : ((xs = (fnsOf xs).map fnR ∧ ys = (valsOf ys).map valR ∧ zs = (strsOf zs).map strR) ∧ us = (intsOf us).map intR ∧ vs = (inssOf vs).map insR) ∧ Psz ⟨fnsOf xs, valsOf ys, strsOf zs⟩) : FC Cx 182 [.agg [.r (.rs 5 xs), .r (.rs 2 ys), .r (.rs 1 zs), Iv pa, Iv rg, Bv ge, .r (.rs 1 us), .r (.rs 5 vs)], Iv n] [] (Bv (wiF n 0 (((strsOf zs).length : Int) - 1))) [] := by
  have := text_c ⟨fnsOf xs, valsOf ys, strsOf zs⟩ ⟨pa, rg, ge, intsOf us, inssOf vs⟩ n h.2
  rwa [look_at h.1] at this
def sp_text' (args : List AV) (K : AV → Prop) : Prop := match args with
  | [.agg [.r (.rs 5 xs), .r (.rs 2 ys), .r (.rs 1 zs), .r (.v (.int .i64 pa)), .r (.v (.int .i64 rg)), .r (.v (.bool ge)), .r (.rs 1 us), .r (.rs 5 vs)], .r (.v (.int .i64 n))] => (((xs = (fnsOf xs).map fnR ∧ ys = (valsOf ys).map valR ∧ zs = (strsOf zs).map strR) ∧ us = (intsOf us).map intR ∧ vs = (inssOf vs).map insR) ∧ Psz ⟨fnsOf xs, valsOf ys, strsOf zs⟩) ∧ K (Bv (wiF n 0 (((strsOf zs).length : Int) - 1)))
  | _ => False
theorem sp_text'_ok (args : List AV) (K : AV → Prop) (h : sp_text' args K) : ∃ r, CallOk Cx 182 args r ∧ K r := by
  unfold sp_text' at h
  split at h
  · exact ⟨_, CallOk_of (text'_c _ _ _ _ _ _ _ _ _ h.1) en182 rfl rfl, h.2⟩
  · exact h.elim
noncomputable def ct_text' : Ct Cx := .pure 182 sp_text' sp_text'_ok
@[go_sem] theorem ct_text'_g : ct_text'.g = 182 := rfl
@[go_sem] theorem ct_text'_run (c : Call) (fop : Operand) (caps : List AV) (o : Oper) (st : St) (K : List Loc → List (Loc × Cont) → Prop) : ct_text'.run c fop caps o st K = callT Cx sp_text' c fop caps o st K := rfl
@[go_sem] theorem sp_text'_eq (args : List AV) (K : AV → Prop) : sp_text' args K = (match args with
    | [.agg [.r (.rs 5 xs), .r (.rs 2 ys), .r (.rs 1 zs), .r (.v (.int .i64 pa)), .r (.v (.int .i64 rg)), .r (.v (.bool ge)), .r (.rs 1 us), .r (.rs 5 vs)], .r (.v (.int .i64 n))] => (((xs = (fnsOf xs).map fnR ∧ ys = (valsOf ys).map valR ∧ zs = (strsOf zs).map strR) ∧ us = (intsOf us).map intR ∧ vs = (inssOf vs).map insR) ∧ Psz ⟨fnsOf xs, valsOf ys, strsOf zs⟩) ∧ K (Bv (wiF n 0 (((strsOf zs).length : Int) - 1)))
    | _ => False) := rfl
def namesF (p : ProgT) (f : FnT) (c n : Int) : Bool :=
  if c = 114 then wiF n 0 (f.regs - 1) else if c = 107 then wiF n 0 ((p.consts.length : Int) - 1) else if c = 116 then wiF n 0 ((p.texts.length : Int) - 1) else if c = 97 then wiF n 0 ((f.code.length : Int) - 1) else
  if c = 117 then wiF n 0 ((f.caught.length : Int) - 1) else if c = 102 then wiF n 1 ((p.fns.length : Int) - 1) else if c = 108 ∨ c = 99 ∨ c = 110 then wiF n 0 f.regs else decide (n = 0)
theorem names_c (p : ProgT) (f : FnT) (c n : Int) (hf : Fok f) (hp : Psz p) : FC Cx 157 [lookA p f, .r (.v (.int .u8 c)), Iv n] [] (Bv (namesF p f c n)) [] := by
  have hw1 : IntKind.i64.wrap ((p.consts.length : Int) - 1) = (p.consts.length : Int) - 1 := by have := hp.consts; rw [wrap_id] <;> omega
  have hw2 : IntKind.i64.wrap ((f.caught.length : Int) - 1) = (f.caught.length : Int) - 1 := by have := hf.caught; rw [wrap_id] <;> omega
  have hw3 : IntKind.i64.wrap ((p.fns.length : Int) - 1) = (p.fns.length : Int) - 1 := by have := hp.fns; rw [wrap_id] <;> omega
  have hl1 : (p.consts.map valR).length = p.consts.length := List.length_map ..
  have hl2 : (f.caught.map intR).length = f.caught.length := List.length_map ..
  have hl3 : (p.fns.map fnR).length = p.fns.length := List.length_map ..
  refine FCp_of [ct_cwithin, ct_reg', ct_at', ct_text'] Tryz.func157 rfl Tryz.ntmps157 (by simp) Tryz.results157 rfl ?_
  apply Rn_st; (intro K0; simp only [go_sem]; exact ⟨id⟩)
  refine goR (L := []) (n := 0) ?_
  (apply Rn_frzB 3; (exact rfl); (exact rfl); (exact rfl); (intro K0; (try simp only [go_sem]); exact ⟨id⟩))
  (any_goals refine go lv157 0 ?_)
  repeat' (first | (refine Br.go (fun h h' => ?_) (fun h h' => ?_)) | (refine Br.mk (fun h => ?_) (fun h => ?_)))
  all_goals (try simp only [go_sem])
  all_goals (simp_all [namesF])
theorem names'_c (xs ys zs : List (List RV)) (pa rg : Int) (ge : Bool) (us vs : List (List RV)) (c n : Int) (h : ((xs = (fnsOf xs).map fnR ∧ ys = (valsOf ys).map valR ∧ zs = (strsOf zs).map strR) ∧ us = (intsOf us).map intR ∧ vs = (inssOf vs).map insR) ∧ Fok ⟨pa, rg, ge, intsOf us, inssOf vs⟩ ∧ Psz ⟨fnsOf xs, valsOf ys, strsOf zs⟩) : FC Cx 157 [.agg [.r (.rs 5 xs), .r (.rs 2 ys), .r (.rs 1 zs), Iv pa, Iv rg, Bv ge, .r (.rs 1 us), .r (.rs 5 vs)], .r (.v (.int .u8 c)), Iv n] [] (Bv (namesF ⟨fnsOf xs, valsOf ys, strsOf zs⟩ ⟨pa, rg, ge, intsOf us, inssOf vs⟩ c n)) [] := by
  have := names_c ⟨fnsOf xs, valsOf ys, strsOf zs⟩ ⟨pa, rg, ge, intsOf us, inssOf vs⟩ c n h.2.1 h.2.2
  rwa [look_at h.1] at this
def sp_names' (args : List AV) (K : AV → Prop) : Prop := match args with
  | [.agg [.r (.rs 5 xs), .r (.rs 2 ys), .r (.rs 1 zs), .r (.v (.int .i64 pa)), .r (.v (.int .i64 rg)), .r (.v (.bool ge)), .r (.rs 1 us), .r (.rs 5 vs)], .r (.v (.int .u8 c)), .r (.v (.int .i64 n))] => (((xs = (fnsOf xs).map fnR ∧ ys = (valsOf ys).map valR ∧ zs = (strsOf zs).map strR) ∧ us = (intsOf us).map intR ∧ vs = (inssOf vs).map insR) ∧ Fok ⟨pa, rg, ge, intsOf us, inssOf vs⟩ ∧ Psz ⟨fnsOf xs, valsOf ys, strsOf zs⟩) ∧ K (Bv (namesF ⟨fnsOf xs, valsOf ys, strsOf zs⟩ ⟨pa, rg, ge, intsOf us, inssOf vs⟩ c n))
  | _ => False
theorem sp_names'_ok (args : List AV) (K : AV → Prop) (h : sp_names' args K) : ∃ r, CallOk Cx 157 args r ∧ K r := by
  unfold sp_names' at h
  split at h
  · exact ⟨_, CallOk_of (names'_c _ _ _ _ _ _ _ _ _ _ h.1) en157 rfl rfl, h.2⟩
  · exact h.elim
noncomputable def ct_names' : Ct Cx := .pure 157 sp_names' sp_names'_ok
@[go_sem] theorem ct_names'_g : ct_names'.g = 157 := rfl
@[go_sem] theorem ct_names'_run (c : Call) (fop : Operand) (caps : List AV) (o : Oper) (st : St) (K : List Loc → List (Loc × Cont) → Prop) : ct_names'.run c fop caps o st K = callT Cx sp_names' c fop caps o st K := rfl
@[go_sem] theorem sp_names'_eq (args : List AV) (K : AV → Prop) : sp_names' args K = (match args with
    | [.agg [.r (.rs 5 xs), .r (.rs 2 ys), .r (.rs 1 zs), .r (.v (.int .i64 pa)), .r (.v (.int .i64 rg)), .r (.v (.bool ge)), .r (.rs 1 us), .r (.rs 5 vs)], .r (.v (.int .u8 c)), .r (.v (.int .i64 n))] => (((xs = (fnsOf xs).map fnR ∧ ys = (valsOf ys).map valR ∧ zs = (strsOf zs).map strR) ∧ us = (intsOf us).map intR ∧ vs = (inssOf vs).map insR) ∧ Fok ⟨pa, rg, ge, intsOf us, inssOf vs⟩ ∧ Psz ⟨fnsOf xs, valsOf ys, strsOf zs⟩) ∧ K (Bv (namesF ⟨fnsOf xs, valsOf ys, strsOf zs⟩ ⟨pa, rg, ge, intsOf us, inssOf vs⟩ c n))
    | _ => False) := rfl
end Go.Proofs.YtbhnmolmkembdaaGreatDoor
namespace Go.Proofs.YtbhnmolmkembdaaGreatDoor
set_option linter.unusedVariables false
set_option linter.unusedSimpArgs false
set_option maxHeartbeats 10000000
open Go
set_option maxRecDepth 10000
def formsT : List ByteArray := [⟨#[]⟩, ⟨#[114, 107, 45]⟩, ⟨#[114, 114, 45]⟩, ⟨#[114, 114, 114]⟩, ⟨#[114, 114, 114]⟩, ⟨#[114, 114, 114]⟩, ⟨#[114, 114, 114]⟩, ⟨#[114, 114, 114]⟩, ⟨#[114, 114, 114]⟩, ⟨#[114, 114, 114]⟩, ⟨#[114, 114, 114]⟩, ⟨#[114, 114, 45]⟩, ⟨#[114, 114, 45]⟩, ⟨#[97, 45, 45]⟩, ⟨#[97, 45, 45]⟩, ⟨#[114, 97, 45]⟩, ⟨#[114, 45, 45]⟩, ⟨#[114, 114, 116]⟩, ⟨#[114, 116, 114]⟩, ⟨#[114, 108, 110]⟩, ⟨#[114, 114, 114]⟩, ⟨#[114, 114, 114]⟩, ⟨#[114, 45, 45]⟩, ⟨#[114, 114, 45]⟩, ⟨#[114, 114, 45]⟩, ⟨#[114, 117, 45]⟩, ⟨#[114, 102, 45]⟩, ⟨#[114, 99, 110]⟩, ⟨#[114, 45, 45]⟩, ⟨#[114, 45, 45]⟩, ⟨#[114, 97, 45]⟩, ⟨#[45, 45, 45]⟩, ⟨#[114, 114, 45]⟩, ⟨#[114, 45, 45]⟩, ⟨#[114, 45, 45]⟩, ⟨#[114, 114, 45]⟩, ⟨#[114, 114, 45]⟩, ⟨#[114, 45, 45]⟩, ⟨#[114, 45, 45]⟩]
def formF (op : Int) : ByteArray := if op < 1 ∨ 39 ≤ op then ⟨#[]⟩ else formsT.getD op.toNat ⟨#[]⟩
theorem ors {op : Int} (h : ¬ (op < 1 ∨ 39 ≤ op)) : op = 1 ∨ op = 2 ∨ op = 3 ∨ op = 4 ∨ op = 5 ∨ op = 6 ∨ op = 7 ∨ op = 8 ∨ op = 9 ∨ op = 10 ∨ op = 11 ∨ op = 12 ∨ op = 13 ∨ op = 14 ∨ op = 15 ∨ op = 16 ∨ op = 17 ∨ op = 18 ∨ op = 19 ∨ op = 20 ∨ op = 21 ∨ op = 22 ∨ op = 23 ∨ op = 24 ∨ op = 25 ∨ op = 26 ∨ op = 27 ∨ op = 28 ∨ op = 29 ∨ op = 30 ∨ op = 31 ∨ op = 32 ∨ op = 33 ∨ op = 34 ∨ op = 35 ∨ op = 36 ∨ op = 37 ∨ op = 38 := by omega
theorem formF_size {op : Int} (h : ¬ (op < 1 ∨ 39 ≤ op)) : (formF op).size = 3 := by
  rcases ors h with rfl | rfl | rfl | rfl | rfl | rfl | rfl | rfl | rfl | rfl | rfl | rfl | rfl | rfl | rfl | rfl | rfl | rfl | rfl | rfl | rfl | rfl | rfl | rfl | rfl | rfl | rfl | rfl | rfl | rfl | rfl | rfl | rfl | rfl | rfl | rfl | rfl | rfl <;> rfl
theorem form_c (op : Int) : FC Cx 155 [Iv op] [] (Sv (formF op)) [] := by
  have hd : ∀ (h : ¬ (op < 1 ∨ 39 ≤ op)), List.drop op.toNat (formsT.map fun s => RV.v (.string s)) = .v (.string (formF op)) :: List.drop (op.toNat + 1) (formsT.map fun s => RV.v (.string s)) := fun h => by
    rcases ors h with rfl | rfl | rfl | rfl | rfl | rfl | rfl | rfl | rfl | rfl | rfl | rfl | rfl | rfl | rfl | rfl | rfl | rfl | rfl | rfl | rfl | rfl | rfl | rfl | rfl | rfl | rfl | rfl | rfl | rfl | rfl | rfl | rfl | rfl | rfl | rfl | rfl | rfl <;> rfl
  simp only [formsT, List.map_cons, List.map_nil] at hd
  refine FCp_of [] Tryz.func155 rfl Tryz.ntmps155 (by simp) Tryz.results155 rfl ?_
  apply Rn_st; (intro K0; simp only [go_sem]; exact ⟨id⟩)
  (any_goals refine go (dropL 2 lv155) 0 ?_)
  repeat' (first | (refine Br.go (fun h h' => ?_) (fun h h' => ?_)) | (refine Br.mk (fun h => ?_) (fun h => ?_)))
  (apply Rn_frzB 3; (exact rfl); (exact rfl); (exact rfl); (intro K0; (try simp only [go_sem]); exact ⟨id⟩))
  by_cases hop : op < 1 ∨ 39 ≤ op
  · clear hd
    have h1 : (decide (op < 1) || decide (39 ≤ op)) = true := by simpa using hop
    have e : formF op = ⟨#[]⟩ := if_pos hop
    (any_goals refine go lv155 0 ?_)
    repeat' (first | (refine Br.go (fun h h' => ?_) (fun h h' => ?_)) | (refine Br.mk (fun h => ?_) (fun h => ?_)))
    all_goals (try simp only [go_sem])
    all_goals (rw [e])
  · have h1 : (decide (op < 1) || decide (39 ≤ op)) = false := by rw [Bool.eq_false_iff]; simpa using hop
    replace hd := hd hop
    have b1 : 0 ≤ op := by omega
    have b2 : op < 39 := by omega
    have b3 : op.toNat < 39 := by omega
    have b4 : op.toNat * 1 = op.toNat := Nat.mul_one _
    (any_goals refine go lv155 0 ?_)
    repeat' (first | (refine Br.go (fun h h' => ?_) (fun h h' => ?_)) | (refine Br.mk (fun h => ?_) (fun h => ?_)))
    all_goals (try simp only [go_sem])
def sp_form (args : List AV) (K : AV → Prop) : Prop := match args with
  | [.r (.v (.int .i64 op))] => K (Sv (formF op))
  | _ => False
theorem sp_form_ok (args : List AV) (K : AV → Prop) (h : sp_form args K) : ∃ r, CallOk Cx 155 args r ∧ K r := by
  unfold sp_form at h
  split at h
  · exact ⟨_, CallOk_of (form_c _) en155 rfl rfl, h⟩
  · exact h.elim
noncomputable def ct_form : Ct Cx := .pure 155 sp_form sp_form_ok
@[go_sem] theorem ct_form_g : ct_form.g = 155 := rfl
@[go_sem] theorem ct_form_run (c : Call) (fop : Operand) (caps : List AV) (o : Oper) (st : St) (K : List Loc → List (Loc × Cont) → Prop) : ct_form.run c fop caps o st K = callT Cx sp_form c fop caps o st K := rfl
@[go_sem] theorem sp_form_eq (args : List AV) (K : AV → Prop) : sp_form args K = (match args with
    | [.r (.v (.int .i64 op))] => K (Sv (formF op))
    | _ => False) := rfl
end Go.Proofs.YtbhnmolmkembdaaGreatDoor
namespace Go.Proofs.YtbhnmolmkembdaaGreatDoor
set_option linter.unusedVariables false
set_option linter.unusedSimpArgs false
set_option maxHeartbeats 10000000
open Go
set_option maxRecDepth 10000
abbrev lookR' (p : ProgT) (f : FnT) : List RV := [.rs 5 (p.fns.map fnR), .rs 2 (p.consts.map valR), .rs 1 (p.texts.map strR), .v (.int .i64 f.params), .v (.int .i64 f.regs), .v (.bool f.gen), .rs 1 (f.caught.map intR), .rs 5 (f.code.map insR)]
theorem idxfInt_c (l : List Int) (f : Nat) (caps : List RV) (dom : AV → Prop) (pv : AV → Bool) (h : ∀ y, dom y → CallOk Cx f (y :: caps.map AV.r) (Bv (pv y))) (hd : ∀ x ∈ l, dom (intA x)) (hl : l.length ≤ 9223372036854775807) :
    FC Cx 191 [intsV l, .r (.fn f caps)] [] (Iv (fidx (fun x => pv (intA x)) l)) [] := by
  have hlen : (l.map intR).length = l.length := List.length_map ..
  refine FCp_of [ctF f caps dom pv h] Tryz.func191 rfl Tryz.ntmps191 (by simp) Tryz.results191 rfl ?_
  apply Rn_st; (intro K0; simp only [go_sem]; exact ⟨id⟩)
  (any_goals refine go lv191 0 ?_)
  repeat' (first | (refine Br.go (fun h h' => ?_) (fun h h' => ?_)) | (refine Br.mk (fun h => ?_) (fun h => ?_)))
  refine Rn_loopT [0, 1, 7, 8] (fun i => i ≤ l.length ∧ ∀ j x, j < i → l[j]? = some x → pv (intA x) = false) (fun (i : Nat) => ⟨19, [(0, intsV l), (1, .r (.fn f caps)), (7, Iv l.length), (8, Iv i)], []⟩) (fun i => l.length - i) 0 rfl (by rw [← hlen]; rfl) rfl ⟨Nat.zero_le _, fun j x hj => by omega⟩ ?_
  rintro i ⟨hi, hno⟩
  by_cases hlt : i < l.length
  · obtain ⟨x, hx⟩ : ∃ x, l[i]? = some x := ⟨l[i], List.getElem?_eq_getElem hlt⟩
    have hg := getD_map intR hx ([] : List RV)
    have hdx := hd x (List.mem_of_getElem? hx)
    have hw : IntKind.i64.wrap ((i : Int) + 1) = ((i + 1 : Nat) : Int) := by rw [wrap_id] <;> omega
    have h1 : decide ((i : Int) < (l.length : Int)) = true := by rw [decide_eq_true_eq]; omega
    have h2 : Int.toNat (i : Int) = i := by omega
    cases hp : pv (intA x) with
    | true =>
      (any_goals refine go lv191 0 ?_)
      repeat' (first | (refine Br.go (fun h h' => ?_) (fun h h' => ?_)) | (refine Br.mk (fun h => ?_) (fun h => ?_)))
      all_goals (try simp only [go_sem])
      rw [fidx_hit hx hp fun j y hj hy => hno j y hj hy]
    | false =>
      (any_goals refine go lv191 0 ?_)
      repeat' (first | (refine Br.go (fun h h' => ?_) (fun h h' => ?_)) | (refine Br.mk (fun h => ?_) (fun h => ?_)))
      all_goals (try simp only [go_sem])
      refine ⟨i + 1, ⟨by omega, fun j y hj hy => ?_⟩, by omega, Le_keep [0, 1, 7, 8] rfl rfl rfl⟩
      rcases Nat.lt_succ_iff_lt_or_eq.1 hj with h3 | h3
      · exact hno j y h3 hy
      · subst h3; rw [hx] at hy; cases hy; exact hp
  · have h1 : decide ((i : Int) < (l.length : Int)) = false := by rw [decide_eq_false_iff_not]; omega
    (any_goals refine go lv191 0 ?_)
    repeat' (first | (refine Br.go (fun h h' => ?_) (fun h h' => ?_)) | (refine Br.mk (fun h => ?_) (fun h => ?_)))
    all_goals (try simp only [go_sem])
    rw [fidx_none fun j y hy => hno j y (by have := (List.getElem?_eq_some_iff.1 hy).1; omega) hy]
theorem anyInt_c (l : List Int) (f : Nat) (caps : List RV) (dom : AV → Prop) (pv : AV → Bool) (h : ∀ y, dom y → CallOk Cx f (y :: caps.map AV.r) (Bv (pv y))) (hd : ∀ x ∈ l, dom (intA x)) (hl : l.length ≤ 9223372036854775807) :
    FC Cx 184 [intsV l, .r (.fn f caps)] [] (Bv (l.any fun x => pv (intA x))) [] := by
  have hA : ∀ y, y = [intsV l, .r (.fn f caps)] → CallOk Cx 191 y (Iv (fidx (fun x => pv (intA x)) l)) := fun y hy => by
    subst hy; exact CallOk_of (idxfInt_c l f caps dom pv h hd hl) en191 rfl rfl
  refine FCp_of [ctE 191 [intsV l, .r (.fn f caps)] (Iv (fidx (fun x => pv (intA x)) l)) hA] Tryz.func184 rfl Tryz.ntmps184 (by simp) Tryz.results184 rfl ?_
  apply Rn_st; (intro K0; simp only [go_sem]; exact ⟨id⟩)
  (any_goals refine go lv184 0 ?_)
  repeat' (first | (refine Br.go (fun h h' => ?_) (fun h h' => ?_)) | (refine Br.mk (fun h => ?_) (fun h => ?_)))
  all_goals (try simp only [go_sem])
  all_goals (try rw [fidx_any])
def cauF (f : FnT) (c : Int) : Bool := !wiF c 0 (f.regs - 1) && !wiF c (-(f.caught.length : Int)) (-1)
theorem cau_c (p : ProgT) (f : FnT) (c : Int) (h : Fok f) : FC Cx 185 [Iv c, .r (.rp (lookR' p f))] [] (Bv (cauF f c)) [] := by
  have hl : (f.caught.map intR).length = f.caught.length := List.length_map ..
  have hw : IntKind.i64.wrap (0 - (f.caught.length : Int)) = -(f.caught.length : Int) := by have := h.caught; rw [wrap_id] <;> omega
  have hw' : IntKind.i64.wrap (-(f.caught.length : Int)) = -(f.caught.length : Int) := by have := h.caught; rw [wrap_id] <;> omega
  refine FCp_of [ct_cwithin, ct_reg'] Tryz.func185 rfl Tryz.ntmps185 (by simp) Tryz.results185 rfl ?_
  apply Rn_st; (intro K0; simp only [go_sem]; exact ⟨id⟩)
  (any_goals refine go lv185 0 ?_)
  repeat' (first | (refine Br.go (fun h h' => ?_) (fun h h' => ?_)) | (refine Br.mk (fun h => ?_) (fun h => ?_)))
  all_goals (try simp only [go_sem])
  all_goals (first | rfl | (simp_all [cauF]; done) | trace_state)
def numV : AV → Int
  | .r (.v (.int _ n)) => n
  | _ => 0
def caughtF (f g : FnT) : Bool := !(g.caught.any (cauF f))
theorem caught_c (p : ProgT) (f g : FnT) (h : Fok f) (hg : g.caught.length ≤ 9223372036854775807) : FC Cx 159 [lookA p f, fnA g] [] (Bv (caughtF f g)) [] := by
  have hA : ∀ y, y = [intsV g.caught, .r (.fn 185 [.rp (lookR' p f)])] → CallOk Cx 184 y (Bv (g.caught.any (cauF f))) := fun y hy => by
    subst hy
    refine CallOk_of (anyInt_c g.caught _ [.rp (lookR' p f)] (fun y => ∃ c, y = intA c) (fun y => cauF f (numV y)) ?_ (fun x _ => ⟨x, rfl⟩) hg) en184 rfl rfl
    rintro _ ⟨c, rfl⟩
    exact CallOk_of (cau_c p f c h) en185 rfl rfl
  refine FCp_of [ctE 184 [intsV g.caught, .r (.fn 185 [.rp (lookR' p f)])] (Bv (g.caught.any (cauF f))) hA] Tryz.func159 rfl Tryz.ntmps159 (by simp) Tryz.results159 rfl ?_
  apply Rn_st; (intro K0; simp only [go_sem]; exact ⟨id⟩)
  refine goR (L := []) (n := 0) ?_
  (apply Rn_frzB 2; (exact rfl); (exact rfl); (exact rfl); (intro K0; (try simp only [go_sem]); exact ⟨id⟩))
  (apply Rn_frzB 3; (exact rfl); (exact rfl); (exact rfl); (intro K0; (try simp only [go_sem]); exact ⟨id⟩))
  (any_goals refine go lv159 0 ?_)
  repeat' (first | (refine Br.go (fun h h' => ?_) (fun h h' => ?_)) | (refine Br.mk (fun h => ?_) (fun h => ?_)))
  all_goals (try simp only [go_sem])
  all_goals (first | rfl | trace_state)
theorem caught'_c (xs ys zs : List (List RV)) (pa rg : Int) (ge : Bool) (us vs : List (List RV)) (pa' rg' : Int) (ge' : Bool) (us' vs' : List (List RV)) (h : ((xs = (fnsOf xs).map fnR ∧ ys = (valsOf ys).map valR ∧ zs = (strsOf zs).map strR) ∧ us = (intsOf us).map intR ∧ vs = (inssOf vs).map insR) ∧ (us' = (intsOf us').map intR ∧ vs' = (inssOf vs').map insR) ∧ Fok ⟨pa, rg, ge, intsOf us, inssOf vs⟩ ∧ us'.length ≤ 9223372036854775807) : FC Cx 159 [.agg [.r (.rs 5 xs), .r (.rs 2 ys), .r (.rs 1 zs), Iv pa, Iv rg, Bv ge, .r (.rs 1 us), .r (.rs 5 vs)], .agg [Iv pa', Iv rg', Bv ge', .r (.rs 1 us'), .r (.rs 5 vs')]] [] (Bv (caughtF ⟨pa, rg, ge, intsOf us, inssOf vs⟩ ⟨pa', rg', ge', intsOf us', inssOf vs'⟩)) [] := by
  have := caught_c ⟨fnsOf xs, valsOf ys, strsOf zs⟩ ⟨pa, rg, ge, intsOf us, inssOf vs⟩ ⟨pa', rg', ge', intsOf us', inssOf vs'⟩ h.2.2.1 (by simpa [intsOf] using h.2.2.2)
  rwa [look_at h.1, fn_at h.2.1] at this
end Go.Proofs.YtbhnmolmkembdaaGreatDoor
namespace Go.Proofs.YtbhnmolmkembdaaGreatDoor
set_option linter.unusedVariables false
set_option linter.unusedSimpArgs false
set_option maxHeartbeats 10000000
open Go
set_option maxRecDepth 10000
def fB (op : Int) (j : Nat) : Int := ((formF op).data.toList.getD j 0).toNat
def orderN (p : ProgT) (f : FnT) (i : InsT) : Bool := wiF i.line 0 2000 && namesF p f (fB i.op 0) i.a && namesF p f (fB i.op 1) i.b && namesF p f (fB i.op 2) i.c
def fn0 : FnT := ⟨0, 0, false, [], []⟩
def orderF (p : ProgT) (f : FnT) (at' : Int) (i : InsT) : Bool :=
  if i.op < 1 ∨ 39 ≤ i.op then false else if orderN p f i = false then false else if i.op = 14 then decide (i.a ≤ at') else if i.op = 19 then decide (i.b + i.c ≤ f.regs) else
  if i.op = 27 then wiF (i.b + i.c) 0 (f.regs - 1) else if i.op = 26 then caughtF f (p.fns.getD i.b.toNat fn0) else if i.op = 32 then f.gen else true
theorem wiF_iff {n lo hi : Int} : wiF n lo hi = true ↔ lo ≤ n ∧ n ≤ hi := by simp [wiF]
theorem ord0_c (p : ProgT) (f : FnT) (n op a b c line : Int) (hf : Fok f) (hp : Psz p) (hE : decide (formF op = ⟨#[]⟩) = true) : FC Cx 106 [lookA p f, Iv n, insA ⟨op, a, b, c, line⟩] [] (Bv false) [] := by
  refine FCp_of [ct_cwithin, ct_form, ct_names', ct_reg'] Tryz.func106 rfl Tryz.ntmps106 (by simp) Tryz.results106 rfl ?_
  apply Rn_st; (intro K0; simp only [go_sem]; exact ⟨id⟩)
  refine goR (L := []) (n := 0) ?_
  (apply Rn_frzB 3; (exact rfl); (exact rfl); (exact rfl); (intro K0; (try simp only [go_sem]); exact ⟨id⟩))
  (apply Rn_frzB 5; (exact rfl); (exact rfl); (exact rfl); (intro K0; (try simp only [go_sem]); exact ⟨id⟩))
  (any_goals refine go lv106 0 ?_)
  repeat' (first | (refine Br.go (fun h h' => ?_) (fun h h' => ?_)) | (refine Br.mk (fun h => ?_) (fun h => ?_)))
  all_goals (try simp only [go_sem])
  all_goals (first | rfl | (simp_all; done) | trace_state)
theorem ordN0_c (p : ProgT) (f : FnT) (n op a b c line : Int) (hf : Fok f) (hp : Psz p) (hE : decide (formF op = ⟨#[]⟩) = false) (hs : (formF op).size = 3) (e0 : wiF line 0 2000 = false) : FC Cx 106 [lookA p f, Iv n, insA ⟨op, a, b, c, line⟩] [] (Bv false) [] := by
  have s0 : (0 : Int) < ((formF op).size : Int) := by rw [hs]; omega
  have s1 : (1 : Int) < ((formF op).size : Int) := by rw [hs]; omega
  have s2 : (2 : Int) < ((formF op).size : Int) := by rw [hs]; omega
  refine FCp_of [ct_cwithin, ct_form, ct_names', ct_reg'] Tryz.func106 rfl Tryz.ntmps106 (by simp) Tryz.results106 rfl ?_
  apply Rn_st; (intro K0; simp only [go_sem]; exact ⟨id⟩)
  refine goR (L := []) (n := 0) ?_
  (apply Rn_frzB 3; (exact rfl); (exact rfl); (exact rfl); (intro K0; (try simp only [go_sem]); exact ⟨id⟩))
  (apply Rn_frzB 5; (exact rfl); (exact rfl); (exact rfl); (intro K0; (try simp only [go_sem]); exact ⟨id⟩))
  (any_goals refine go lv106 0 ?_)
  repeat' (first | (refine Br.go (fun h h' => ?_) (fun h h' => ?_)) | (refine Br.mk (fun h => ?_) (fun h => ?_)))
  all_goals (try simp only [go_sem])
  all_goals (first | rfl | (simp_all; done) | trace_state)
theorem ordN1_c (p : ProgT) (f : FnT) (n op a b c line : Int) (hf : Fok f) (hp : Psz p) (hE : decide (formF op = ⟨#[]⟩) = false) (hs : (formF op).size = 3) (e0 : wiF line 0 2000 = true) (e1 : namesF p f ((formF op).data.toList.getD 0 0).toNat a = false) : FC Cx 106 [lookA p f, Iv n, insA ⟨op, a, b, c, line⟩] [] (Bv false) [] := by
  have s0 : (0 : Int) < ((formF op).size : Int) := by rw [hs]; omega
  have s1 : (1 : Int) < ((formF op).size : Int) := by rw [hs]; omega
  have s2 : (2 : Int) < ((formF op).size : Int) := by rw [hs]; omega
  refine FCp_of [ct_cwithin, ct_form, ct_names', ct_reg'] Tryz.func106 rfl Tryz.ntmps106 (by simp) Tryz.results106 rfl ?_
  apply Rn_st; (intro K0; simp only [go_sem]; exact ⟨id⟩)
  refine goR (L := []) (n := 0) ?_
  (apply Rn_frzB 3; (exact rfl); (exact rfl); (exact rfl); (intro K0; (try simp only [go_sem]); exact ⟨id⟩))
  (apply Rn_frzB 5; (exact rfl); (exact rfl); (exact rfl); (intro K0; (try simp only [go_sem]); exact ⟨id⟩))
  (any_goals refine go lv106 0 ?_)
  repeat' (first | (refine Br.go (fun h h' => ?_) (fun h h' => ?_)) | (refine Br.mk (fun h => ?_) (fun h => ?_)))
  all_goals (try simp only [go_sem])
  all_goals (first | rfl | (simp_all; done) | trace_state)
theorem ordN2_c (p : ProgT) (f : FnT) (n op a b c line : Int) (hf : Fok f) (hp : Psz p) (hE : decide (formF op = ⟨#[]⟩) = false) (hs : (formF op).size = 3) (e0 : wiF line 0 2000 = true) (e1 : namesF p f ((formF op).data.toList.getD 0 0).toNat a = true) (e2 : namesF p f ((formF op).data.toList.getD 1 0).toNat b = false) : FC Cx 106 [lookA p f, Iv n, insA ⟨op, a, b, c, line⟩] [] (Bv false) [] := by
  have s0 : (0 : Int) < ((formF op).size : Int) := by rw [hs]; omega
  have s1 : (1 : Int) < ((formF op).size : Int) := by rw [hs]; omega
  have s2 : (2 : Int) < ((formF op).size : Int) := by rw [hs]; omega
  refine FCp_of [ct_cwithin, ct_form, ct_names', ct_reg'] Tryz.func106 rfl Tryz.ntmps106 (by simp) Tryz.results106 rfl ?_
  apply Rn_st; (intro K0; simp only [go_sem]; exact ⟨id⟩)
  refine goR (L := []) (n := 0) ?_
  (apply Rn_frzB 3; (exact rfl); (exact rfl); (exact rfl); (intro K0; (try simp only [go_sem]); exact ⟨id⟩))
  (apply Rn_frzB 5; (exact rfl); (exact rfl); (exact rfl); (intro K0; (try simp only [go_sem]); exact ⟨id⟩))
  (any_goals refine go lv106 0 ?_)
  repeat' (first | (refine Br.go (fun h h' => ?_) (fun h h' => ?_)) | (refine Br.mk (fun h => ?_) (fun h => ?_)))
  all_goals (try simp only [go_sem])
  all_goals (first | rfl | (simp_all; done) | trace_state)
theorem ordN3_c (p : ProgT) (f : FnT) (n op a b c line : Int) (hf : Fok f) (hp : Psz p) (hE : decide (formF op = ⟨#[]⟩) = false) (hs : (formF op).size = 3) (e0 : wiF line 0 2000 = true) (e1 : namesF p f ((formF op).data.toList.getD 0 0).toNat a = true) (e2 : namesF p f ((formF op).data.toList.getD 1 0).toNat b = true) (e3 : namesF p f ((formF op).data.toList.getD 2 0).toNat c = false) : FC Cx 106 [lookA p f, Iv n, insA ⟨op, a, b, c, line⟩] [] (Bv false) [] := by
  have s0 : (0 : Int) < ((formF op).size : Int) := by rw [hs]; omega
  have s1 : (1 : Int) < ((formF op).size : Int) := by rw [hs]; omega
  have s2 : (2 : Int) < ((formF op).size : Int) := by rw [hs]; omega
  refine FCp_of [ct_cwithin, ct_form, ct_names', ct_reg'] Tryz.func106 rfl Tryz.ntmps106 (by simp) Tryz.results106 rfl ?_
  apply Rn_st; (intro K0; simp only [go_sem]; exact ⟨id⟩)
  refine goR (L := []) (n := 0) ?_
  (apply Rn_frzB 3; (exact rfl); (exact rfl); (exact rfl); (intro K0; (try simp only [go_sem]); exact ⟨id⟩))
  (apply Rn_frzB 5; (exact rfl); (exact rfl); (exact rfl); (intro K0; (try simp only [go_sem]); exact ⟨id⟩))
  (any_goals refine go lv106 0 ?_)
  repeat' (first | (refine Br.go (fun h h' => ?_) (fun h h' => ?_)) | (refine Br.mk (fun h => ?_) (fun h => ?_)))
  all_goals (try simp only [go_sem])
  all_goals (first | rfl | (simp_all; done) | trace_state)
theorem ord14_c (p : ProgT) (f : FnT) (n a b c line : Int) (hf : Fok f) (hp : Psz p) (hE : decide (formF 14 = ⟨#[]⟩) = false) (hs : (formF 14).size = 3) (e0 : wiF line 0 2000 = true) (e1 : namesF p f ((formF 14).data.toList.getD 0 0).toNat a = true) (e2 : namesF p f ((formF 14).data.toList.getD 1 0).toNat b = true) (e3 : namesF p f ((formF 14).data.toList.getD 2 0).toNat c = true) : FC Cx 106 [lookA p f, Iv n, insA ⟨14, a, b, c, line⟩] [] (Bv (decide (a ≤ n))) [] := by
  have s0 : (0 : Int) < ((formF 14).size : Int) := by rw [hs]; omega
  have s1 : (1 : Int) < ((formF 14).size : Int) := by rw [hs]; omega
  have s2 : (2 : Int) < ((formF 14).size : Int) := by rw [hs]; omega
  refine FCp_of [ct_cwithin, ct_form, ct_names', ct_reg'] Tryz.func106 rfl Tryz.ntmps106 (by simp) Tryz.results106 rfl ?_
  apply Rn_st; (intro K0; simp only [go_sem]; exact ⟨id⟩)
  refine goR (L := []) (n := 0) ?_
  (apply Rn_frzB 3; (exact rfl); (exact rfl); (exact rfl); (intro K0; (try simp only [go_sem]); exact ⟨id⟩))
  (apply Rn_frzB 5; (exact rfl); (exact rfl); (exact rfl); (intro K0; (try simp only [go_sem]); exact ⟨id⟩))
  (any_goals refine go lv106 0 ?_)
  repeat' (first | (refine Br.go (fun h h' => ?_) (fun h h' => ?_)) | (refine Br.mk (fun h => ?_) (fun h => ?_)))
  all_goals (try simp only [go_sem])
  all_goals (first | rfl | (simp_all; done) | trace_state)
theorem ord19_c (p : ProgT) (f : FnT) (n a b c line : Int) (hf : Fok f) (hp : Psz p) (hE : decide (formF 19 = ⟨#[]⟩) = false) (hs : (formF 19).size = 3) (e0 : wiF line 0 2000 = true) (e1 : namesF p f ((formF 19).data.toList.getD 0 0).toNat a = true) (e2 : namesF p f ((formF 19).data.toList.getD 1 0).toNat b = true) (e3 : namesF p f ((formF 19).data.toList.getD 2 0).toNat c = true) (hw : IntKind.i64.wrap (b + c) = b + c) : FC Cx 106 [lookA p f, Iv n, insA ⟨19, a, b, c, line⟩] [] (Bv (decide (b + c ≤ f.regs))) [] := by
  have s0 : (0 : Int) < ((formF 19).size : Int) := by rw [hs]; omega
  have s1 : (1 : Int) < ((formF 19).size : Int) := by rw [hs]; omega
  have s2 : (2 : Int) < ((formF 19).size : Int) := by rw [hs]; omega
  refine FCp_of [ct_cwithin, ct_form, ct_names', ct_reg'] Tryz.func106 rfl Tryz.ntmps106 (by simp) Tryz.results106 rfl ?_
  apply Rn_st; (intro K0; simp only [go_sem]; exact ⟨id⟩)
  refine goR (L := []) (n := 0) ?_
  (apply Rn_frzB 3; (exact rfl); (exact rfl); (exact rfl); (intro K0; (try simp only [go_sem]); exact ⟨id⟩))
  (apply Rn_frzB 5; (exact rfl); (exact rfl); (exact rfl); (intro K0; (try simp only [go_sem]); exact ⟨id⟩))
  (any_goals refine go lv106 0 ?_)
  repeat' (first | (refine Br.go (fun h h' => ?_) (fun h h' => ?_)) | (refine Br.mk (fun h => ?_) (fun h => ?_)))
  all_goals (try simp only [go_sem])
  all_goals (first | rfl | (simp_all; done) | trace_state)
theorem ord27_c (p : ProgT) (f : FnT) (n a b c line : Int) (hf : Fok f) (hp : Psz p) (hE : decide (formF 27 = ⟨#[]⟩) = false) (hs : (formF 27).size = 3) (e0 : wiF line 0 2000 = true) (e1 : namesF p f ((formF 27).data.toList.getD 0 0).toNat a = true) (e2 : namesF p f ((formF 27).data.toList.getD 1 0).toNat b = true) (e3 : namesF p f ((formF 27).data.toList.getD 2 0).toNat c = true) (hw : IntKind.i64.wrap (b + c) = b + c) : FC Cx 106 [lookA p f, Iv n, insA ⟨27, a, b, c, line⟩] [] (Bv (wiF (b + c) 0 (f.regs - 1))) [] := by
  have s0 : (0 : Int) < ((formF 27).size : Int) := by rw [hs]; omega
  have s1 : (1 : Int) < ((formF 27).size : Int) := by rw [hs]; omega
  have s2 : (2 : Int) < ((formF 27).size : Int) := by rw [hs]; omega
  refine FCp_of [ct_cwithin, ct_form, ct_names', ct_reg'] Tryz.func106 rfl Tryz.ntmps106 (by simp) Tryz.results106 rfl ?_
  apply Rn_st; (intro K0; simp only [go_sem]; exact ⟨id⟩)
  refine goR (L := []) (n := 0) ?_
  (apply Rn_frzB 3; (exact rfl); (exact rfl); (exact rfl); (intro K0; (try simp only [go_sem]); exact ⟨id⟩))
  (apply Rn_frzB 5; (exact rfl); (exact rfl); (exact rfl); (intro K0; (try simp only [go_sem]); exact ⟨id⟩))
  (any_goals refine go lv106 0 ?_)
  repeat' (first | (refine Br.go (fun h h' => ?_) (fun h h' => ?_)) | (refine Br.mk (fun h => ?_) (fun h => ?_)))
  all_goals (try simp only [go_sem])
  all_goals (first | rfl | (simp_all; done) | trace_state)
theorem ord26_c (p : ProgT) (f : FnT) (n a b c line : Int) (hf : Fok f) (hp : Psz p) (hE : decide (formF 26 = ⟨#[]⟩) = false) (hs : (formF 26).size = 3) (e0 : wiF line 0 2000 = true) (e1 : namesF p f ((formF 26).data.toList.getD 0 0).toNat a = true) (e2 : namesF p f ((formF 26).data.toList.getD 1 0).toNat b = true) (e3 : namesF p f ((formF 26).data.toList.getD 2 0).toNat c = true) (g : FnT) (hg : p.fns[b.toNat]? = some g) (hb : 0 ≤ b) (hgc : g.caught.length ≤ 9223372036854775807) : FC Cx 106 [lookA p f, Iv n, insA ⟨26, a, b, c, line⟩] [] (Bv (caughtF f g)) [] := by
  have s0 : (0 : Int) < ((formF 26).size : Int) := by rw [hs]; omega
  have s1 : (1 : Int) < ((formF 26).size : Int) := by rw [hs]; omega
  have s2 : (2 : Int) < ((formF 26).size : Int) := by rw [hs]; omega
  have hA : ∀ y, y = [lookA p f, fnA g] → CallOk Cx 159 y (Bv (caughtF f g)) := fun y hy => by
    subst hy; exact CallOk_of (caught_c p f g hf hgc) en159 rfl rfl
  have hl : (p.fns.map fnR).length = p.fns.length := List.length_map ..
  have hgd := getD_map fnR hg ([] : List RV)
  have hlt : b < (p.fns.length : Int) := by have := (List.getElem?_eq_some_iff.1 hg).1; omega
  refine FCp_of [ct_cwithin, ct_form, ct_names', ct_reg', ctE 159 [lookA p f, fnA g] (Bv (caughtF f g)) hA] Tryz.func106 rfl Tryz.ntmps106 (by simp) Tryz.results106 rfl ?_
  apply Rn_st; (intro K0; simp only [go_sem]; exact ⟨id⟩)
  refine goR (L := []) (n := 0) ?_
  (apply Rn_frzB 3; (exact rfl); (exact rfl); (exact rfl); (intro K0; (try simp only [go_sem]); exact ⟨id⟩))
  (apply Rn_frzB 5; (exact rfl); (exact rfl); (exact rfl); (intro K0; (try simp only [go_sem]); exact ⟨id⟩))
  (any_goals refine go lv106 0 ?_)
  repeat' (first | (refine Br.go (fun h h' => ?_) (fun h h' => ?_)) | (refine Br.mk (fun h => ?_) (fun h => ?_)))
  all_goals (try simp only [go_sem])
  all_goals (first | rfl | (simp_all; done) | trace_state)
theorem ord32_c (p : ProgT) (f : FnT) (n a b c line : Int) (hf : Fok f) (hp : Psz p) (hE : decide (formF 32 = ⟨#[]⟩) = false) (hs : (formF 32).size = 3) (e0 : wiF line 0 2000 = true) (e1 : namesF p f ((formF 32).data.toList.getD 0 0).toNat a = true) (e2 : namesF p f ((formF 32).data.toList.getD 1 0).toNat b = true) (e3 : namesF p f ((formF 32).data.toList.getD 2 0).toNat c = true) : FC Cx 106 [lookA p f, Iv n, insA ⟨32, a, b, c, line⟩] [] (Bv f.gen) [] := by
  have s0 : (0 : Int) < ((formF 32).size : Int) := by rw [hs]; omega
  have s1 : (1 : Int) < ((formF 32).size : Int) := by rw [hs]; omega
  have s2 : (2 : Int) < ((formF 32).size : Int) := by rw [hs]; omega
  refine FCp_of [ct_cwithin, ct_form, ct_names', ct_reg'] Tryz.func106 rfl Tryz.ntmps106 (by simp) Tryz.results106 rfl ?_
  apply Rn_st; (intro K0; simp only [go_sem]; exact ⟨id⟩)
  refine goR (L := []) (n := 0) ?_
  (apply Rn_frzB 3; (exact rfl); (exact rfl); (exact rfl); (intro K0; (try simp only [go_sem]); exact ⟨id⟩))
  (apply Rn_frzB 5; (exact rfl); (exact rfl); (exact rfl); (intro K0; (try simp only [go_sem]); exact ⟨id⟩))
  (any_goals refine go lv106 0 ?_)
  repeat' (first | (refine Br.go (fun h h' => ?_) (fun h h' => ?_)) | (refine Br.mk (fun h => ?_) (fun h => ?_)))
  all_goals (try simp only [go_sem])
  all_goals (first | rfl | (simp_all; done) | trace_state)
theorem ordx_c (p : ProgT) (f : FnT) (n op a b c line : Int) (hf : Fok f) (hp : Psz p) (hE : decide (formF op = ⟨#[]⟩) = false) (hs : (formF op).size = 3) (e0 : wiF line 0 2000 = true) (e1 : namesF p f ((formF op).data.toList.getD 0 0).toNat a = true) (e2 : namesF p f ((formF op).data.toList.getD 1 0).toNat b = true) (e3 : namesF p f ((formF op).data.toList.getD 2 0).toNat c = true) (n14 : decide (op = 14) = false) (n19 : decide (op = 19) = false) (n27 : decide (op = 27) = false) (n26 : decide (op = 26) = false) (n32 : decide (op = 32) = false) : FC Cx 106 [lookA p f, Iv n, insA ⟨op, a, b, c, line⟩] [] (Bv true) [] := by
  have s0 : (0 : Int) < ((formF op).size : Int) := by rw [hs]; omega
  have s1 : (1 : Int) < ((formF op).size : Int) := by rw [hs]; omega
  have s2 : (2 : Int) < ((formF op).size : Int) := by rw [hs]; omega
  refine FCp_of [ct_cwithin, ct_form, ct_names', ct_reg'] Tryz.func106 rfl Tryz.ntmps106 (by simp) Tryz.results106 rfl ?_
  apply Rn_st; (intro K0; simp only [go_sem]; exact ⟨id⟩)
  refine goR (L := []) (n := 0) ?_
  (apply Rn_frzB 3; (exact rfl); (exact rfl); (exact rfl); (intro K0; (try simp only [go_sem]); exact ⟨id⟩))
  (apply Rn_frzB 5; (exact rfl); (exact rfl); (exact rfl); (intro K0; (try simp only [go_sem]); exact ⟨id⟩))
  (any_goals refine go lv106 0 ?_)
  repeat' (first | (refine Br.go (fun h h' => ?_) (fun h h' => ?_)) | (refine Br.mk (fun h => ?_) (fun h => ?_)))
  all_goals (try simp only [go_sem])
  all_goals (first | rfl | (simp_all; done) | trace_state)
end Go.Proofs.YtbhnmolmkembdaaGreatDoor
namespace Go.Proofs.YtbhnmolmkembdaaGreatDoor
set_option linter.unusedVariables false
set_option linter.unusedSimpArgs false
set_option maxHeartbeats 10000000
open Go
set_option maxRecDepth 10000
theorem formF_ne {op : Int} (h : ¬ (op < 1 ∨ 39 ≤ op)) : decide (formF op = ⟨#[]⟩) = false := by
  rw [decide_eq_false_iff_not]; intro e
  have := formF_size h
  rw [e] at this; cases this
theorem order_c (p : ProgT) (f : FnT) (n : Int) (i : InsT) (hf : Fok f) (hp : Psz p) (hc : ∀ g ∈ p.fns, g.caught.length ≤ 9223372036854775807) : FC Cx 106 [lookA p f, Iv n, insA i] [] (Bv (orderF p f n i)) [] := by
  obtain ⟨op, a, b, c, line⟩ := i
  unfold orderF
  by_cases hop : op < 1 ∨ 39 ≤ op
  · rw [if_pos hop]
    exact ord0_c p f n op a b c line hf hp (by rw [formF, if_pos hop]; rfl)
  rw [if_neg hop]
  have hE := formF_ne hop
  have hs := formF_size hop
  cases e0 : wiF line 0 2000 with
  | false => rw [if_pos (by simp [orderN, e0])]; exact ordN0_c p f n op a b c line hf hp hE hs e0
  | true =>
  cases e1 : namesF p f (fB op 0) a with
  | false => rw [if_pos (by simp [orderN, e0, e1])]; exact ordN1_c p f n op a b c line hf hp hE hs e0 e1
  | true =>
  cases e2 : namesF p f (fB op 1) b with
  | false => rw [if_pos (by simp [orderN, e0, e1, e2])]; exact ordN2_c p f n op a b c line hf hp hE hs e0 e1 e2
  | true =>
  cases e3 : namesF p f (fB op 2) c with
  | false => rw [if_pos (by simp [orderN, e0, e1, e2, e3])]; exact ordN3_c p f n op a b c line hf hp hE hs e0 e1 e2 e3
  | true =>
  rw [if_neg (by simp [orderN, e0, e1, e2, e3])]
  have hr := hf.regs
  by_cases o1 : op = 14
  · subst o1; exact ord14_c p f n a b c line hf hp hE hs e0 e1 e2 e3
  rw [if_neg (show ¬ (InsT.mk op a b c line).op = 14 from o1)]
  by_cases o2 : op = 19
  · subst o2
    have h2 : wiF b 0 f.regs = true := e2
    have h3 : wiF c 0 f.regs = true := e3
    rw [wiF_iff] at h2 h3
    exact ord19_c p f n a b c line hf hp hE hs e0 e1 e2 e3 (by rw [wrap_id] <;> omega)
  rw [if_neg (show ¬ (InsT.mk op a b c line).op = 19 from o2)]
  by_cases o3 : op = 27
  · subst o3
    have h2 : wiF b 0 f.regs = true := e2
    have h3 : wiF c 0 f.regs = true := e3
    rw [wiF_iff] at h2 h3
    exact ord27_c p f n a b c line hf hp hE hs e0 e1 e2 e3 (by rw [wrap_id] <;> omega)
  rw [if_neg (show ¬ (InsT.mk op a b c line).op = 27 from o3)]
  by_cases o4 : op = 26
  · subst o4
    have h2 : wiF b 1 ((p.fns.length : Int) - 1) = true := e2
    rw [wiF_iff] at h2
    have hg : p.fns[b.toNat]? = some (p.fns[b.toNat]'(by omega)) := List.getElem?_eq_getElem (by omega)
    have := ord26_c p f n a b c line hf hp hE hs e0 e1 e2 e3 _ hg (by omega) (hc _ (List.mem_of_getElem? hg))
    rw [if_pos rfl]
    show FC Cx _ _ _ (Bv (caughtF f (p.fns.getD b.toNat fn0))) _
    rw [List.getD, hg]; exact this
  rw [if_neg (show ¬ (InsT.mk op a b c line).op = 26 from o4)]
  by_cases o5 : op = 32
  · subst o5; exact ord32_c p f n a b c line hf hp hE hs e0 e1 e2 e3
  rw [if_neg (show ¬ (InsT.mk op a b c line).op = 32 from o5)]
  exact ordx_c p f n op a b c line hf hp hE hs e0 e1 e2 e3 (by simpa using o1) (by simpa using o2) (by simpa using o3) (by simpa using o4) (by simpa using o5)
theorem order'_c (xs ys zs : List (List RV)) (pa rg : Int) (ge : Bool) (us vs : List (List RV)) (n op a b c li : Int) (h : ((xs = (fnsOf xs).map fnR ∧ ys = (valsOf ys).map valR ∧ zs = (strsOf zs).map strR) ∧ us = (intsOf us).map intR ∧ vs = (inssOf vs).map insR) ∧ Fok ⟨pa, rg, ge, intsOf us, inssOf vs⟩ ∧ Psz ⟨fnsOf xs, valsOf ys, strsOf zs⟩ ∧ ∀ g ∈ fnsOf xs, g.caught.length ≤ 9223372036854775807) : FC Cx 106 [.agg [.r (.rs 5 xs), .r (.rs 2 ys), .r (.rs 1 zs), Iv pa, Iv rg, Bv ge, .r (.rs 1 us), .r (.rs 5 vs)], Iv n, .agg [Iv op, Iv a, Iv b, Iv c, Iv li]] [] (Bv (orderF ⟨fnsOf xs, valsOf ys, strsOf zs⟩ ⟨pa, rg, ge, intsOf us, inssOf vs⟩ n ⟨op, a, b, c, li⟩)) [] := by
  have := order_c ⟨fnsOf xs, valsOf ys, strsOf zs⟩ ⟨pa, rg, ge, intsOf us, inssOf vs⟩ n ⟨op, a, b, c, li⟩ h.2.1 h.2.2.1 h.2.2.2
  rwa [look_at h.1] at this
def sp_order' (args : List AV) (K : AV → Prop) : Prop := match args with
  | [.agg [.r (.rs 5 xs), .r (.rs 2 ys), .r (.rs 1 zs), .r (.v (.int .i64 pa)), .r (.v (.int .i64 rg)), .r (.v (.bool ge)), .r (.rs 1 us), .r (.rs 5 vs)], .r (.v (.int .i64 n)), .agg [.r (.v (.int .i64 op)), .r (.v (.int .i64 a)), .r (.v (.int .i64 b)), .r (.v (.int .i64 c)), .r (.v (.int .i64 li))]] => (((xs = (fnsOf xs).map fnR ∧ ys = (valsOf ys).map valR ∧ zs = (strsOf zs).map strR) ∧ us = (intsOf us).map intR ∧ vs = (inssOf vs).map insR) ∧ Fok ⟨pa, rg, ge, intsOf us, inssOf vs⟩ ∧ Psz ⟨fnsOf xs, valsOf ys, strsOf zs⟩ ∧ ∀ g ∈ fnsOf xs, g.caught.length ≤ 9223372036854775807) ∧ K (Bv (orderF ⟨fnsOf xs, valsOf ys, strsOf zs⟩ ⟨pa, rg, ge, intsOf us, inssOf vs⟩ n ⟨op, a, b, c, li⟩))
  | _ => False
theorem sp_order'_ok (args : List AV) (K : AV → Prop) (h : sp_order' args K) : ∃ r, CallOk Cx 106 args r ∧ K r := by
  unfold sp_order' at h
  split at h
  · exact ⟨_, CallOk_of (order'_c _ _ _ _ _ _ _ _ _ _ _ _ _ _ h.1) en106 rfl rfl, h.2⟩
  · exact h.elim
noncomputable def ct_order' : Ct Cx := .pure 106 sp_order' sp_order'_ok
@[go_sem] theorem ct_order'_g : ct_order'.g = 106 := rfl
@[go_sem] theorem ct_order'_run (c : Call) (fop : Operand) (caps : List AV) (o : Oper) (st : St) (K : List Loc → List (Loc × Cont) → Prop) : ct_order'.run c fop caps o st K = callT Cx sp_order' c fop caps o st K := rfl
@[go_sem] theorem sp_order'_eq (args : List AV) (K : AV → Prop) : sp_order' args K = (match args with
    | [.agg [.r (.rs 5 xs), .r (.rs 2 ys), .r (.rs 1 zs), .r (.v (.int .i64 pa)), .r (.v (.int .i64 rg)), .r (.v (.bool ge)), .r (.rs 1 us), .r (.rs 5 vs)], .r (.v (.int .i64 n)), .agg [.r (.v (.int .i64 op)), .r (.v (.int .i64 a)), .r (.v (.int .i64 b)), .r (.v (.int .i64 c)), .r (.v (.int .i64 li))]] => (((xs = (fnsOf xs).map fnR ∧ ys = (valsOf ys).map valR ∧ zs = (strsOf zs).map strR) ∧ us = (intsOf us).map intR ∧ vs = (inssOf vs).map insR) ∧ Fok ⟨pa, rg, ge, intsOf us, inssOf vs⟩ ∧ Psz ⟨fnsOf xs, valsOf ys, strsOf zs⟩ ∧ ∀ g ∈ fnsOf xs, g.caught.length ≤ 9223372036854775807) ∧ K (Bv (orderF ⟨fnsOf xs, valsOf ys, strsOf zs⟩ ⟨pa, rg, ge, intsOf us, inssOf vs⟩ n ⟨op, a, b, c, li⟩))
    | _ => False) := rfl
end Go.Proofs.YtbhnmolmkembdaaGreatDoor
namespace Go.Proofs.YtbhnmolmkembdaaGreatDoor
set_option linter.unusedVariables false
set_option linter.unusedSimpArgs false
set_option maxHeartbeats 10000000
open Go
set_option maxRecDepth 10000
structure WT where
  seen : List Bool
  out : List (List (Int × Int))
  todo : List Int
  bad : Bool
abbrev boolC (b : Bool) : List AV := [Bv b]
abbrev trsC (l : List (Int × Int)) : List AV := [triesV l]
abbrev intC (n : Int) : List AV := [Iv n]
abbrev wbx (f : FnT) (v : Nat) (bad : Bool) : Res := .bx [Iv f.params, Iv f.regs, Bv f.gen, intsV f.caught, inssV f.code, .os 1 0, .os 2 0, .os 3 v, Bv bad]
abbrev rsW (v : Nat) (f : FnT) (W : WT) : List (Nat × Nat × Res) := [(0, 0, wbx f v W.bad), (1, 0, .sl 4 1 (W.seen.map boolC)), (2, 0, .sl 59 1 (W.out.map trsC)), (3, v, .sl 3 1 (W.todo.map intC))]
theorem flatBool (l : List Bool) : ∀ row ∈ l.map boolC, withinL none0 row = true := fun row h => by
  obtain ⟨x, _, rfl⟩ := List.mem_map.1 h; rfl
theorem flatTrs (l : List (List (Int × Int))) : ∀ row ∈ l.map trsC, withinL none0 row = true := fun row h => by
  obtain ⟨x, _, rfl⟩ := List.mem_map.1 h; rfl
theorem flatInt (l : List Int) : ∀ row ∈ l.map intC, withinL none0 row = true := fun row h => by
  obtain ⟨x, _, rfl⟩ := List.mem_map.1 h; rfl
@[go_sem] theorem okBoolC : ∀ l : List Bool, okRows (l.map boolC) = true
  | [] => rfl
  | x :: l => okBoolC l
@[go_sem] theorem okTrsC : ∀ l : List (List (Int × Int)), okRows (l.map trsC) = true
  | [] => rfl
  | x :: l => okTrsC l
@[go_sem] theorem okIntC : ∀ l : List Int, okRows (l.map intC) = true
  | [] => rfl
  | x :: l => okIntC l
theorem set_map {α β : Type} (f : α → β) (l : List α) (i : Nat) (x : α) : (l.map f).set i (f x) = (l.set i x).map f := by rw [List.map_set]
theorem insW (v : Nat) (f : FnT) (W : WT) (k : Nat) : withinRes (domR (rsW v f W)) (lookR k (rsW v f W)).2 := by
  have e : lookR k (rsW v f W) = if k = 0 then (0, wbx f v W.bad) else if k = 1 then (0, .sl 4 1 (W.seen.map boolC)) else if k = 2 then (0, .sl 59 1 (W.out.map trsC)) else if k = 3 then (v, .sl 3 1 (W.todo.map intC)) else (0, .gone) := rfl
  rw [e]
  split
  · rfl
  · split
    · exact fun row h => withinL_none (flatBool _ row h)
    · split
      · exact fun row h => withinL_none (flatTrs _ row h)
      · split
        · exact fun row h => withinL_none (flatInt _ row h)
        · trivial
def comeF (f : FnT) (n : Int) (l : List (Int × Int)) (W : WT) : WT :=
  if (f.code.length : Int) ≤ n ∨ 20 < l.length then { W with bad := true } else
  if W.seen.getD n.toNat false = false then ⟨W.seen.set n.toNat true, W.out.set n.toNat l, W.todo ++ [n], W.bad⟩ else
  if W.out.getD n.toNat [] = l then W else { W with bad := true }
structure Wok (f : FnT) (W : WT) : Prop where
  code : f.code.length ≤ 600
  seen : W.seen.length = f.code.length
  out : W.out.length = f.code.length
  todo : W.todo.length ≤ 1000
  outs : ∀ x ∈ W.out, x.length ≤ 1000
theorem come_c (f : FnT) (n : Int) (l : List (Int × Int)) (W : WT) (hn : 0 ≤ n) (hw : Wok f W) (hll : l.length ≤ 1000) :
    FC Cx 160 [.os 0 0, Iv n, triesV l] (rsW 0 f W) (.tup []) (rsW 1 f (comeF f n l W)) := by
  obtain ⟨hc, h1, h2, h3, h4⟩ := hw
  have l0 : (f.code.map insR).length = f.code.length := List.length_map ..
  have l1 : (W.seen.map boolC).length = f.code.length := by rw [List.length_map, h1]
  have l2 : (W.out.map trsC).length = f.code.length := by rw [List.length_map, h2]
  have l3 : (W.todo.map intC).length = W.todo.length := List.length_map ..
  have l4 : (l.map tryR).length = l.length := List.length_map ..
  unfold comeF
  by_cases hb : (f.code.length : Int) ≤ n ∨ 20 < l.length
  · rw [if_pos hb]
    have d1 : (decide ((f.code.length : Int) ≤ n) || decide ((20 : Int) < (l.length : Int))) = true := by
      rcases hb with hb | hb
      · simp [hb]
      · have : (20 : Int) < (l.length : Int) := by omega
        simp [this]
    refine FCmb_of [ct_eqTry'] [(3, 1)] Tryz.func160 rfl Tryz.ntmps160 (by simp) Tryz.results160 rfl (insW 1 f _) ?_
    apply Rn_st; (intro K0; simp only [go_sem]; exact ⟨id⟩)
    (any_goals refine go lv160 0 ?_)
    repeat' (first | (refine Br.go (fun h h' => ?_) (fun h h' => ?_)) | (refine Br.mk (fun h => ?_) (fun h => ?_)))
    all_goals (try simp only [go_sem])
    all_goals rfl
  · rw [if_neg hb]
    have hb1 : n < (f.code.length : Int) := by omega
    obtain ⟨k, rfl⟩ : ∃ k : Nat, n = k := ⟨n.toNat, by omega⟩
    have hk : k < f.code.length := by omega
    have t1 : Int.toNat (k : Int) = k := by omega
    have d1 : (decide ((f.code.length : Int) ≤ (k : Int)) || decide ((20 : Int) < (l.length : Int))) = false := by
      rw [Bool.eq_false_iff]; intro h; simp at h; omega
    obtain ⟨b, hsb⟩ : ∃ b, W.seen[k]? = some b := ⟨W.seen[k], List.getElem?_eq_getElem (by omega)⟩
    obtain ⟨o, hso⟩ : ∃ o, W.out[k]? = some o := ⟨W.out[k], List.getElem?_eq_getElem (by omega)⟩
    have g1 := getD_map boolC hsb ([] : List AV)
    have g2 := getD_map trsC hso ([] : List AV)
    have e1 : W.seen.getD k false = b := by simp [List.getD, hsb]
    have e2 : W.out.getD k [] = o := by simp [List.getD, hso]
    have ho := h4 o (List.mem_of_getElem? hso)
    have l5 : (o.map tryR).length = o.length := List.length_map ..
    rw [t1, e1, e2]
    cases b with
    | false =>
      rw [if_pos rfl]
      have s1 : (W.seen.map boolC).set k [Bv true] = (W.seen.set k true).map boolC := set_map boolC W.seen k true
      have s2 : (W.out.map trsC).set k [triesV l] = (W.out.set k l).map trsC := set_map trsC W.out k l
      have s3 : W.todo.map intC ++ [[Iv (k : Int)]] = (W.todo ++ [(k : Int)]).map intC := by simp
      refine FCmb_of [ct_eqTry'] [(3, 1)] Tryz.func160 rfl Tryz.ntmps160 (by simp) Tryz.results160 rfl (insW 1 f _) ?_
      apply Rn_st; (intro K0; simp only [go_sem]; exact ⟨id⟩)
      (any_goals refine go lv160 0 ?_)
      repeat' (first | (refine Br.go (fun h h' => ?_) (fun h h' => ?_)) | (refine Br.mk (fun h => ?_) (fun h => ?_)))
      all_goals (try simp only [go_sem])
      all_goals rfl
    | true =>
      rw [if_neg (by simp)]
      by_cases he : o = l
      · rw [if_pos he]
        have d2 : decide (o = l) = true := by simpa using he
        refine FCmb_of [ct_eqTry'] [(3, 1)] Tryz.func160 rfl Tryz.ntmps160 (by simp) Tryz.results160 rfl (insW 1 f _) ?_
        apply Rn_st; (intro K0; simp only [go_sem]; exact ⟨id⟩)
        (any_goals refine go lv160 0 ?_)
        repeat' (first | (refine Br.go (fun h h' => ?_) (fun h h' => ?_)) | (refine Br.mk (fun h => ?_) (fun h => ?_)))
        all_goals (try simp only [go_sem])
        all_goals rfl
      · rw [if_neg he]
        have d2 : decide (o = l) = false := by simpa using he
        refine FCmb_of [ct_eqTry'] [(3, 1)] Tryz.func160 rfl Tryz.ntmps160 (by simp) Tryz.results160 rfl (insW 1 f _) ?_
        apply Rn_st; (intro K0; simp only [go_sem]; exact ⟨id⟩)
        (any_goals refine go lv160 0 ?_)
        repeat' (first | (refine Br.go (fun h h' => ?_) (fun h h' => ?_)) | (refine Br.mk (fun h => ?_) (fun h => ?_)))
        all_goals (try simp only [go_sem])
        all_goals rfl
end Go.Proofs.YtbhnmolmkembdaaGreatDoor
