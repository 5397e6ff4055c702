/- What the types and functions of this claim's program are, as rewriting wants it; written by a program of this session's own. No condition: closed facts. -/
import Derived.Test.YtjbhpoolghfhiaaAv24
import Derived.Test.YtjbhpoolghfhiaaProg
namespace Go.Proofs.Ytjbhpoolghfhiaa
open Go
@[go_sem] theorem tf_size3 : sizeT Try.prog 3 = 1 := by kernel_rfl
@[go_sem] theorem tf_agg3 : aggT Try.prog 3 = false := by kernel_rfl
@[go_sem] theorem tf_known3 : knownT Try.prog 3 = true := by kernel_rfl
@[go_sem] theorem tf_bytes3 : bytesT Try.prog 3 = 8 := by kernel_rfl
@[go_sem] theorem tf_zero3 (K : List AV → Prop) : zeroCellsT Try.prog 3 K = K [.r (.v (.int .i64 0))] := by kernel_rfl
@[go_sem] theorem tf_zis3 : (zeroT Try.prog 3).isSome = true := by kernel_rfl
@[go_sem] theorem tf_int3 : intT Try.prog 3 = some .i64 := by kernel_rfl
@[go_sem] theorem tf_flo3 : floatT Try.prog 3 = none := by kernel_rfl
@[go_sem] theorem tf_sl3 : sliceT Try.prog 3 = false := by kernel_rfl
@[go_sem] theorem tf_str3 : stringT Try.prog 3 = false := by kernel_rfl
@[go_sem] theorem tf_bool3 : boolT Try.prog 3 = false := by kernel_rfl
@[go_sem] theorem tf_ptr3 : ptrT Try.prog 3 = false := by kernel_rfl
@[go_sem] theorem tf_zval3 : zeroT Try.prog 3 = some (.int .i64 0) := by kernel_rfl
@[go_sem] theorem tf_elem3 : elemT Try.prog 3 = none := by kernel_rfl
@[go_sem] theorem tf_size4 : sizeT Try.prog 4 = 1 := by kernel_rfl
@[go_sem] theorem tf_agg4 : aggT Try.prog 4 = false := by kernel_rfl
@[go_sem] theorem tf_known4 : knownT Try.prog 4 = true := by kernel_rfl
@[go_sem] theorem tf_bytes4 : bytesT Try.prog 4 = 1 := by kernel_rfl
@[go_sem] theorem tf_zero4 (K : List AV → Prop) : zeroCellsT Try.prog 4 K = K [.r (.v (.bool false))] := by kernel_rfl
@[go_sem] theorem tf_zis4 : (zeroT Try.prog 4).isSome = true := by kernel_rfl
@[go_sem] theorem tf_int4 : intT Try.prog 4 = none := by kernel_rfl
@[go_sem] theorem tf_flo4 : floatT Try.prog 4 = none := by kernel_rfl
@[go_sem] theorem tf_sl4 : sliceT Try.prog 4 = false := by kernel_rfl
@[go_sem] theorem tf_str4 : stringT Try.prog 4 = false := by kernel_rfl
@[go_sem] theorem tf_bool4 : boolT Try.prog 4 = true := by kernel_rfl
@[go_sem] theorem tf_ptr4 : ptrT Try.prog 4 = false := by kernel_rfl
@[go_sem] theorem tf_zval4 : zeroT Try.prog 4 = some (.bool false) := by kernel_rfl
@[go_sem] theorem tf_elem4 : elemT Try.prog 4 = none := by kernel_rfl
@[go_sem] theorem tf_size22 : sizeT Try.prog 22 = 1 := by kernel_rfl
@[go_sem] theorem tf_agg22 : aggT Try.prog 22 = false := by kernel_rfl
@[go_sem] theorem tf_known22 : knownT Try.prog 22 = true := by kernel_rfl
@[go_sem] theorem tf_bytes22 : bytesT Try.prog 22 = 24 := by kernel_rfl
@[go_sem] theorem tf_zero22 (K : List AV → Prop) : zeroCellsT Try.prog 22 K = K [.r (.v (.slice none 0 0))] := by kernel_rfl
@[go_sem] theorem tf_zis22 : (zeroT Try.prog 22).isSome = true := by kernel_rfl
@[go_sem] theorem tf_int22 : intT Try.prog 22 = none := by kernel_rfl
@[go_sem] theorem tf_flo22 : floatT Try.prog 22 = none := by kernel_rfl
@[go_sem] theorem tf_sl22 : sliceT Try.prog 22 = true := by kernel_rfl
@[go_sem] theorem tf_str22 : stringT Try.prog 22 = false := by kernel_rfl
@[go_sem] theorem tf_bool22 : boolT Try.prog 22 = false := by kernel_rfl
@[go_sem] theorem tf_ptr22 : ptrT Try.prog 22 = false := by kernel_rfl
@[go_sem] theorem tf_zval22 : zeroT Try.prog 22 = some (.slice none 0 0) := by kernel_rfl
@[go_sem] theorem tf_elem22 : elemT Try.prog 22 = some 29 := by kernel_rfl
@[go_sem] theorem tf_size23 : sizeT Try.prog 23 = 1 := by kernel_rfl
@[go_sem] theorem tf_agg23 : aggT Try.prog 23 = false := by kernel_rfl
@[go_sem] theorem tf_known23 : knownT Try.prog 23 = true := by kernel_rfl
@[go_sem] theorem tf_bytes23 : bytesT Try.prog 23 = 8 := by kernel_rfl
@[go_sem] theorem tf_zero23 (K : List AV → Prop) : zeroCellsT Try.prog 23 K = K [.r (.v (.int .i64 0))] := by kernel_rfl
@[go_sem] theorem tf_zis23 : (zeroT Try.prog 23).isSome = true := by kernel_rfl
@[go_sem] theorem tf_int23 : intT Try.prog 23 = some .i64 := by kernel_rfl
@[go_sem] theorem tf_flo23 : floatT Try.prog 23 = none := by kernel_rfl
@[go_sem] theorem tf_sl23 : sliceT Try.prog 23 = false := by kernel_rfl
@[go_sem] theorem tf_str23 : stringT Try.prog 23 = false := by kernel_rfl
@[go_sem] theorem tf_bool23 : boolT Try.prog 23 = false := by kernel_rfl
@[go_sem] theorem tf_ptr23 : ptrT Try.prog 23 = false := by kernel_rfl
@[go_sem] theorem tf_zval23 : zeroT Try.prog 23 = some (.int .i64 0) := by kernel_rfl
@[go_sem] theorem tf_elem23 : elemT Try.prog 23 = none := by kernel_rfl
@[go_sem] theorem tf_size29 : sizeT Try.prog 29 = 2 := by kernel_rfl
@[go_sem] theorem tf_agg29 : aggT Try.prog 29 = true := by kernel_rfl
@[go_sem] theorem tf_known29 : knownT Try.prog 29 = true := by kernel_rfl
@[go_sem] theorem tf_bytes29 : bytesT Try.prog 29 = 16 := by kernel_rfl
@[go_sem] theorem tf_zero29 (K : List AV → Prop) : zeroCellsT Try.prog 29 K = K [.r (.v (.int .i64 0)), .r (.v (.int .i64 0))] := by kernel_rfl
@[go_sem] theorem tf_zis29 : (zeroT Try.prog 29).isSome = true := by kernel_rfl
@[go_sem] theorem tf_int29 : intT Try.prog 29 = none := by kernel_rfl
@[go_sem] theorem tf_flo29 : floatT Try.prog 29 = none := by kernel_rfl
@[go_sem] theorem tf_sl29 : sliceT Try.prog 29 = false := by kernel_rfl
@[go_sem] theorem tf_str29 : stringT Try.prog 29 = false := by kernel_rfl
@[go_sem] theorem tf_bool29 : boolT Try.prog 29 = false := by kernel_rfl
@[go_sem] theorem tf_ptr29 : ptrT Try.prog 29 = false := by kernel_rfl
@[go_sem] theorem tf_elem29 : elemT Try.prog 29 = none := by kernel_rfl
@[go_sem] theorem tf_struct29 : structT Try.prog 29 = true := by kernel_rfl
@[go_sem] theorem tf_bld29 : buildT Try.prog 29 = true := by kernel_rfl
@[go_sem] theorem tf_eqg29 : Try.prog.eqGuardType Try.prog.depth 29 = false := by kernel_rfl
@[go_sem] theorem tf_f29_0 : fieldT Try.prog 29 0 = some (0, 1) := by kernel_rfl
@[go_sem] theorem tf_part29_0 : partT Try.prog 29 0 = some (0, 1) := by kernel_rfl
@[go_sem] theorem tf_f29_1 : fieldT Try.prog 29 1 = some (1, 1) := by kernel_rfl
@[go_sem] theorem tf_part29_1 : partT Try.prog 29 1 = some (1, 1) := by kernel_rfl
@[go_sem] theorem tf_kinds29 : kindsT Try.prog 8 29 = some [0, 0] := by kernel_rfl
@[go_sem] theorem tf_size30 : sizeT Try.prog 30 = 1 := by kernel_rfl
@[go_sem] theorem tf_agg30 : aggT Try.prog 30 = false := by kernel_rfl
@[go_sem] theorem tf_known30 : knownT Try.prog 30 = true := by kernel_rfl
@[go_sem] theorem tf_bytes30 : bytesT Try.prog 30 = 24 := by kernel_rfl
@[go_sem] theorem tf_zero30 (K : List AV → Prop) : zeroCellsT Try.prog 30 K = K [.r (.v (.slice none 0 0))] := by kernel_rfl
@[go_sem] theorem tf_zis30 : (zeroT Try.prog 30).isSome = true := by kernel_rfl
@[go_sem] theorem tf_int30 : intT Try.prog 30 = none := by kernel_rfl
@[go_sem] theorem tf_flo30 : floatT Try.prog 30 = none := by kernel_rfl
@[go_sem] theorem tf_sl30 : sliceT Try.prog 30 = true := by kernel_rfl
@[go_sem] theorem tf_str30 : stringT Try.prog 30 = false := by kernel_rfl
@[go_sem] theorem tf_bool30 : boolT Try.prog 30 = false := by kernel_rfl
@[go_sem] theorem tf_ptr30 : ptrT Try.prog 30 = false := by kernel_rfl
@[go_sem] theorem tf_zval30 : zeroT Try.prog 30 = some (.slice none 0 0) := by kernel_rfl
@[go_sem] theorem tf_elem30 : elemT Try.prog 30 = some 3 := by kernel_rfl
@[go_sem] theorem tf_size43 : sizeT Try.prog 43 = 2 := by kernel_rfl
@[go_sem] theorem tf_agg43 : aggT Try.prog 43 = true := by kernel_rfl
@[go_sem] theorem tf_known43 : knownT Try.prog 43 = true := by kernel_rfl
@[go_sem] theorem tf_bytes43 : bytesT Try.prog 43 = 16 := by kernel_rfl
@[go_sem] theorem tf_zero43 (K : List AV → Prop) : zeroCellsT Try.prog 43 K = K [.r (.v (.int .i64 0)), .r (.v (.int .i64 0))] := by kernel_rfl
@[go_sem] theorem tf_zis43 : (zeroT Try.prog 43).isSome = true := by kernel_rfl
@[go_sem] theorem tf_int43 : intT Try.prog 43 = none := by kernel_rfl
@[go_sem] theorem tf_flo43 : floatT Try.prog 43 = none := by kernel_rfl
@[go_sem] theorem tf_sl43 : sliceT Try.prog 43 = false := by kernel_rfl
@[go_sem] theorem tf_str43 : stringT Try.prog 43 = false := by kernel_rfl
@[go_sem] theorem tf_bool43 : boolT Try.prog 43 = false := by kernel_rfl
@[go_sem] theorem tf_ptr43 : ptrT Try.prog 43 = false := by kernel_rfl
@[go_sem] theorem tf_elem43 : elemT Try.prog 43 = none := by kernel_rfl
@[go_sem] theorem tf_struct43 : structT Try.prog 43 = true := by kernel_rfl
@[go_sem] theorem tf_bld43 : buildT Try.prog 43 = true := by kernel_rfl
@[go_sem] theorem tf_eqg43 : Try.prog.eqGuardType Try.prog.depth 43 = false := by kernel_rfl
@[go_sem] theorem tf_f43_0 : fieldT Try.prog 43 0 = some (0, 1) := by kernel_rfl
@[go_sem] theorem tf_part43_0 : partT Try.prog 43 0 = some (0, 1) := by kernel_rfl
@[go_sem] theorem tf_f43_1 : fieldT Try.prog 43 1 = some (1, 1) := by kernel_rfl
@[go_sem] theorem tf_part43_1 : partT Try.prog 43 1 = some (1, 1) := by kernel_rfl
@[go_sem] theorem tf_kinds43 : kindsT Try.prog 8 43 = some [0, 0] := by kernel_rfl
@[go_sem] theorem tf_size46 : sizeT Try.prog 46 = 2 := by kernel_rfl
@[go_sem] theorem tf_agg46 : aggT Try.prog 46 = true := by kernel_rfl
@[go_sem] theorem tf_known46 : knownT Try.prog 46 = true := by kernel_rfl
@[go_sem] theorem tf_bytes46 : bytesT Try.prog 46 = 16 := by kernel_rfl
@[go_sem] theorem tf_zero46 (K : List AV → Prop) : zeroCellsT Try.prog 46 K = K [.r (.v (.int .i64 0)), .r (.v (.int .i64 0))] := by kernel_rfl
@[go_sem] theorem tf_zis46 : (zeroT Try.prog 46).isSome = true := by kernel_rfl
@[go_sem] theorem tf_int46 : intT Try.prog 46 = none := by kernel_rfl
@[go_sem] theorem tf_flo46 : floatT Try.prog 46 = none := by kernel_rfl
@[go_sem] theorem tf_sl46 : sliceT Try.prog 46 = false := by kernel_rfl
@[go_sem] theorem tf_str46 : stringT Try.prog 46 = false := by kernel_rfl
@[go_sem] theorem tf_bool46 : boolT Try.prog 46 = false := by kernel_rfl
@[go_sem] theorem tf_ptr46 : ptrT Try.prog 46 = false := by kernel_rfl
@[go_sem] theorem tf_elem46 : elemT Try.prog 46 = none := by kernel_rfl
@[go_sem] theorem tf_arr46 : arrT Try.prog 46 = some (2, 3) := by kernel_rfl
@[go_sem] theorem tf_bld46 : buildT Try.prog 46 = true := by kernel_rfl
@[go_sem] theorem tf_part46_0 : partT Try.prog 46 0 = some (0, 1) := by kernel_rfl
@[go_sem] theorem tf_part46_1 : partT Try.prog 46 1 = some (1, 1) := by kernel_rfl
@[go_sem] theorem tf_size50 : sizeT Try.prog 50 = 6 := by kernel_rfl
@[go_sem] theorem tf_agg50 : aggT Try.prog 50 = true := by kernel_rfl
@[go_sem] theorem tf_known50 : knownT Try.prog 50 = true := by kernel_rfl
@[go_sem] theorem tf_bytes50 : bytesT Try.prog 50 = 48 := by kernel_rfl
@[go_sem] theorem tf_zero50 (K : List AV → Prop) : zeroCellsT Try.prog 50 K = K [.r (.v (.int .i64 0)), .r (.v (.int .i64 0)), .r (.v (.int .i64 0)), .r (.v (.int .i64 0)), .r (.v (.int .i64 0)), .r (.v (.int .i64 0))] := by kernel_rfl
@[go_sem] theorem tf_zis50 : (zeroT Try.prog 50).isSome = true := by kernel_rfl
@[go_sem] theorem tf_int50 : intT Try.prog 50 = none := by kernel_rfl
@[go_sem] theorem tf_flo50 : floatT Try.prog 50 = none := by kernel_rfl
@[go_sem] theorem tf_sl50 : sliceT Try.prog 50 = false := by kernel_rfl
@[go_sem] theorem tf_str50 : stringT Try.prog 50 = false := by kernel_rfl
@[go_sem] theorem tf_bool50 : boolT Try.prog 50 = false := by kernel_rfl
@[go_sem] theorem tf_ptr50 : ptrT Try.prog 50 = false := by kernel_rfl
@[go_sem] theorem tf_elem50 : elemT Try.prog 50 = none := by kernel_rfl
@[go_sem] theorem tf_arr50 : arrT Try.prog 50 = some (3, 43) := by kernel_rfl
@[go_sem] theorem tf_bld50 : buildT Try.prog 50 = true := by kernel_rfl
@[go_sem] theorem tf_part50_0 : partT Try.prog 50 0 = some (0, 2) := by kernel_rfl
@[go_sem] theorem tf_part50_1 : partT Try.prog 50 1 = some (2, 2) := by kernel_rfl
@[go_sem] theorem tf_part50_2 : partT Try.prog 50 2 = some (4, 2) := by kernel_rfl
@[go_sem] theorem tf_size56 : sizeT Try.prog 56 = 1 := by kernel_rfl
@[go_sem] theorem tf_agg56 : aggT Try.prog 56 = false := by kernel_rfl
@[go_sem] theorem tf_known56 : knownT Try.prog 56 = true := by kernel_rfl
@[go_sem] theorem tf_bytes56 : bytesT Try.prog 56 = 8 := by kernel_rfl
@[go_sem] theorem tf_zero56 (K : List AV → Prop) : zeroCellsT Try.prog 56 K = K [.r (.v (.map none))] := by kernel_rfl
@[go_sem] theorem tf_zis56 : (zeroT Try.prog 56).isSome = true := by kernel_rfl
@[go_sem] theorem tf_int56 : intT Try.prog 56 = none := by kernel_rfl
@[go_sem] theorem tf_flo56 : floatT Try.prog 56 = none := by kernel_rfl
@[go_sem] theorem tf_sl56 : sliceT Try.prog 56 = false := by kernel_rfl
@[go_sem] theorem tf_str56 : stringT Try.prog 56 = false := by kernel_rfl
@[go_sem] theorem tf_bool56 : boolT Try.prog 56 = false := by kernel_rfl
@[go_sem] theorem tf_ptr56 : ptrT Try.prog 56 = false := by kernel_rfl
@[go_sem] theorem tf_elem56 : elemT Try.prog 56 = none := by kernel_rfl
@[go_sem] theorem tf_map56 : mapT Try.prog 56 = some (29, 3) := by kernel_rfl
@[go_sem] theorem tf_size59 : sizeT Try.prog 59 = 1 := by kernel_rfl
@[go_sem] theorem tf_agg59 : aggT Try.prog 59 = false := by kernel_rfl
@[go_sem] theorem tf_known59 : knownT Try.prog 59 = true := by kernel_rfl
@[go_sem] theorem tf_bytes59 : bytesT Try.prog 59 = 8 := by kernel_rfl
@[go_sem] theorem tf_zero59 (K : List AV → Prop) : zeroCellsT Try.prog 59 K = K [.r (.v (.float .f64 0))] := by kernel_rfl
@[go_sem] theorem tf_zis59 : (zeroT Try.prog 59).isSome = true := by kernel_rfl
@[go_sem] theorem tf_int59 : intT Try.prog 59 = none := by kernel_rfl
@[go_sem] theorem tf_flo59 : floatT Try.prog 59 = some .f64 := by kernel_rfl
@[go_sem] theorem tf_sl59 : sliceT Try.prog 59 = false := by kernel_rfl
@[go_sem] theorem tf_str59 : stringT Try.prog 59 = false := by kernel_rfl
@[go_sem] theorem tf_bool59 : boolT Try.prog 59 = false := by kernel_rfl
@[go_sem] theorem tf_ptr59 : ptrT Try.prog 59 = false := by kernel_rfl
@[go_sem] theorem tf_elem59 : elemT Try.prog 59 = none := by kernel_rfl
@[go_sem] theorem tf_size68 : sizeT Try.prog 68 = 1 := by kernel_rfl
@[go_sem] theorem tf_agg68 : aggT Try.prog 68 = false := by kernel_rfl
@[go_sem] theorem tf_known68 : knownT Try.prog 68 = true := by kernel_rfl
@[go_sem] theorem tf_bytes68 : bytesT Try.prog 68 = 24 := by kernel_rfl
@[go_sem] theorem tf_zero68 (K : List AV → Prop) : zeroCellsT Try.prog 68 K = K [.r (.v (.slice none 0 0))] := by kernel_rfl
@[go_sem] theorem tf_zis68 : (zeroT Try.prog 68).isSome = true := by kernel_rfl
@[go_sem] theorem tf_int68 : intT Try.prog 68 = none := by kernel_rfl
@[go_sem] theorem tf_flo68 : floatT Try.prog 68 = none := by kernel_rfl
@[go_sem] theorem tf_sl68 : sliceT Try.prog 68 = true := by kernel_rfl
@[go_sem] theorem tf_str68 : stringT Try.prog 68 = false := by kernel_rfl
@[go_sem] theorem tf_bool68 : boolT Try.prog 68 = false := by kernel_rfl
@[go_sem] theorem tf_ptr68 : ptrT Try.prog 68 = false := by kernel_rfl
@[go_sem] theorem tf_zval68 : zeroT Try.prog 68 = some (.slice none 0 0) := by kernel_rfl
@[go_sem] theorem tf_elem68 : elemT Try.prog 68 = some 23 := by kernel_rfl
@[go_sem] theorem tf_size70 : sizeT Try.prog 70 = 1 := by kernel_rfl
@[go_sem] theorem tf_agg70 : aggT Try.prog 70 = false := by kernel_rfl
@[go_sem] theorem tf_known70 : knownT Try.prog 70 = true := by kernel_rfl
@[go_sem] theorem tf_bytes70 : bytesT Try.prog 70 = 8 := by kernel_rfl
@[go_sem] theorem tf_zero70 (K : List AV → Prop) : zeroCellsT Try.prog 70 K = K [.r (.v (.int .u64 0))] := by kernel_rfl
@[go_sem] theorem tf_zis70 : (zeroT Try.prog 70).isSome = true := by kernel_rfl
@[go_sem] theorem tf_int70 : intT Try.prog 70 = some .u64 := by kernel_rfl
@[go_sem] theorem tf_flo70 : floatT Try.prog 70 = none := by kernel_rfl
@[go_sem] theorem tf_sl70 : sliceT Try.prog 70 = false := by kernel_rfl
@[go_sem] theorem tf_str70 : stringT Try.prog 70 = false := by kernel_rfl
@[go_sem] theorem tf_bool70 : boolT Try.prog 70 = false := by kernel_rfl
@[go_sem] theorem tf_ptr70 : ptrT Try.prog 70 = false := by kernel_rfl
@[go_sem] theorem tf_zval70 : zeroT Try.prog 70 = some (.int .u64 0) := by kernel_rfl
@[go_sem] theorem tf_elem70 : elemT Try.prog 70 = none := by kernel_rfl
theorem en2 : Enters Try.prog 2 := fun args w => Try.call2 args w
theorem en3 : Enters Try.prog 3 := fun args w => Try.call3 args w
theorem en4 : Enters Try.prog 4 := fun args w => Try.call4 args w
theorem en5 : Enters Try.prog 5 := fun args w => Try.call5 args w
theorem en6 : Enters Try.prog 6 := fun args w => Try.call6 args w
theorem en7 : Enters Try.prog 7 := fun args w => Try.call7 args w
theorem en8 : Enters Try.prog 8 := fun args w => Try.call8 args w
theorem en9 : Enters Try.prog 9 := fun args w => Try.call9 args w
theorem en10 : Enters Try.prog 10 := fun args w => Try.call10 args w
theorem en11 : Enters Try.prog 11 := fun args w => Try.call11 args w
theorem en12 : Enters Try.prog 12 := fun args w => Try.call12 args w
theorem en13 : Enters Try.prog 13 := fun args w => Try.call13 args w
theorem en14 : Enters Try.prog 14 := fun args w => Try.call14 args w
theorem en15 : Enters Try.prog 15 := fun args w => Try.call15 args w
theorem en16 : Enters Try.prog 16 := fun args w => Try.call16 args w
theorem en17 : Enters Try.prog 17 := fun args w => Try.call17 args w
theorem en18 : Enters Try.prog 18 := fun args w => Try.call18 args w
theorem en19 : Enters Try.prog 19 := fun args w => Try.call19 args w
theorem en20 : Enters Try.prog 20 := fun args w => Try.call20 args w
theorem en21 : Enters Try.prog 21 := fun args w => Try.call21 args w
theorem en22 : Enters Try.prog 22 := fun args w => Try.call22 args w
theorem en23 : Enters Try.prog 23 := fun args w => Try.call23 args w
theorem en24 : Enters Try.prog 24 := fun args w => Try.call24 args w
theorem en25 : Enters Try.prog 25 := fun args w => Try.call25 args w
theorem en26 : Enters Try.prog 26 := fun args w => Try.call26 args w
theorem en27 : Enters Try.prog 27 := fun args w => Try.call27 args w
theorem en28 : Enters Try.prog 28 := fun args w => Try.call28 args w
theorem en29 : Enters Try.prog 29 := fun args w => Try.call29 args w
theorem en30 : Enters Try.prog 30 := fun args w => Try.call30 args w
theorem en31 : Enters Try.prog 31 := fun args w => Try.call31 args w
theorem en32 : Enters Try.prog 32 := fun args w => Try.call32 args w
theorem en33 : Enters Try.prog 33 := fun args w => Try.call33 args w
theorem en34 : Enters Try.prog 34 := fun args w => Try.call34 args w
theorem en35 : Enters Try.prog 35 := fun args w => Try.call35 args w
theorem en36 : Enters Try.prog 36 := fun args w => Try.call36 args w
theorem en37 : Enters Try.prog 37 := fun args w => Try.call37 args w
theorem en38 : Enters Try.prog 38 := fun args w => Try.call38 args w
theorem en39 : Enters Try.prog 39 := fun args w => Try.call39 args w
theorem en40 : Enters Try.prog 40 := fun args w => Try.call40 args w
theorem en41 : Enters Try.prog 41 := fun args w => Try.call41 args w
theorem en42 : Enters Try.prog 42 := fun args w => Try.call42 args w
theorem en43 : Enters Try.prog 43 := fun args w => Try.call43 args w
theorem en44 : Enters Try.prog 44 := fun args w => Try.call44 args w
theorem en45 : Enters Try.prog 45 := fun args w => Try.call45 args w
theorem en47 : Enters Try.prog 47 := fun args w => Try.call47 args w
theorem en48 : Enters Try.prog 48 := fun args w => Try.call48 args w
end Go.Proofs.Ytjbhpoolghfhiaa
