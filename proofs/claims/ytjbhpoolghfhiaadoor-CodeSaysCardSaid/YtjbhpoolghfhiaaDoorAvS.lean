/- What rewriting unfolds when code is run over states; what is fixed for this claim. No condition: attributes and closed facts. -/
import Derived.Test.YtjbhpoolghfhiaaDoorAvF
import Derived.Lib.LaidTab
import Derived.Lib.Space
namespace Go.Proofs.YtjbhpoolghfhiaaDoor
set_option linter.unusedVariables false
set_option linter.unusedSimpArgs false
set_option maxHeartbeats 10000000
open Go

abbrev VV (k n : Int) : AV := .agg [Iv k, Iv n]

attribute [go_sem ↓] reduceIte
attribute [go_sem] Nat.reduceEqDiff Nat.reduceAdd Nat.reduceSub Nat.reduceMul Nat.reduceLT Nat.reduceLeDiff reduceCtorEq Int.reduceLT Int.reduceLE Int.reduceAdd Int.reduceSub Int.reduceMul Int.reduceToNat Int.reduceNeg Int.reduceEq
attribute [go_sem ↓] opG opK valK
attribute [go_sem] List.set_cons_zero List.set_cons_succ
attribute [go_sem] lookupK updK keyK plainL
attribute [go_sem] frz frzL frzT frzR frzRs frzSt roL FinMB bmp bmpL bmpT bmpR bmpRs bmpSt bmpAll mpS mpD renRes backV ndB
attribute [go_sem] FinF FinO FinM nil1 nilL nilR own1 ownL subR callG ren renL withinL
attribute [go_sem] findC callT lendAs lendC lendL lendR resG FinK resV flatAV flatL flatR within withinL
attribute [go_sem] lookN addN dstOk skipped ev lookT putT lookR putR St.set St.upd St.cur binAV binI binS eqOr unAV convAV eq1 eqCells floatOrd wk
attribute [go_sem] rd avCells okCell okCells splice loadK fillK rowsK srcK okRows appendK lenAV indexAddrK fieldAddrK derefK storeK nilCheckK boundAV sliceK roK argT
attribute [go_sem] List.length_cons List.length_nil List.take_succ_cons List.take_zero List.take_nil List.drop_succ_cons List.drop_zero List.map_cons List.map_nil List.getD_cons_zero List.getD_cons_succ List.append_nil List.nil_append List.cons_append List.isEmpty_nil List.isEmpty_cons Bool.true_or Bool.false_or Bool.or_true Bool.or_false

@[go_sem] theorem oc_int (k : IntKind) (n : Int) : (Value.int k n).oneCell' = true := rfl
@[go_sem] theorem oc_bool (b : Bool) : (Value.bool b).oneCell' = true := rfl
@[go_sem] theorem oc_string (b : ByteArray) : (Value.string b).oneCell' = true := rfl
@[go_sem] theorem oc_float (k : FloatKind) (b : Nat) : (Value.float k b).oneCell' = true := rfl
@[go_sem] theorem oc_slice (a : Option Addr) (n c : Nat) : (Value.slice a n c).oneCell' = true := rfl
@[go_sem] theorem oc_pointer (a : Option Addr) : (Value.pointer a).oneCell' = true := rfl
@[go_sem] theorem oc_map (a : Option Nat) : (Value.map a).oneCell' = true := rfl

@[go_sem] theorem lendA_agg (st : St) (cs : List AV) (K : List Loc → AV → Prop) : lendA st (.agg cs) K = lendL (lendC 4 st) cs fun l ys => K l (.agg (ys.map .r)) := rfl
@[go_sem] theorem lendA_any (st : St) (K : List Loc → AV → Prop) : lendA st .any K = K [] .any := rfl
@[go_sem] theorem lendA_r (st : St) (x : RV) (K : List Loc → AV → Prop) : lendA st (.r x) K = K [] (.r x) := rfl
@[go_sem] theorem lendA_os (st : St) (k ver : Nat) (K : List Loc → AV → Prop) : lendA st (.os k ver) K = lendC 4 st (.os k ver) fun l y => K l (.r y) := rfl
@[go_sem] theorem lendA_rf (st : St) (k ver off : Nat) (K : List Loc → AV → Prop) : lendA st (.rf k ver off) K = lendC 4 st (.rf k ver off) fun l y => K l (.r y) := rfl

attribute [go_sem] decide_true decide_false Nat.lt_irrefl Nat.le_refl eq_self true_and and_true Bool.and_true Bool.true_and Bool.false_and Bool.and_false cond_true cond_false Bool.not_true Bool.not_false beq_self_eq_true RV.v.injEq beq_true beq_false
attribute [go_sem] wantK_bif oneK memN trimT
@[go_sem] theorem wantK_v (q b : Bool) (K : Bool → Prop) : wantK (.r (.v (.bool q))) b K = K (q == b) := rfl
@[go_sem] theorem wantK_u (b : Bool) (K : Bool → Prop) : wantK UD b K = K false := rfl
@[go_sem] theorem wantK_fib (c p b : Bool) (K : Bool → Prop) : wantK (bif c then UD else .r (.v (.bool p))) b K = K (!c && (p == b)) := by cases c <;> rfl
@[go_sem] theorem pick_bb (q p r : Bool) : pickAV q (.r (.v (.bool p))) (.r (.v (.bool r))) = .r (.v (.bool (bif q then p else r))) := rfl
@[go_sem] theorem pick_t (x y : AV) : pickAV true x y = x := by unfold pickAV; split <;> simp_all
@[go_sem] theorem pick_f (x y : AV) : pickAV false x y = y := by unfold pickAV; split <;> simp_all
@[go_sem] theorem pick_bif_t (q p r : Bool) : pickAV q (bif q then .r (.v (.bool p)) else UD) (.r (.v (.bool r))) = .r (.v (.bool (bif q then p else r))) := by cases q <;> rfl
@[go_sem] theorem pick_bif_f (q p r : Bool) : pickAV q (.r (.v (.bool r))) (bif q then UD else .r (.v (.bool p))) = .r (.v (.bool (bif q then r else p))) := by cases q <;> rfl
@[go_sem] theorem pick_bif_nt (q p r : Bool) : pickAV (!q) (bif q then UD else .r (.v (.bool p))) (.r (.v (.bool r))) = .r (.v (.bool (bif q then r else p))) := by cases q <;> rfl
@[go_sem] theorem pick_bif_nf (q p r : Bool) : pickAV (!q) (.r (.v (.bool r))) (bif q then .r (.v (.bool p)) else UD) = .r (.v (.bool (bif q then p else r))) := by cases q <;> rfl
@[go_sem] theorem bif_fa (q p : Bool) : (bif q then false else p) = (!q && p) := by cases q <;> rfl
@[go_sem] theorem bif_tr (q p : Bool) : (bif q then p else true) = (!q || p) := by cases q <;> rfl
@[go_sem] theorem bif_not (q : Bool) (x y : AV) : (bif !q then x else y) = bif q then y else x := by cases q <;> rfl
@[go_sem] theorem bif_same (q : Bool) (x y z : AV) : (bif q then (bif q then x else y) else z) = bif q then x else z := by cases q <;> rfl
@[go_sem] theorem bif_or (q p : Bool) : (bif q then true else p) = (q || p) := by cases q <;> rfl
@[go_sem] theorem bif_and (q p : Bool) : (bif q then p else false) = (q && p) := by cases q <;> rfl
@[go_sem] theorem beq_true' (q : Bool) : (q == true) = q := by cases q <;> rfl
@[go_sem] theorem beq_false' (q : Bool) : (q == false) = !q := by cases q <;> rfl

@[go_sem] theorem wrap_id (n : Int) (h1 : -9223372036854775808 ≤ n) (h2 : n ≤ 9223372036854775807) : IntKind.i64.wrap n = n := by
  have e : IntKind.i64.wrap n = if n % 18446744073709551616 ≥ 9223372036854775808 then n % 18446744073709551616 - 18446744073709551616 else n % 18446744073709551616 := by
    by_cases h : n % 18446744073709551616 ≥ 9223372036854775808 <;> simp [IntKind.wrap, IntKind.bits, IntKind.signed, h]
  rw [e]
  split <;> omega

attribute [go_sem] Int.cast_ofNat_Int List.range_zero Option.isSome_some Option.getD_some Option.getD_none

theorem mixed : Tryd.prog.follows .mixedOrders = true := by kernel_rfl

theorem gSpace : Tryd.prog.globalNamed "strings.asciiSpace" = some 1 := by kernel_rfl
theorem space_stays (w w' : World) (h : Lib.TabIs Tryd.prog w "strings.asciiSpace" .u8 Lib.asciiSpaceTab) (hb : ∀ b, b < 1 + 1 → w'.heap[b]? = w.heap[b]?) : Lib.TabIs Tryd.prog w' "strings.asciiSpace" .u8 Lib.asciiSpaceTab := by
  unfold Lib.TabIs World.var? at *
  rw [gSpace] at h ⊢
  simp only [Option.bind_some] at h ⊢
  rw [hb _ (Nat.lt_succ_self _)]
  exact h
/-- What is fixed: the program, and the table of white space that its start-up code lays. -/
noncomputable def Cx : Ctx := { P := Tryd.prog, gs := 1 + 1, G := fun w => Lib.TabIs Tryd.prog w "strings.asciiSpace" .u8 Lib.asciiSpaceTab, hG := fun w w' h hb _ => space_stays w w' h hb, mixed := mixed }
@[go_sem] theorem Cx_P : Cx.P = Tryd.prog := rfl

end Go.Proofs.YtjbhpoolghfhiaaDoor
