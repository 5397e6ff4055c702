/- What rewriting unfolds when code is run over states; what is fixed for this claim. No condition: attributes and closed facts. -/
import Derived.Test.YtjbhpoolghfhiaaAvF
namespace Go.Proofs.Ytjbhpoolghfhiaa
set_option linter.unusedVariables false
set_option linter.unusedSimpArgs false
open Go

attribute [go_sem ↓] opG opK valK
attribute [go_sem] findC callT lendAs lendC lendL lendR resG FinK resV flatAV flatL flatR within withinL
attribute [go_sem] lookN addN dstOk skipped ev lookT putT lookR putR St.set St.upd St.cur binAV binI binS eqOr unAV convAV pickAV eq1 eqCells floatOrd wk
attribute [go_sem] rd avCells okCell okCells splice loadK fillK rowsK srcK okRows appendK lenAV indexAddrK fieldAddrK derefK storeK nilCheckK boundAV sliceK roK argT
attribute [go_sem] List.length_cons List.length_nil List.take_succ_cons List.take_zero List.take_nil List.drop_succ_cons List.drop_zero List.map_cons List.map_nil List.getD_cons_zero List.getD_cons_succ List.append_nil List.nil_append List.cons_append List.isEmpty_nil List.isEmpty_cons Bool.true_or Bool.false_or Bool.or_true Bool.or_false

@[go_sem] theorem oc_int (k : IntKind) (n : Int) : (Value.int k n).oneCell' = true := rfl
@[go_sem] theorem oc_bool (b : Bool) : (Value.bool b).oneCell' = true := rfl
@[go_sem] theorem oc_string (b : ByteArray) : (Value.string b).oneCell' = true := rfl
@[go_sem] theorem oc_float (k : FloatKind) (b : Nat) : (Value.float k b).oneCell' = true := rfl
@[go_sem] theorem oc_slice (a : Option Addr) (n c : Nat) : (Value.slice a n c).oneCell' = true := rfl
@[go_sem] theorem oc_pointer (a : Option Addr) : (Value.pointer a).oneCell' = true := rfl
@[go_sem] theorem oc_map (a : Option Nat) : (Value.map a).oneCell' = true := rfl

@[go_sem] theorem lendA_agg (st : St) (cs : List AV) (K : List Loc → AV → Prop) : lendA st (.agg cs) K = lendL (lendC 4 st) cs fun l ys => K l (.agg (ys.map .r)) := rfl
@[go_sem] theorem lendA_any (st : St) (K : List Loc → AV → Prop) : lendA st .any K = K [] .any := rfl
@[go_sem] theorem lendA_r (st : St) (x : RV) (K : List Loc → AV → Prop) : lendA st (.r x) K = K [] (.r x) := rfl
@[go_sem] theorem lendA_os (st : St) (k ver : Nat) (K : List Loc → AV → Prop) : lendA st (.os k ver) K = lendC 4 st (.os k ver) fun l y => K l (.r y) := rfl
@[go_sem] theorem lendA_rf (st : St) (k ver off : Nat) (K : List Loc → AV → Prop) : lendA st (.rf k ver off) K = lendC 4 st (.rf k ver off) fun l y => K l (.r y) := rfl

theorem mixed : Try.prog.follows .mixedOrders = true := by kernel_rfl

/-- What is fixed: the program. -/
noncomputable def Cx : Ctx := { P := Try.prog, gs := 0, G := fun _ => True, hG := fun _ _ _ _ _ => trivial, mixed := mixed }
@[go_sem] theorem Cx_P : Cx.P = Try.prog := rfl

end Go.Proofs.Ytjbhpoolghfhiaa
