/- What the machine's values may be. No condition: contracts of the program's functions. -/
import Derived.Test.YtjbhpoolghfhiaaDoorAvS
namespace Go.Proofs.YtjbhpoolghfhiaaDoor
set_option linter.unusedVariables false
set_option linter.unusedSimpArgs false
set_option maxHeartbeats 10000000
open Go
set_option maxRecDepth 10000

theorem within_c (n lo hi : Int) : FC Cx 41 [Iv n, Iv lo, Iv hi] [] (Bv (decide (lo ≤ n ∧ n ≤ hi))) [] := by
  refine FCp_of [] Tryd.func41 rfl Tryd.ntmps41 (by simp) Tryd.results41 rfl ?_
  apply Rn_st; (intro K0; simp only [go_sem]; exact ⟨id⟩)
  (any_goals refine go lv41 0 ?_)
  repeat' (first | (refine Br.go (fun h h' => ?_) (fun h h' => ?_)) | (refine Br.mk (fun h => ?_) (fun h => ?_)))
  all_goals (try simp only [go_sem])
  all_goals simp_all
  all_goals omega
/-- How calls of this function are met. -/
def sp_within (args : List AV) (K : AV → Prop) : Prop := match args with
  | [.r (.v (.int .i64 n)), .r (.v (.int .i64 lo)), .r (.v (.int .i64 hi))] => K (Bv (decide (lo ≤ n ∧ n ≤ hi)))
  | _ => False
theorem sp_within_ok (args : List AV) (K : AV → Prop) (h : sp_within args K) : ∃ r, CallOk Cx 41 args r ∧ K r := by
  unfold sp_within at h
  split at h
  · exact ⟨_, CallOk_of (within_c _ _ _) en41 rfl rfl, h⟩
  · exact h.elim
noncomputable def ct_within : Ct Cx := .pure 41 sp_within sp_within_ok
@[go_sem] theorem ct_within_g : ct_within.g = 41 := rfl
@[go_sem] theorem ct_within_run (c : Call) (fop : Operand) (caps : List RV) (o : Oper) (st : St) (K : List Loc → List (Loc × Cont) → Prop) : ct_within.run c fop caps o st K = callT Cx sp_within c fop caps o st K := rfl
@[go_sem] theorem sp_within_eq (args : List AV) (K : AV → Prop) : sp_within args K = (match args with
    | [.r (.v (.int .i64 n)), .r (.v (.int .i64 lo)), .r (.v (.int .i64 hi))] => K (Bv (decide (lo ≤ n ∧ n ≤ hi)))
    | _ => False) := rfl

/-- A value's float. -/
def fl (n : Int) : Nat := (IntKind.u64.wrap n).toNat

theorem frombits_c (b : Int) : CallOk Cx 55 [.r (.v (.int .u64 b))] (Fv b.toNat) := by
  refine CallOk_extern (e := Extern.MathFloatBits.float64frombits) Tryd.func55 (by kernel_rfl) (by kernel_rfl) (by kernel_rfl) (by kernel_rfl) ?_
  intro cur g w av vs h
  obtain ⟨h1, h2⟩ := h
  have hv : vs = #[.int .u64 b] := by
    match vs, h1 with
    | ⟨[v]⟩, _ =>
      have h3 := h2 0 _ v rfl rfl
      cases h3 with | r h3 => cases h3; rfl
  subst hv
  exact ⟨_, rfl, fun _ _ => .r (.v _)⟩
/-- How calls of this function are met. -/
def sp_frombits (args : List AV) (K : AV → Prop) : Prop := match args with
  | [.r (.v (.int .u64 b))] => K (Fv b.toNat)
  | _ => False
theorem sp_frombits_ok (args : List AV) (K : AV → Prop) (h : sp_frombits args K) : ∃ r, CallOk Cx 55 args r ∧ K r := by
  unfold sp_frombits at h
  split at h
  · exact ⟨_, frombits_c _, h⟩
  · exact h.elim
noncomputable def ct_frombits : Ct Cx := .pure 55 sp_frombits sp_frombits_ok
@[go_sem] theorem ct_frombits_g : ct_frombits.g = 55 := rfl
@[go_sem] theorem ct_frombits_run (c : Call) (fop : Operand) (caps : List RV) (o : Oper) (st : St) (K : List Loc → List (Loc × Cont) → Prop) : ct_frombits.run c fop caps o st K = callT Cx sp_frombits c fop caps o st K := rfl
@[go_sem] theorem sp_frombits_eq (args : List AV) (K : AV → Prop) : sp_frombits args K = (match args with
    | [.r (.v (.int .u64 b))] => K (Fv b.toNat)
    | _ => False) := rfl

theorem float_c (k n : Int) : FC Cx 32 [VV k n] [] (Fv (fl n)) [] := by
  refine FCp_of [ct_frombits] Tryd.func32 rfl Tryd.ntmps32 (by simp) Tryd.results32 rfl ?_
  apply Rn_st; (intro K0; simp only [go_sem]; exact ⟨id⟩)
  (any_goals refine go lv32 0 ?_)
  repeat' (first | (refine Br.go (fun h h' => ?_) (fun h h' => ?_)) | (refine Br.mk (fun h => ?_) (fun h => ?_)))
  all_goals (try simp only [go_sem])
  rfl
/-- How calls of this function are met. -/
def sp_float (args : List AV) (K : AV → Prop) : Prop := match args with
  | [.agg [.r (.v (.int .i64 k)), .r (.v (.int .i64 n))]] => K (Fv (fl n))
  | _ => False
theorem sp_float_ok (args : List AV) (K : AV → Prop) (h : sp_float args K) : ∃ r, CallOk Cx 32 args r ∧ K r := by
  unfold sp_float at h
  split at h
  · exact ⟨_, CallOk_of (float_c _ _) en32 rfl rfl, h⟩
  · exact h.elim
noncomputable def ct_float : Ct Cx := .pure 32 sp_float sp_float_ok
@[go_sem] theorem ct_float_g : ct_float.g = 32 := rfl
@[go_sem] theorem ct_float_run (c : Call) (fop : Operand) (caps : List RV) (o : Oper) (st : St) (K : List Loc → List (Loc × Cont) → Prop) : ct_float.run c fop caps o st K = callT Cx sp_float c fop caps o st K := rfl
@[go_sem] theorem sp_float_eq (args : List AV) (K : AV → Prop) : sp_float args K = (match args with
    | [.agg [.r (.v (.int .i64 k)), .r (.v (.int .i64 n))]] => K (Fv (fl n))
    | _ => False) := rfl

/-- A number's float is equal to itself. -/
def isNum (b : Nat) : Bool := FloatKind.f64.format.order b b == some .eq

def rightF (k n : Int) : Bool :=
  if k = 0 then decide (n = 0) else if k = 1 then decide (0 ≤ n ∧ n ≤ 1) else if k = 2 then decide (-2147483648 ≤ n ∧ n ≤ 2147483647) else
  if k = 3 then isNum (fl n) || decide (n = 9221120237041090561) else if k = 4 ∨ k = 5 then decide (0 ≤ n) else if k = 6 then decide (0 ≤ n ∧ n ≤ 15) else false

theorem right_c (k n : Int) : FC Cx 11 [VV k n] [] (Bv (rightF k n)) [] := by
  refine FCp_of [ct_within, ct_float] Tryd.func11 rfl Tryd.ntmps11 (by simp) Tryd.results11 rfl ?_
  apply Rn_st; (intro K0; simp only [go_sem]; exact ⟨id⟩)
  (any_goals refine go lv11 0 ?_)
  repeat' (first | (refine Br.go (fun h h' => ?_) (fun h h' => ?_)) | (refine Br.mk (fun h => ?_) (fun h => ?_)))
  all_goals (try simp only [go_sem])
  all_goals (first | (simp_all [rightF, isNum]; done) | ((try simp only [rightF, isNum]); (repeat' split) <;> (first | (simp_all [rightF, isNum]; done) | (simp_all [rightF, isNum]; omega))))
/-- How calls of this function are met. -/
def sp_right (args : List AV) (K : AV → Prop) : Prop := match args with
  | [.agg [.r (.v (.int .i64 k)), .r (.v (.int .i64 n))]] => K (Bv (rightF k n))
  | _ => False
theorem sp_right_ok (args : List AV) (K : AV → Prop) (h : sp_right args K) : ∃ r, CallOk Cx 11 args r ∧ K r := by
  unfold sp_right at h
  split at h
  · exact ⟨_, CallOk_of (right_c _ _) en11 rfl rfl, h⟩
  · exact h.elim
noncomputable def ct_right : Ct Cx := .pure 11 sp_right sp_right_ok
@[go_sem] theorem ct_right_g : ct_right.g = 11 := rfl
@[go_sem] theorem ct_right_run (c : Call) (fop : Operand) (caps : List RV) (o : Oper) (st : St) (K : List Loc → List (Loc × Cont) → Prop) : ct_right.run c fop caps o st K = callT Cx sp_right c fop caps o st K := rfl
@[go_sem] theorem sp_right_eq (args : List AV) (K : AV → Prop) : sp_right args K = (match args with
    | [.agg [.r (.v (.int .i64 k)), .r (.v (.int .i64 n))]] => K (Bv (rightF k n))
    | _ => False) := rfl

def isF : AV → Bool
  | .r (.v (.float .f64 _)) => true
  | .r .nan => true
  | _ => false
@[go_sem] theorem isF_v (b : Nat) : isF (Fv b) = true := rfl
@[go_sem] theorem isF_op (op : BinOp) (a b : Nat) : isF (floatAV op a b) = true := by unfold floatAV; split <;> rfl
@[go_sem] theorem lendA_float (st : St) (op : BinOp) (a b : Nat) (K : List Loc → AV → Prop) : lendA st (floatAV op a b) K = K [] (floatAV op a b) := by unfold floatAV; split <;> rfl
end Go.Proofs.YtjbhpoolghfhiaaDoor
