/- What the document says of right values. No condition: contracts of the document's functions. -/
import Derived.Test.YtjbhpoolghfhiaaDoorRt1
namespace Go.Proofs.YtjbhpoolghfhiaaDoor
set_option linter.unusedVariables false
set_option linter.unusedSimpArgs false
set_option maxHeartbeats 10000000
open Go
set_option maxRecDepth 10000

theorem rBetween_c (n lo hi : Int) : FC Cx 26 [Iv n, Iv lo, Iv hi] [] (Bv (decide (lo ≤ n ∧ n ≤ hi))) [] := by
  refine FCp_of [] Tryd.func26 rfl Tryd.ntmps26 (by simp) Tryd.results26 rfl ?_
  apply Rn_st; (intro K0; simp only [go_sem]; exact ⟨id⟩)
  (any_goals refine go lv26 0 ?_)
  repeat' (first | (refine Br.go (fun h h' => ?_) (fun h h' => ?_)) | (refine Br.mk (fun h => ?_) (fun h => ?_)))
  all_goals (try simp only [go_sem])
  all_goals simp_all
  all_goals omega
/-- How calls of this function are met. -/
def sp_rBetween (args : List AV) (K : AV → Prop) : Prop := match args with
  | [.r (.v (.int .i64 n)), .r (.v (.int .i64 lo)), .r (.v (.int .i64 hi))] => K (Bv (decide (lo ≤ n ∧ n ≤ hi)))
  | _ => False
theorem sp_rBetween_ok (args : List AV) (K : AV → Prop) (h : sp_rBetween args K) : ∃ r, CallOk Cx 26 args r ∧ K r := by
  unfold sp_rBetween at h
  split at h
  · exact ⟨_, CallOk_of (rBetween_c _ _ _) en26 rfl rfl, h⟩
  · exact h.elim
noncomputable def ct_rBetween : Ct Cx := .pure 26 sp_rBetween sp_rBetween_ok
@[go_sem] theorem ct_rBetween_g : ct_rBetween.g = 26 := rfl
@[go_sem] theorem ct_rBetween_run (c : Call) (fop : Operand) (caps : List RV) (o : Oper) (st : St) (K : List Loc → List (Loc × Cont) → Prop) : ct_rBetween.run c fop caps o st K = callT Cx sp_rBetween c fop caps o st K := rfl
@[go_sem] theorem sp_rBetween_eq (args : List AV) (K : AV → Prop) : sp_rBetween args K = (match args with
    | [.r (.v (.int .i64 n)), .r (.v (.int .i64 lo)), .r (.v (.int .i64 hi))] => K (Bv (decide (lo ≤ n ∧ n ≤ hi)))
    | _ => False) := rfl

theorem rFloatOf_c (k n : Int) : FC Cx 40 [VV k n] [] (Fv (fl n)) [] := by
  refine FCp_of [ct_frombits] Tryd.func40 rfl Tryd.ntmps40 (by simp) Tryd.results40 rfl ?_
  apply Rn_st; (intro K0; simp only [go_sem]; exact ⟨id⟩)
  (any_goals refine go lv40 0 ?_)
  repeat' (first | (refine Br.go (fun h h' => ?_) (fun h h' => ?_)) | (refine Br.mk (fun h => ?_) (fun h => ?_)))
  all_goals (try simp only [go_sem])
  rfl
/-- How calls of this function are met. -/
def sp_rFloatOf (args : List AV) (K : AV → Prop) : Prop := match args with
  | [.agg [.r (.v (.int .i64 k)), .r (.v (.int .i64 n))]] => K (Fv (fl n))
  | _ => False
theorem sp_rFloatOf_ok (args : List AV) (K : AV → Prop) (h : sp_rFloatOf args K) : ∃ r, CallOk Cx 40 args r ∧ K r := by
  unfold sp_rFloatOf at h
  split at h
  · exact ⟨_, CallOk_of (rFloatOf_c _ _) en40 rfl rfl, h⟩
  · exact h.elim
noncomputable def ct_rFloatOf : Ct Cx := .pure 40 sp_rFloatOf sp_rFloatOf_ok
@[go_sem] theorem ct_rFloatOf_g : ct_rFloatOf.g = 40 := rfl
@[go_sem] theorem ct_rFloatOf_run (c : Call) (fop : Operand) (caps : List RV) (o : Oper) (st : St) (K : List Loc → List (Loc × Cont) → Prop) : ct_rFloatOf.run c fop caps o st K = callT Cx sp_rFloatOf c fop caps o st K := rfl
@[go_sem] theorem sp_rFloatOf_eq (args : List AV) (K : AV → Prop) : sp_rFloatOf args K = (match args with
    | [.agg [.r (.v (.int .i64 k)), .r (.v (.int .i64 n))]] => K (Fv (fl n))
    | _ => False) := rfl

theorem isNaN_c (b : Nat) : FC Cx 42 [Fv b] [] (Bv (!isNum b)) [] := by
  refine FCp_of [] Tryd.func42 rfl Tryd.ntmps42 (by simp) Tryd.results42 rfl ?_
  apply Rn_st; (intro K0; simp only [go_sem]; exact ⟨id⟩)
  (any_goals refine go lv42 0 ?_)
  repeat' (first | (refine Br.go (fun h h' => ?_) (fun h h' => ?_)) | (refine Br.mk (fun h => ?_) (fun h => ?_)))
  all_goals (try simp only [go_sem])
  all_goals rfl
theorem isNaNnan_c : FC Cx 42 [.r .nan] [] (Bv true) [] := by
  refine FCp_of [] Tryd.func42 rfl Tryd.ntmps42 (by simp) Tryd.results42 rfl ?_
  apply Rn_st; (intro K0; simp only [go_sem]; exact ⟨id⟩)
  (any_goals refine go lv42 0 ?_)
  repeat' (first | (refine Br.go (fun h h' => ?_) (fun h h' => ?_)) | (refine Br.mk (fun h => ?_) (fun h => ?_)))
  all_goals (try simp only [go_sem])
  all_goals rfl
def nanV : AV → Bool
  | .r (.v (.float .f64 b)) => !isNum b
  | _ => true
@[go_sem] theorem nanV_v (b : Nat) : nanV (Fv b) = !isNum b := rfl
theorem isNaN_c' (x : AV) (h : isF x = true) : FC Cx 42 [x] [] (Bv (nanV x)) [] := by
  unfold isF at h
  split at h
  · exact isNaN_c _
  · exact isNaNnan_c
  · cases h
def sp_isNaN (args : List AV) (K : AV → Prop) : Prop := match args with
  | [x] => isF x = true ∧ K (Bv (nanV x))
  | _ => False
theorem sp_isNaN_ok (args : List AV) (K : AV → Prop) (h : sp_isNaN args K) : ∃ r, CallOk Cx 42 args r ∧ K r := by
  unfold sp_isNaN at h
  split at h
  · rename_i x
    refine ⟨_, CallOk_of (isNaN_c' x h.1) en42 ?_ rfl, h.2⟩
    have := h.1
    unfold isF at this
    split at this
    · rfl
    · rfl
    · cases this
  · exact h.elim
noncomputable def ct_isNaN : Ct Cx := .pure 42 sp_isNaN sp_isNaN_ok
@[go_sem] theorem ct_isNaN_g : ct_isNaN.g = 42 := rfl
@[go_sem] theorem ct_isNaN_run (c : Call) (fop : Operand) (caps : List RV) (o : Oper) (st : St) (K : List Loc → List (Loc × Cont) → Prop) : ct_isNaN.run c fop caps o st K = callT Cx sp_isNaN c fop caps o st K := rfl
@[go_sem] theorem sp_isNaN_eq (args : List AV) (K : AV → Prop) : sp_isNaN args K = (match args with
    | [x] => isF x = true ∧ K (Bv (nanV x))
    | _ => False) := rfl

theorem rRight_c (k n : Int) : FC Cx 12 [VV k n] [] (Bv (rightF k n)) [] := by
  refine FCp_of [ct_rBetween, ct_rFloatOf, ct_isNaN] Tryd.func12 rfl Tryd.ntmps12 (by simp) Tryd.results12 rfl ?_
  apply Rn_st; (intro K0; simp only [go_sem]; exact ⟨id⟩)
  (any_goals refine go lv12 0 ?_)
  repeat' (first | (refine Br.go (fun h h' => ?_) (fun h h' => ?_)) | (refine Br.mk (fun h => ?_) (fun h => ?_)))
  all_goals (try simp only [go_sem])
  all_goals (simp only [rightF]; simp_all)
  all_goals first | omega | (rw [Bool.eq_iff_iff]; simp; omega)

/-- How calls of this function are met. -/
def sp_rRight (args : List AV) (K : AV → Prop) : Prop := match args with
  | [.agg [.r (.v (.int .i64 k)), .r (.v (.int .i64 n))]] => K (Bv (rightF k n))
  | _ => False
theorem sp_rRight_ok (args : List AV) (K : AV → Prop) (h : sp_rRight args K) : ∃ r, CallOk Cx 12 args r ∧ K r := by
  unfold sp_rRight at h
  split at h
  · exact ⟨_, CallOk_of (rRight_c _ _) en12 rfl rfl, h⟩
  · exact h.elim
noncomputable def ct_rRight : Ct Cx := .pure 12 sp_rRight sp_rRight_ok
@[go_sem] theorem ct_rRight_g : ct_rRight.g = 12 := rfl
@[go_sem] theorem ct_rRight_run (c : Call) (fop : Operand) (caps : List RV) (o : Oper) (st : St) (K : List Loc → List (Loc × Cont) → Prop) : ct_rRight.run c fop caps o st K = callT Cx sp_rRight c fop caps o st K := rfl
@[go_sem] theorem sp_rRight_eq (args : List AV) (K : AV → Prop) : sp_rRight args K = (match args with
    | [.agg [.r (.v (.int .i64 k)), .r (.v (.int .i64 n))]] => K (Bv (rightF k n))
    | _ => False) := rfl

end Go.Proofs.YtjbhpoolghfhiaaDoor
