/- What the machine's operations of one and of two values come to. No condition: contracts of the program's functions. -/
import Derived.Test.YtjbhpoolghfhiaaDoorOps1
namespace Go.Proofs.YtjbhpoolghfhiaaDoor
set_option linter.unusedVariables false
set_option linter.unusedSimpArgs false
set_option maxHeartbeats 10000000
open Go
set_option maxRecDepth 10000

theorem floats_c (op : Int) (a b : Nat) : FC Cx 34 [Iv op, Fv a, Fv b] [] (tr (floatsF op a b)) [] := by
  refine FCp_of [ct_of, ct_ordF, ct_truth] Tryd.func34 rfl Tryd.ntmps34 (by simp) Tryd.results34 rfl ?_
  apply Rn_st; (intro K0; simp only [go_sem, ↓reduceIte, Nat.reduceEqDiff, Nat.reduceAdd, Nat.reduceSub, Nat.reduceMul, Nat.reduceLT, Nat.reduceLeDiff, reduceCtorEq, Int.reduceLT, Int.reduceLE, Int.reduceAdd, Int.reduceSub, Int.reduceMul, Int.reduceToNat, Int.reduceNeg, Int.reduceEq]; exact ⟨id⟩)
  repeat' (first
    | (focus (intro K0; (try simp only [go_sem, ↓reduceIte, Nat.reduceEqDiff, Nat.reduceAdd, Nat.reduceSub, Nat.reduceMul, Nat.reduceLT, Nat.reduceLeDiff, reduceCtorEq, Int.reduceLT, Int.reduceLE, Int.reduceAdd, Int.reduceSub, Int.reduceMul, Int.reduceToNat, Int.reduceNeg, Int.reduceEq, *]); (first | exact ⟨id⟩ | (refine ⟨fun h => ?_⟩; (repeat' (first | exact h | refine And.intro ?_ ?_ | omega)); done))))
    | (refine Rn_seq ?_)
    | (refine Rn_block ?_)
    | (apply Rn_region' [(0, [0, 1, 2]), (1, [0, 1, 2, 6]), (2, [0, 1, 2, 6, 8]), (3, [1, 2, 6]), (4, [0, 1, 2, 6, 8]), (5, [1, 2, 6]), (6, [0, 1, 2, 6, 8]), (7, [1, 2, 6]), (8, [0, 1, 2, 6, 8]), (9, [1, 2, 6]), (10, [0, 1, 2, 6, 8]), (11, [1, 2, 6]), (12, [0, 1, 2, 6])]; (exact rfl))
    | (refine Rn_region ?_)
    | (apply Rn_op'; (exact rfl))
    | (refine Rn_o_nil ?_)
    | (apply Rn_g; (exact rfl); (exact rfl); (focus (intro K0; (try simp only [lookT, ev, Nat.reduceEqDiff, ↓reduceIte]); exact ⟨id⟩)))
    | (with_reducible (apply RnG_yes))
    | ((with_reducible (apply RnG_t_no)); (exact rfl))
    | ((with_reducible (apply RnG_f_no)); (exact rfl))
    | ((with_reducible (apply RnG_un)); (exact rfl))
    | (apply RnG_never; (focus (intro K0; (try simp only [go_sem, Nat.reduceEqDiff, ↓reduceIte]); exact ⟨id⟩)); (exact rfl))
    | (apply RnG_lazy; (exact rfl); (focus (intro K0; (try simp only [go_sem, Nat.reduceEqDiff, ↓reduceIte]); exact ⟨id⟩)); (focus (first | (simp only [Nat.reduceLT]; done) | omega)); (focus (intro hw0; (try simp only [Bool.and_eq_true, Bool.not_eq_true', beq_true', beq_false'] at hw0); (focus (intro K0; (try simp only [go_sem, ↓reduceIte, Nat.reduceEqDiff, Nat.reduceAdd, Nat.reduceSub, Nat.reduceMul, Nat.reduceLT, Nat.reduceLeDiff, reduceCtorEq, Int.reduceLT, Int.reduceLE, Int.reduceAdd, Int.reduceSub, Int.reduceMul, Int.reduceToNat, Int.reduceNeg, Int.reduceEq, *]); (first | exact ⟨id⟩ | (refine ⟨fun h => ?_⟩; (repeat' (first | exact h | refine And.intro ?_ ?_ | omega)); done)))))))
    | (apply Rn_c; (focus (intro K0; (try simp only [lookT, ev, Nat.reduceEqDiff, ↓reduceIte]); exact ⟨id⟩)))
    | (with_reducible (refine RnC_t ?_))
    | (with_reducible (refine RnC_f ?_))
    | (refine Rn_skip ?_)
    | (refine Rn_exit rfl ?_)
    | (refine Rn_b ?_)
    | (apply Rn_draw' [(0, [0, 1, 2]), (1, [0, 1, 2, 6]), (2, [0, 1, 2, 6, 8]), (3, [1, 2, 6]), (4, [0, 1, 2, 6, 8]), (5, [1, 2, 6]), (6, [0, 1, 2, 6, 8]), (7, [1, 2, 6]), (8, [0, 1, 2, 6, 8]), (9, [1, 2, 6]), (10, [0, 1, 2, 6, 8]), (11, [1, 2, 6]), (12, [0, 1, 2, 6])]; (exact rfl))
    | (refine Rn_draw ?_)
    | (apply Rd_op'; (exact rfl))
    | (refine Rd_nil (by kernel_rfl) ?_)
    | (apply Rd_g; (exact rfl); (exact rfl); (focus (intro K0; (try simp only [lookT, ev, Nat.reduceEqDiff, ↓reduceIte]); exact ⟨id⟩)))
    | (with_reducible (apply RdG_yes))
    | ((with_reducible (apply RdG_t_no)); (exact rfl))
    | ((with_reducible (apply RdG_f_no)); (exact rfl))
    | ((with_reducible (apply RdG_un)); (exact rfl))
    | (apply RdG_never; (focus (intro K0; (try simp only [go_sem, Nat.reduceEqDiff, ↓reduceIte]); exact ⟨id⟩)); (exact rfl))
    | (apply RdG_lazy; (exact rfl); (focus (intro K0; (try simp only [go_sem, Nat.reduceEqDiff, ↓reduceIte]); exact ⟨id⟩)); (focus (first | (simp only [Nat.reduceLT]; done) | omega)); (focus (intro hw0; (try simp only [Bool.and_eq_true, Bool.not_eq_true', beq_true', beq_false'] at hw0); (focus (intro K0; (try simp only [go_sem, ↓reduceIte, Nat.reduceEqDiff, Nat.reduceAdd, Nat.reduceSub, Nat.reduceMul, Nat.reduceLT, Nat.reduceLeDiff, reduceCtorEq, Int.reduceLT, Int.reduceLE, Int.reduceAdd, Int.reduceSub, Int.reduceMul, Int.reduceToNat, Int.reduceNeg, Int.reduceEq, *]); (first | exact ⟨id⟩ | (refine ⟨fun h => ?_⟩; (repeat' (first | exact h | refine And.intro ?_ ?_ | omega)); done)))))))
    | ((with_reducible (first | refine RnG_split (fun h => ?_) (fun h => ?_) | refine RdG_split (fun h => ?_) (fun h => ?_) | refine RnC_split (fun h => ?_) (fun h => ?_))) <;> (have h' := h) <;> (try simp only [decide_eq_true_eq, decide_eq_false_iff_not, Bool.not_eq_true', Bool.not_eq_false', Bool.and_eq_true, Bool.or_eq_true, Bool.or_eq_false_iff, beq_iff_eq, bne_iff_ne, ne_eq, Bool.not_true, Bool.not_false, not_false_eq_true, reduceCtorEq, beq_eq_false_iff_ne, bne_eq_false_iff_eq] at h') <;> (first | apply Rn_st | apply Rd_st))
    | (refine Rn_out_ck rfl rfl ?_)
    | (refine Rn_ret_ck ?_)
    | (refine Rn_ret ?_)
    | (refine Rn_nil_then ?_)
    | (refine LoopN_step (T := [ct_of, ct_ordF, ct_truth]) ?_)
    | (refine Rn_nil ?_))
  all_goals (try simp only [go_sem, ↓reduceIte, Nat.reduceEqDiff, Nat.reduceAdd, Nat.reduceSub, Nat.reduceMul, Nat.reduceLT, Nat.reduceLeDiff, reduceCtorEq, Int.reduceLT, Int.reduceLE, Int.reduceAdd, Int.reduceSub, Int.reduceMul, Int.reduceToNat, Int.reduceNeg, Int.reduceEq])
  all_goals (first | (simp_all [floatsF, boolF, fOrd]; done) | ((try simp only [floatsF, boolF, fOrd]); (repeat' split) <;> (first | (simp_all [floatsF, boolF, fOrd]; done) | (simp_all [floatsF, boolF, fOrd]; omega))))
/-- How calls of this function are met. -/
def sp_floats (args : List AV) (K : AV → Prop) : Prop := match args with
  | [.r (.v (.int .i64 op)), .r (.v (.float .f64 a)), .r (.v (.float .f64 b))] => K (tr (floatsF op a b))
  | _ => False
theorem sp_floats_ok (args : List AV) (K : AV → Prop) (h : sp_floats args K) : ∃ r, CallOk Cx 34 args r ∧ K r := by
  unfold sp_floats at h
  split at h
  · exact ⟨_, CallOk_of (floats_c _ _ _) en34 rfl rfl, h⟩
  · exact h.elim
noncomputable def ct_floats : Ct Cx := .pure 34 sp_floats sp_floats_ok
@[go_sem] theorem ct_floats_g : ct_floats.g = 34 := rfl
@[go_sem] theorem ct_floats_run (c : Call) (fop : Operand) (caps : List RV) (o : Oper) (st : St) (K : List Loc → List (Loc × Cont) → Prop) : ct_floats.run c fop caps o st K = callT Cx sp_floats c fop caps o st K := rfl
@[go_sem] theorem sp_floats_eq (args : List AV) (K : AV → Prop) : sp_floats args K = (match args with
    | [.r (.v (.int .i64 op)), .r (.v (.float .f64 a)), .r (.v (.float .f64 b))] => K (tr (floatsF op a b))
    | _ => False) := rfl

def unaryF (op k n : Int) : Int × Int × Int :=
  if op = 11 then boolF (!truthF (takK k n) (takN k n)) else if op = 12 ∧ takK k n = 2 then wholeF (IntKind.i64.wrap (0 - takN k n)) else
  if op = 12 ∧ takK k n = 3 then (3, ofN (Op.negFloat .f64 (fl (takN k n))), -1) else (0, 0, 0)

theorem unary_c (op k n : Int) : FC Cx 7 [Iv op, VV k n] [] (tr (unaryF op k n)) [] := by
  refine FCp_of [ct_taken, ct_Truth, ct_truth, ct_whole, ct_float, ct_of, ct_fail] Tryd.func7 rfl Tryd.ntmps7 (by simp) Tryd.results7 rfl ?_
  apply Rn_st; (intro K0; simp only [go_sem, ↓reduceIte, Nat.reduceEqDiff, Nat.reduceAdd, Nat.reduceSub, Nat.reduceMul, Nat.reduceLT, Nat.reduceLeDiff, reduceCtorEq, Int.reduceLT, Int.reduceLE, Int.reduceAdd, Int.reduceSub, Int.reduceMul, Int.reduceToNat, Int.reduceNeg, Int.reduceEq]; exact ⟨id⟩)
  repeat' (first
    | (focus (intro K0; (try simp only [go_sem, ↓reduceIte, Nat.reduceEqDiff, Nat.reduceAdd, Nat.reduceSub, Nat.reduceMul, Nat.reduceLT, Nat.reduceLeDiff, reduceCtorEq, Int.reduceLT, Int.reduceLE, Int.reduceAdd, Int.reduceSub, Int.reduceMul, Int.reduceToNat, Int.reduceNeg, Int.reduceEq, *]); (first | exact ⟨id⟩ | (refine ⟨fun h => ?_⟩; (repeat' (first | exact h | refine And.intro ?_ ?_ | omega)); done))))
    | (refine Rn_seq ?_)
    | (refine Rn_block ?_)
    | (apply Rn_region' [(0, [0, 1]), (1, [0, 3, 4]), (2, [0, 3, 4]), (3, [3, 4]), (4, [0, 3, 4]), (5, [3, 4]), (6, [0, 3, 4]), (7, [3, 4]), (8, [4])]; (exact rfl))
    | (refine Rn_region ?_)
    | (apply Rn_op'; (exact rfl))
    | (refine Rn_o_nil ?_)
    | (apply Rn_g; (exact rfl); (exact rfl); (focus (intro K0; (try simp only [lookT, ev, Nat.reduceEqDiff, ↓reduceIte]); exact ⟨id⟩)))
    | (with_reducible (apply RnG_yes))
    | ((with_reducible (apply RnG_t_no)); (exact rfl))
    | ((with_reducible (apply RnG_f_no)); (exact rfl))
    | ((with_reducible (apply RnG_un)); (exact rfl))
    | (apply RnG_never; (focus (intro K0; (try simp only [go_sem, Nat.reduceEqDiff, ↓reduceIte]); exact ⟨id⟩)); (exact rfl))
    | (apply RnG_lazy; (exact rfl); (focus (intro K0; (try simp only [go_sem, Nat.reduceEqDiff, ↓reduceIte]); exact ⟨id⟩)); (focus (first | (simp only [Nat.reduceLT]; done) | omega)); (focus (intro hw0; (try simp only [Bool.and_eq_true, Bool.not_eq_true', beq_true', beq_false'] at hw0); (focus (intro K0; (try simp only [go_sem, ↓reduceIte, Nat.reduceEqDiff, Nat.reduceAdd, Nat.reduceSub, Nat.reduceMul, Nat.reduceLT, Nat.reduceLeDiff, reduceCtorEq, Int.reduceLT, Int.reduceLE, Int.reduceAdd, Int.reduceSub, Int.reduceMul, Int.reduceToNat, Int.reduceNeg, Int.reduceEq, *]); (first | exact ⟨id⟩ | (refine ⟨fun h => ?_⟩; (repeat' (first | exact h | refine And.intro ?_ ?_ | omega)); done)))))))
    | (apply Rn_c; (focus (intro K0; (try simp only [lookT, ev, Nat.reduceEqDiff, ↓reduceIte]); exact ⟨id⟩)))
    | (with_reducible (refine RnC_t ?_))
    | (with_reducible (refine RnC_f ?_))
    | (refine Rn_skip ?_)
    | (refine Rn_exit rfl ?_)
    | (refine Rn_b ?_)
    | (apply Rn_draw' [(0, [0, 1]), (1, [0, 3, 4]), (2, [0, 3, 4]), (3, [3, 4]), (4, [0, 3, 4]), (5, [3, 4]), (6, [0, 3, 4]), (7, [3, 4]), (8, [4])]; (exact rfl))
    | (refine Rn_draw ?_)
    | (apply Rd_op'; (exact rfl))
    | (refine Rd_nil (by kernel_rfl) ?_)
    | (apply Rd_g; (exact rfl); (exact rfl); (focus (intro K0; (try simp only [lookT, ev, Nat.reduceEqDiff, ↓reduceIte]); exact ⟨id⟩)))
    | (with_reducible (apply RdG_yes))
    | ((with_reducible (apply RdG_t_no)); (exact rfl))
    | ((with_reducible (apply RdG_f_no)); (exact rfl))
    | ((with_reducible (apply RdG_un)); (exact rfl))
    | (apply RdG_never; (focus (intro K0; (try simp only [go_sem, Nat.reduceEqDiff, ↓reduceIte]); exact ⟨id⟩)); (exact rfl))
    | (apply RdG_lazy; (exact rfl); (focus (intro K0; (try simp only [go_sem, Nat.reduceEqDiff, ↓reduceIte]); exact ⟨id⟩)); (focus (first | (simp only [Nat.reduceLT]; done) | omega)); (focus (intro hw0; (try simp only [Bool.and_eq_true, Bool.not_eq_true', beq_true', beq_false'] at hw0); (focus (intro K0; (try simp only [go_sem, ↓reduceIte, Nat.reduceEqDiff, Nat.reduceAdd, Nat.reduceSub, Nat.reduceMul, Nat.reduceLT, Nat.reduceLeDiff, reduceCtorEq, Int.reduceLT, Int.reduceLE, Int.reduceAdd, Int.reduceSub, Int.reduceMul, Int.reduceToNat, Int.reduceNeg, Int.reduceEq, *]); (first | exact ⟨id⟩ | (refine ⟨fun h => ?_⟩; (repeat' (first | exact h | refine And.intro ?_ ?_ | omega)); done)))))))
    | ((with_reducible (first | refine RnG_split (fun h => ?_) (fun h => ?_) | refine RdG_split (fun h => ?_) (fun h => ?_) | refine RnC_split (fun h => ?_) (fun h => ?_))) <;> (have h' := h) <;> (try simp only [decide_eq_true_eq, decide_eq_false_iff_not, Bool.not_eq_true', Bool.not_eq_false', Bool.and_eq_true, Bool.or_eq_true, Bool.or_eq_false_iff, beq_iff_eq, bne_iff_ne, ne_eq, Bool.not_true, Bool.not_false, not_false_eq_true, reduceCtorEq, beq_eq_false_iff_ne, bne_eq_false_iff_eq] at h') <;> (first | apply Rn_st | apply Rd_st))
    | (refine Rn_out_ck rfl rfl ?_)
    | (refine Rn_ret_ck ?_)
    | (refine Rn_ret ?_)
    | (refine Rn_nil_then ?_)
    | (refine LoopN_step (T := [ct_taken, ct_Truth, ct_truth, ct_whole, ct_float, ct_of, ct_fail]) ?_)
    | (refine Rn_nil ?_))
  all_goals (try simp only [go_sem, ↓reduceIte, Nat.reduceEqDiff, Nat.reduceAdd, Nat.reduceSub, Nat.reduceMul, Nat.reduceLT, Nat.reduceLeDiff, reduceCtorEq, Int.reduceLT, Int.reduceLE, Int.reduceAdd, Int.reduceSub, Int.reduceMul, Int.reduceToNat, Int.reduceNeg, Int.reduceEq])
  all_goals (first | (simp_all [unaryF, boolF, ofV]; done) | ((try simp only [unaryF, boolF, ofV]); (repeat' split) <;> (first | (simp_all [unaryF, boolF, ofV]; done) | (simp_all [unaryF, boolF, ofV]; omega))))
/-- How calls of this function are met. -/
def sp_unary (args : List AV) (K : AV → Prop) : Prop := match args with
  | [.r (.v (.int .i64 op)), .agg [.r (.v (.int .i64 k)), .r (.v (.int .i64 n))]] => K (tr (unaryF op k n))
  | _ => False
theorem sp_unary_ok (args : List AV) (K : AV → Prop) (h : sp_unary args K) : ∃ r, CallOk Cx 7 args r ∧ K r := by
  unfold sp_unary at h
  split at h
  · exact ⟨_, CallOk_of (unary_c _ _ _) en7 rfl rfl, h⟩
  · exact h.elim
noncomputable def ct_unary : Ct Cx := .pure 7 sp_unary sp_unary_ok
@[go_sem] theorem ct_unary_g : ct_unary.g = 7 := rfl
@[go_sem] theorem ct_unary_run (c : Call) (fop : Operand) (caps : List RV) (o : Oper) (st : St) (K : List Loc → List (Loc × Cont) → Prop) : ct_unary.run c fop caps o st K = callT Cx sp_unary c fop caps o st K := rfl
@[go_sem] theorem sp_unary_eq (args : List AV) (K : AV → Prop) : sp_unary args K = (match args with
    | [.r (.v (.int .i64 op)), .agg [.r (.v (.int .i64 k)), .r (.v (.int .i64 n))]] => K (tr (unaryF op k n))
    | _ => False) := rfl

def binaryF (op k n l m : Int) : Int × Int × Int :=
  if takK k n = 3 ∧ takK l m = 3 then floatsF op (fl (takN k n)) (fl (takN l m)) else if op = 8 then boolF (decide (takK k n = takK l m) && decide (takN k n = takN l m)) else
  if takK k n = 2 ∧ takK l m = 2 then wholesF op (takN k n) (takN l m) else (0, 0, 0)

theorem binary_c (op k n l m : Int) : FC Cx 8 [Iv op, VV k n, VV l m] [] (tr (binaryF op k n l m)) [] := by
  refine FCp_of [ct_taken, ct_truth, ct_wholes, ct_floats, ct_float, ct_fail] Tryd.func8 rfl Tryd.ntmps8 (by simp) Tryd.results8 rfl ?_
  apply Rn_st; (intro K0; simp only [go_sem, ↓reduceIte, Nat.reduceEqDiff, Nat.reduceAdd, Nat.reduceSub, Nat.reduceMul, Nat.reduceLT, Nat.reduceLeDiff, reduceCtorEq, Int.reduceLT, Int.reduceLE, Int.reduceAdd, Int.reduceSub, Int.reduceMul, Int.reduceToNat, Int.reduceNeg, Int.reduceEq]; exact ⟨id⟩)
  repeat' (first
    | (focus (intro K0; (try simp only [go_sem, ↓reduceIte, Nat.reduceEqDiff, Nat.reduceAdd, Nat.reduceSub, Nat.reduceMul, Nat.reduceLT, Nat.reduceLeDiff, reduceCtorEq, Int.reduceLT, Int.reduceLE, Int.reduceAdd, Int.reduceSub, Int.reduceMul, Int.reduceToNat, Int.reduceNeg, Int.reduceEq, *]); (first | exact ⟨id⟩ | (refine ⟨fun h => ?_⟩; (repeat' (first | exact h | refine And.intro ?_ ?_ | omega)); done))))
    | (refine Rn_seq ?_)
    | (refine Rn_block ?_)
    | (apply Rn_region' [(0, [0, 1, 2]), (1, [0, 4, 5, 6]), (2, [0, 4, 5, 6]), (3, [0, 4, 5, 6]), (4, [0, 4, 5, 6]), (5, [4, 5, 6]), (6, [0, 4, 5, 6]), (7, [0, 4, 5, 6]), (8, [6])]; (exact rfl))
    | (refine Rn_region ?_)
    | (apply Rn_op'; (exact rfl))
    | (refine Rn_o_nil ?_)
    | (apply Rn_g; (exact rfl); (exact rfl); (focus (intro K0; (try simp only [lookT, ev, Nat.reduceEqDiff, ↓reduceIte]); exact ⟨id⟩)))
    | (with_reducible (apply RnG_yes))
    | ((with_reducible (apply RnG_t_no)); (exact rfl))
    | ((with_reducible (apply RnG_f_no)); (exact rfl))
    | ((with_reducible (apply RnG_un)); (exact rfl))
    | (apply RnG_never; (focus (intro K0; (try simp only [go_sem, Nat.reduceEqDiff, ↓reduceIte]); exact ⟨id⟩)); (exact rfl))
    | (apply RnG_lazy; (exact rfl); (focus (intro K0; (try simp only [go_sem, Nat.reduceEqDiff, ↓reduceIte]); exact ⟨id⟩)); (focus (first | (simp only [Nat.reduceLT]; done) | omega)); (focus (intro hw0; (try simp only [Bool.and_eq_true, Bool.not_eq_true', beq_true', beq_false'] at hw0); (focus (intro K0; (try simp only [go_sem, ↓reduceIte, Nat.reduceEqDiff, Nat.reduceAdd, Nat.reduceSub, Nat.reduceMul, Nat.reduceLT, Nat.reduceLeDiff, reduceCtorEq, Int.reduceLT, Int.reduceLE, Int.reduceAdd, Int.reduceSub, Int.reduceMul, Int.reduceToNat, Int.reduceNeg, Int.reduceEq, *]); (first | exact ⟨id⟩ | (refine ⟨fun h => ?_⟩; (repeat' (first | exact h | refine And.intro ?_ ?_ | omega)); done)))))))
    | (apply Rn_c; (focus (intro K0; (try simp only [lookT, ev, Nat.reduceEqDiff, ↓reduceIte]); exact ⟨id⟩)))
    | (with_reducible (refine RnC_t ?_))
    | (with_reducible (refine RnC_f ?_))
    | (refine Rn_skip ?_)
    | (refine Rn_exit rfl ?_)
    | (refine Rn_b ?_)
    | (apply Rn_draw' [(0, [0, 1, 2]), (1, [0, 4, 5, 6]), (2, [0, 4, 5, 6]), (3, [0, 4, 5, 6]), (4, [0, 4, 5, 6]), (5, [4, 5, 6]), (6, [0, 4, 5, 6]), (7, [0, 4, 5, 6]), (8, [6])]; (exact rfl))
    | (refine Rn_draw ?_)
    | (apply Rd_op'; (exact rfl))
    | (refine Rd_nil (by kernel_rfl) ?_)
    | (apply Rd_g; (exact rfl); (exact rfl); (focus (intro K0; (try simp only [lookT, ev, Nat.reduceEqDiff, ↓reduceIte]); exact ⟨id⟩)))
    | (with_reducible (apply RdG_yes))
    | ((with_reducible (apply RdG_t_no)); (exact rfl))
    | ((with_reducible (apply RdG_f_no)); (exact rfl))
    | ((with_reducible (apply RdG_un)); (exact rfl))
    | (apply RdG_never; (focus (intro K0; (try simp only [go_sem, Nat.reduceEqDiff, ↓reduceIte]); exact ⟨id⟩)); (exact rfl))
    | (apply RdG_lazy; (exact rfl); (focus (intro K0; (try simp only [go_sem, Nat.reduceEqDiff, ↓reduceIte]); exact ⟨id⟩)); (focus (first | (simp only [Nat.reduceLT]; done) | omega)); (focus (intro hw0; (try simp only [Bool.and_eq_true, Bool.not_eq_true', beq_true', beq_false'] at hw0); (focus (intro K0; (try simp only [go_sem, ↓reduceIte, Nat.reduceEqDiff, Nat.reduceAdd, Nat.reduceSub, Nat.reduceMul, Nat.reduceLT, Nat.reduceLeDiff, reduceCtorEq, Int.reduceLT, Int.reduceLE, Int.reduceAdd, Int.reduceSub, Int.reduceMul, Int.reduceToNat, Int.reduceNeg, Int.reduceEq, *]); (first | exact ⟨id⟩ | (refine ⟨fun h => ?_⟩; (repeat' (first | exact h | refine And.intro ?_ ?_ | omega)); done)))))))
    | ((with_reducible (first | refine RnG_split (fun h => ?_) (fun h => ?_) | refine RdG_split (fun h => ?_) (fun h => ?_) | refine RnC_split (fun h => ?_) (fun h => ?_))) <;> (have h' := h) <;> (try simp only [decide_eq_true_eq, decide_eq_false_iff_not, Bool.not_eq_true', Bool.not_eq_false', Bool.and_eq_true, Bool.or_eq_true, Bool.or_eq_false_iff, beq_iff_eq, bne_iff_ne, ne_eq, Bool.not_true, Bool.not_false, not_false_eq_true, reduceCtorEq, beq_eq_false_iff_ne, bne_eq_false_iff_eq] at h') <;> (first | apply Rn_st | apply Rd_st))
    | (refine Rn_out_ck rfl rfl ?_)
    | (refine Rn_ret_ck ?_)
    | (refine Rn_ret ?_)
    | (refine Rn_nil_then ?_)
    | (refine LoopN_step (T := [ct_taken, ct_truth, ct_wholes, ct_floats, ct_float, ct_fail]) ?_)
    | (refine Rn_nil ?_))
  all_goals (try simp only [go_sem, ↓reduceIte, Nat.reduceEqDiff, Nat.reduceAdd, Nat.reduceSub, Nat.reduceMul, Nat.reduceLT, Nat.reduceLeDiff, reduceCtorEq, Int.reduceLT, Int.reduceLE, Int.reduceAdd, Int.reduceSub, Int.reduceMul, Int.reduceToNat, Int.reduceNeg, Int.reduceEq])
  all_goals (first | (simp_all [binaryF, boolF]; done) | ((try simp only [binaryF, boolF]); (repeat' split) <;> (first | (simp_all [binaryF, boolF]; done) | (simp_all [binaryF, boolF]; omega))))
/-- How calls of this function are met. -/
def sp_binary (args : List AV) (K : AV → Prop) : Prop := match args with
  | [.r (.v (.int .i64 op)), .agg [.r (.v (.int .i64 k)), .r (.v (.int .i64 n))], .agg [.r (.v (.int .i64 l)), .r (.v (.int .i64 m))]] => K (tr (binaryF op k n l m))
  | _ => False
theorem sp_binary_ok (args : List AV) (K : AV → Prop) (h : sp_binary args K) : ∃ r, CallOk Cx 8 args r ∧ K r := by
  unfold sp_binary at h
  split at h
  · exact ⟨_, CallOk_of (binary_c _ _ _ _ _) en8 rfl rfl, h⟩
  · exact h.elim
noncomputable def ct_binary : Ct Cx := .pure 8 sp_binary sp_binary_ok
@[go_sem] theorem ct_binary_g : ct_binary.g = 8 := rfl
@[go_sem] theorem ct_binary_run (c : Call) (fop : Operand) (caps : List RV) (o : Oper) (st : St) (K : List Loc → List (Loc × Cont) → Prop) : ct_binary.run c fop caps o st K = callT Cx sp_binary c fop caps o st K := rfl
@[go_sem] theorem sp_binary_eq (args : List AV) (K : AV → Prop) : sp_binary args K = (match args with
    | [.r (.v (.int .i64 op)), .agg [.r (.v (.int .i64 k)), .r (.v (.int .i64 n))], .agg [.r (.v (.int .i64 l)), .r (.v (.int .i64 m))]] => K (tr (binaryF op k n l m))
    | _ => False) := rfl

end Go.Proofs.YtjbhpoolghfhiaaDoor
