/- The document's operation of two values: of floats. No condition: contracts of the document's functions. -/
import Derived.Test.YtjbhpoolghfhiaaDoorOps12
namespace Go.Proofs.YtjbhpoolghfhiaaDoor
set_option linter.unusedVariables false
set_option linter.unusedSimpArgs false
set_option maxHeartbeats 10000000
open Go
set_option maxRecDepth 10000

theorem twofo_c (op k n l m : Int) (hk : takK k n = 3) (hl : takK l m = 3) (h3 : decide (op = 3) = false) (h4 : decide (op = 4) = false) (h5 : decide (op = 5) = false) (h6 : decide (op = 6) = false) : FC Cx 10 [Iv op, VV k n, VV l m] [] (tr (binaryF op k n l m)) [] := by
  refine FCp_of [ct_rTaken, ct_rBool, ct_rInt, ct_rFloatOf, ct_rFloatV] Tryd.func10 rfl Tryd.ntmps10 (by simp) Tryd.results10 rfl ?_
  apply Rn_st; (intro K0; simp only [go_sem, ↓reduceIte, Nat.reduceEqDiff, Nat.reduceAdd, Nat.reduceSub, Nat.reduceMul, Nat.reduceLT, Nat.reduceLeDiff, reduceCtorEq, Int.reduceLT, Int.reduceLE, Int.reduceAdd, Int.reduceSub, Int.reduceMul, Int.reduceToNat, Int.reduceNeg, Int.reduceEq]; exact ⟨id⟩)
  repeat' (first
    | (focus (intro K0; (try simp only [go_sem, ↓reduceIte, Nat.reduceEqDiff, Nat.reduceAdd, Nat.reduceSub, Nat.reduceMul, Nat.reduceLT, Nat.reduceLeDiff, reduceCtorEq, Int.reduceLT, Int.reduceLE, Int.reduceAdd, Int.reduceSub, Int.reduceMul, Int.reduceToNat, Int.reduceNeg, Int.reduceEq, *]); (first | exact ⟨id⟩ | (refine ⟨fun h => ?_⟩; (repeat' (first | exact h | refine And.intro ?_ ?_ | omega)); done))))
    | (refine Rn_seq ?_)
    | (refine Rn_block ?_)
    | (apply Rn_region' [(0, [0, 1, 2]), (1, [0, 4, 5, 6]), (2, [0, 4, 5, 6]), (3, [0, 4, 5, 6, 8, 9]), (4, [0, 4, 5, 6, 8, 9, 10]), (5, [0, 4, 5, 6, 8, 9, 10, 11]), (6, [6]), (7, [0, 4, 5, 6, 8, 9, 10, 11, 45]), (8, [4, 5, 6, 8, 9, 11]), (9, [6, 8, 9]), (10, [4, 5, 6]), (11, [0, 4, 5, 6, 8, 9, 10, 11, 45]), (12, [0, 4, 5, 6, 8, 9, 10, 11, 45]), (13, [0, 4, 5, 6, 8, 9, 10, 11]), (14, [6]), (15, [0, 4, 5, 6, 8, 9, 11]), (16, [0, 6, 8, 9, 11, 12, 13]), (17, [0, 6, 8, 9]), (18, [0, 6, 12, 13]), (19, [0, 4, 5, 6, 8, 9, 10, 11, 45]), (20, [0, 4, 5, 6, 8, 9, 10, 11, 45]), (21, [0, 4, 5, 6, 8, 9, 10, 11, 45]), (22, [0, 4, 5, 6, 8, 9, 10, 11, 45]), (23, [0, 4, 5, 6, 8, 9, 10, 11, 45]), (24, [0, 4, 5, 6, 8, 9, 10, 11]), (25, [6]), (26, [0, 4, 5, 6, 8, 9, 11]), (27, [0, 6, 8, 9]), (28, [0, 4, 5, 6]), (29, [6]), (30, [0, 4, 5, 6]), (31, [4, 5, 6, 133]), (32, [4, 5, 6]), (33, [4, 5, 6, 133]), (34, [4, 5, 6]), (35, [4, 5, 6, 133]), (36, [4, 5, 6]), (37, [4, 5, 6, 133]), (38, [4, 5, 6]), (39, [4, 5, 6])]; (exact rfl))
    | (refine Rn_region ?_)
    | (apply Rn_op'; (exact rfl))
    | (refine Rn_o_nil ?_)
    | (apply Rn_g; (exact rfl); (exact rfl); (focus (intro K0; (try simp only [lookT, ev, Nat.reduceEqDiff, ↓reduceIte]); exact ⟨id⟩)))
    | (with_reducible (apply RnG_yes))
    | ((with_reducible (apply RnG_t_no)); (exact rfl))
    | ((with_reducible (apply RnG_f_no)); (exact rfl))
    | ((with_reducible (apply RnG_un)); (exact rfl))
    | (apply RnG_never; (focus (intro K0; (try simp only [go_sem, Nat.reduceEqDiff, ↓reduceIte]); exact ⟨id⟩)); (exact rfl))
    | (apply RnG_lazy; (exact rfl); (focus (intro K0; (try simp only [go_sem, Nat.reduceEqDiff, ↓reduceIte]); exact ⟨id⟩)); (focus (first | (simp only [Nat.reduceLT]; done) | omega)); (focus (intro hw0; (try simp only [Bool.and_eq_true, Bool.not_eq_true', beq_true', beq_false'] at hw0); (focus (intro K0; (try simp only [go_sem, ↓reduceIte, Nat.reduceEqDiff, Nat.reduceAdd, Nat.reduceSub, Nat.reduceMul, Nat.reduceLT, Nat.reduceLeDiff, reduceCtorEq, Int.reduceLT, Int.reduceLE, Int.reduceAdd, Int.reduceSub, Int.reduceMul, Int.reduceToNat, Int.reduceNeg, Int.reduceEq, *]); (first | exact ⟨id⟩ | (refine ⟨fun h => ?_⟩; (repeat' (first | exact h | refine And.intro ?_ ?_ | omega)); done)))))))
    | (apply Rn_c; (focus (intro K0; (try simp only [lookT, ev, Nat.reduceEqDiff, ↓reduceIte]); exact ⟨id⟩)))
    | (with_reducible (refine RnC_t ?_))
    | (with_reducible (refine RnC_f ?_))
    | (refine Rn_skip ?_)
    | (refine Rn_exit rfl ?_)
    | (refine Rn_b ?_)
    | (apply Rn_draw' [(0, [0, 1, 2]), (1, [0, 4, 5, 6]), (2, [0, 4, 5, 6]), (3, [0, 4, 5, 6, 8, 9]), (4, [0, 4, 5, 6, 8, 9, 10]), (5, [0, 4, 5, 6, 8, 9, 10, 11]), (6, [6]), (7, [0, 4, 5, 6, 8, 9, 10, 11, 45]), (8, [4, 5, 6, 8, 9, 11]), (9, [6, 8, 9]), (10, [4, 5, 6]), (11, [0, 4, 5, 6, 8, 9, 10, 11, 45]), (12, [0, 4, 5, 6, 8, 9, 10, 11, 45]), (13, [0, 4, 5, 6, 8, 9, 10, 11]), (14, [6]), (15, [0, 4, 5, 6, 8, 9, 11]), (16, [0, 6, 8, 9, 11, 12, 13]), (17, [0, 6, 8, 9]), (18, [0, 6, 12, 13]), (19, [0, 4, 5, 6, 8, 9, 10, 11, 45]), (20, [0, 4, 5, 6, 8, 9, 10, 11, 45]), (21, [0, 4, 5, 6, 8, 9, 10, 11, 45]), (22, [0, 4, 5, 6, 8, 9, 10, 11, 45]), (23, [0, 4, 5, 6, 8, 9, 10, 11, 45]), (24, [0, 4, 5, 6, 8, 9, 10, 11]), (25, [6]), (26, [0, 4, 5, 6, 8, 9, 11]), (27, [0, 6, 8, 9]), (28, [0, 4, 5, 6]), (29, [6]), (30, [0, 4, 5, 6]), (31, [4, 5, 6, 133]), (32, [4, 5, 6]), (33, [4, 5, 6, 133]), (34, [4, 5, 6]), (35, [4, 5, 6, 133]), (36, [4, 5, 6]), (37, [4, 5, 6, 133]), (38, [4, 5, 6]), (39, [4, 5, 6])]; (exact rfl))
    | (refine Rn_draw ?_)
    | (apply Rd_op'; (exact rfl))
    | (refine Rd_nil (by kernel_rfl) ?_)
    | (apply Rd_g; (exact rfl); (exact rfl); (focus (intro K0; (try simp only [lookT, ev, Nat.reduceEqDiff, ↓reduceIte]); exact ⟨id⟩)))
    | (with_reducible (apply RdG_yes))
    | ((with_reducible (apply RdG_t_no)); (exact rfl))
    | ((with_reducible (apply RdG_f_no)); (exact rfl))
    | ((with_reducible (apply RdG_un)); (exact rfl))
    | (apply RdG_never; (focus (intro K0; (try simp only [go_sem, Nat.reduceEqDiff, ↓reduceIte]); exact ⟨id⟩)); (exact rfl))
    | (apply RdG_lazy; (exact rfl); (focus (intro K0; (try simp only [go_sem, Nat.reduceEqDiff, ↓reduceIte]); exact ⟨id⟩)); (focus (first | (simp only [Nat.reduceLT]; done) | omega)); (focus (intro hw0; (try simp only [Bool.and_eq_true, Bool.not_eq_true', beq_true', beq_false'] at hw0); (focus (intro K0; (try simp only [go_sem, ↓reduceIte, Nat.reduceEqDiff, Nat.reduceAdd, Nat.reduceSub, Nat.reduceMul, Nat.reduceLT, Nat.reduceLeDiff, reduceCtorEq, Int.reduceLT, Int.reduceLE, Int.reduceAdd, Int.reduceSub, Int.reduceMul, Int.reduceToNat, Int.reduceNeg, Int.reduceEq, *]); (first | exact ⟨id⟩ | (refine ⟨fun h => ?_⟩; (repeat' (first | exact h | refine And.intro ?_ ?_ | omega)); done)))))))
    | ((with_reducible (first | refine RnG_split (fun h => ?_) (fun h => ?_) | refine RdG_split (fun h => ?_) (fun h => ?_) | refine RnC_split (fun h => ?_) (fun h => ?_))) <;> (have h' := h) <;> (try simp only [decide_eq_true_eq, decide_eq_false_iff_not, Bool.not_eq_true', Bool.not_eq_false', Bool.and_eq_true, Bool.or_eq_true, Bool.or_eq_false_iff, beq_iff_eq, bne_iff_ne, ne_eq, Bool.not_true, Bool.not_false, not_false_eq_true, reduceCtorEq, beq_eq_false_iff_ne, bne_eq_false_iff_eq] at h') <;> (first | apply Rn_st | apply Rd_st))
    | (refine Rn_out_ck rfl rfl ?_)
    | (refine Rn_ret_ck ?_)
    | (refine Rn_ret ?_)
    | (refine Rn_nil_then ?_)
    | (refine LoopN_step (T := [ct_rTaken, ct_rBool, ct_rInt, ct_rFloatOf, ct_rFloatV]) ?_)
    | (refine Rn_nil ?_))
  all_goals (try simp only [go_sem, ↓reduceIte, Nat.reduceEqDiff, Nat.reduceAdd, Nat.reduceSub, Nat.reduceMul, Nat.reduceLT, Nat.reduceLeDiff, reduceCtorEq, Int.reduceLT, Int.reduceLE, Int.reduceAdd, Int.reduceSub, Int.reduceMul, Int.reduceToNat, Int.reduceNeg, Int.reduceEq, *])
  all_goals (first | (simp_all [binaryF, boolF, floatsF, ordFF, fOrd]; done) | (simp_all [binaryF, boolF, floatsF, ordFF, fOrd]; omega) | trace_state)

end Go.Proofs.YtjbhpoolghfhiaaDoor
