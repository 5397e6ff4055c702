/- The law of order, run. No condition: the contract of the law's function. -/
import Derived.Test.YtjbhpoolghfhiaaOps7
namespace Go.Proofs.Ytjbhpoolghfhiaa
set_option linter.unusedVariables false
set_option linter.unusedSimpArgs false
set_option maxHeartbeats 10000000
open Go
set_option maxRecDepth 10000

theorem order_c (k n l m : Int) : FC Cx 9 [VV k n, VV l m] [] (Bv true) [] := by
  refine FCp_of [ct_binary, ct_lives, ct_Truth] Try.func9 rfl Try.ntmps9 (by simp) Try.results9 rfl ?_
  apply Rn_st; (intro K0; simp only [go_sem, ↓reduceIte, Nat.reduceEqDiff, Nat.reduceAdd, Nat.reduceSub, Nat.reduceMul, Nat.reduceLT, Nat.reduceLeDiff, reduceCtorEq, Int.reduceLT, Int.reduceLE, Int.reduceAdd, Int.reduceSub, Int.reduceMul, Int.reduceToNat, Int.reduceNeg, Int.reduceEq]; exact ⟨id⟩)
  repeat' (first
    | (focus (intro K0; (try simp only [go_sem, ↓reduceIte, Nat.reduceEqDiff, Nat.reduceAdd, Nat.reduceSub, Nat.reduceMul, Nat.reduceLT, Nat.reduceLeDiff, reduceCtorEq, Int.reduceLT, Int.reduceLE, Int.reduceAdd, Int.reduceSub, Int.reduceMul, Int.reduceToNat, Int.reduceNeg, Int.reduceEq, *]); (first | exact ⟨id⟩ | (refine ⟨fun h => ?_⟩; (repeat' (first | exact h | refine And.intro ?_ ?_ | omega)); done))))
    | (refine Rn_seq ?_)
    | (refine Rn_block ?_)
    | (apply Rn_region' [(0, [0, 1]), (1, [2, 3]), (2, [2, 3, 5, 6]), (3, [2, 3, 5, 6, 7, 8]), (4, [2, 3, 5, 6, 7, 8, 9]), (5, [2, 5, 6, 7, 8, 9, 11, 12]), (6, [6, 8, 12]), (7, [2, 5, 7, 8, 9, 11, 12]), (8, [2, 5, 7, 8, 9, 11, 12, 13]), (9, [2, 5, 8, 9, 11, 12, 13, 61, 62]), (10, [2, 5, 8, 9, 11, 12, 13, 61, 62]), (11, [2, 5, 8, 9, 11, 12, 13, 15, 61, 62]), (12, [2, 5, 8, 9, 11, 12, 13, 61, 62]), (13, [2, 5, 8, 9, 11, 12, 13, 61, 62]), (14, [2, 5, 8, 9, 11, 12, 13]), (15, [5, 8, 9, 11, 12, 13, 16])]; (exact rfl))
    | (refine Rn_region ?_)
    | (apply Rn_op'; (exact rfl))
    | (refine Rn_o_nil ?_)
    | (apply Rn_g; (exact rfl); (exact rfl); (focus (intro K0; (try simp only [lookT, ev, Nat.reduceEqDiff, ↓reduceIte]); exact ⟨id⟩)))
    | (with_reducible (apply RnG_yes))
    | ((with_reducible (apply RnG_t_no)); (exact rfl))
    | ((with_reducible (apply RnG_f_no)); (exact rfl))
    | ((with_reducible (apply RnG_un)); (exact rfl))
    | (apply RnG_never; (focus (intro K0; (try simp only [go_sem, Nat.reduceEqDiff, ↓reduceIte]); exact ⟨id⟩)); (exact rfl))
    | (apply RnG_lazy; (exact rfl); (focus (intro K0; (try simp only [go_sem, Nat.reduceEqDiff, ↓reduceIte]); exact ⟨id⟩)); (focus (first | (simp only [Nat.reduceLT]; done) | omega)); (focus (intro hw0; (try simp only [Bool.and_eq_true, Bool.not_eq_true', beq_true', beq_false'] at hw0); (focus (intro K0; (try simp only [go_sem, ↓reduceIte, Nat.reduceEqDiff, Nat.reduceAdd, Nat.reduceSub, Nat.reduceMul, Nat.reduceLT, Nat.reduceLeDiff, reduceCtorEq, Int.reduceLT, Int.reduceLE, Int.reduceAdd, Int.reduceSub, Int.reduceMul, Int.reduceToNat, Int.reduceNeg, Int.reduceEq, *]); (first | exact ⟨id⟩ | (refine ⟨fun h => ?_⟩; (repeat' (first | exact h | refine And.intro ?_ ?_ | omega)); done)))))))
    | (apply Rn_c; (focus (intro K0; (try simp only [lookT, ev, Nat.reduceEqDiff, ↓reduceIte]); exact ⟨id⟩)))
    | (with_reducible (refine RnC_t ?_))
    | (with_reducible (refine RnC_f ?_))
    | (refine Rn_unroll 4 ?_)
    | (refine Rn_skip ?_)
    | (refine Rn_exit rfl ?_)
    | (refine Rn_b ?_)
    | (apply Rn_draw' [(0, [0, 1]), (1, [2, 3]), (2, [2, 3, 5, 6]), (3, [2, 3, 5, 6, 7, 8]), (4, [2, 3, 5, 6, 7, 8, 9]), (5, [2, 5, 6, 7, 8, 9, 11, 12]), (6, [6, 8, 12]), (7, [2, 5, 7, 8, 9, 11, 12]), (8, [2, 5, 7, 8, 9, 11, 12, 13]), (9, [2, 5, 8, 9, 11, 12, 13, 61, 62]), (10, [2, 5, 8, 9, 11, 12, 13, 61, 62]), (11, [2, 5, 8, 9, 11, 12, 13, 15, 61, 62]), (12, [2, 5, 8, 9, 11, 12, 13, 61, 62]), (13, [2, 5, 8, 9, 11, 12, 13, 61, 62]), (14, [2, 5, 8, 9, 11, 12, 13]), (15, [5, 8, 9, 11, 12, 13, 16])]; (exact rfl))
    | (refine Rn_draw ?_)
    | (apply Rd_op'; (exact rfl))
    | (refine Rd_nil (by kernel_rfl) ?_)
    | (apply Rd_g; (exact rfl); (exact rfl); (focus (intro K0; (try simp only [lookT, ev, Nat.reduceEqDiff, ↓reduceIte]); exact ⟨id⟩)))
    | (with_reducible (apply RdG_yes))
    | ((with_reducible (apply RdG_t_no)); (exact rfl))
    | ((with_reducible (apply RdG_f_no)); (exact rfl))
    | ((with_reducible (apply RdG_un)); (exact rfl))
    | (apply RdG_never; (focus (intro K0; (try simp only [go_sem, Nat.reduceEqDiff, ↓reduceIte]); exact ⟨id⟩)); (exact rfl))
    | (apply RdG_lazy; (exact rfl); (focus (intro K0; (try simp only [go_sem, Nat.reduceEqDiff, ↓reduceIte]); exact ⟨id⟩)); (focus (first | (simp only [Nat.reduceLT]; done) | omega)); (focus (intro hw0; (try simp only [Bool.and_eq_true, Bool.not_eq_true', beq_true', beq_false'] at hw0); (focus (intro K0; (try simp only [go_sem, ↓reduceIte, Nat.reduceEqDiff, Nat.reduceAdd, Nat.reduceSub, Nat.reduceMul, Nat.reduceLT, Nat.reduceLeDiff, reduceCtorEq, Int.reduceLT, Int.reduceLE, Int.reduceAdd, Int.reduceSub, Int.reduceMul, Int.reduceToNat, Int.reduceNeg, Int.reduceEq, *]); (first | exact ⟨id⟩ | (refine ⟨fun h => ?_⟩; (repeat' (first | exact h | refine And.intro ?_ ?_ | omega)); done)))))))
    | ((with_reducible (first | refine RnG_split (fun h => ?_) (fun h => ?_) | refine RdG_split (fun h => ?_) (fun h => ?_) | refine RnC_split (fun h => ?_) (fun h => ?_))) <;> (have h' := h) <;> (try simp only [decide_eq_true_eq, decide_eq_false_iff_not, Bool.not_eq_true', Bool.not_eq_false', Bool.and_eq_true, Bool.or_eq_true, Bool.or_eq_false_iff, beq_iff_eq, bne_iff_ne, ne_eq, Bool.not_true, Bool.not_false, not_false_eq_true, reduceCtorEq, beq_eq_false_iff_ne, bne_eq_false_iff_eq] at h') <;> (first | apply Rn_st | apply Rd_st))
    | (refine Rn_out_ck rfl rfl ?_)
    | (refine Rn_ret_ck ?_)
    | (refine Rn_ret ?_)
    | (refine Rn_nil_then ?_)
    | (refine LoopN_step (T := [ct_binary, ct_lives, ct_Truth]) ?_)
    | (refine Rn_nil ?_))
  all_goals (try simp only [go_sem, ↓reduceIte, Nat.reduceEqDiff, Nat.reduceAdd, Nat.reduceSub, Nat.reduceMul, Nat.reduceLT, Nat.reduceLeDiff, reduceCtorEq, Int.reduceLT, Int.reduceLE, Int.reduceAdd, Int.reduceSub, Int.reduceMul, Int.reduceToNat, Int.reduceNeg, Int.reduceEq])
  all_goals first
    | (have h1 := (order_law k n l m).1 ‹¬ (binaryF 9 k n l m).2.2 = -1›; simp [h1]; done)
    | (obtain ⟨x, y, z, e1, e2, e3, e4, n1, n2, n3, hk⟩ := (order_law k n l m).2 ‹(binaryF 9 k n l m).2.2 = -1›
       have t1 : truthF (binaryF 9 k n l m).1 (binaryF 9 k n l m).2.1 = x := by rw [e1]; exact truth_bool x
       have t2 : truthF (binaryF 9 l m k n).1 (binaryF 9 l m k n).2.1 = y := by rw [e2]; exact truth_bool y
       have t3 : truthF (binaryF 8 k n l m).1 (binaryF 8 k n l m).2.1 = z := by rw [e3]; exact truth_bool z
       have t4 : truthF (binaryF 10 k n l m).1 (binaryF 10 k n l m).2.1 = (x || z) := by rw [e4]; exact truth_bool _
       have u2 : (binaryF 9 l m k n).2.2 = -1 := by rw [e2]; rfl
       have u4 : (binaryF 10 k n l m).2.2 = -1 := by rw [e4]; rfl
       clear e1 e2 e3 e4
       cases x <;> cases y <;> cases z <;> simp_all)

end Go.Proofs.Ytjbhpoolghfhiaa
