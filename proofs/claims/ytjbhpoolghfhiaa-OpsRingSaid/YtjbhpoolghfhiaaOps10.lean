/- The laws of sums and products, run. No condition: the contract of the law's function. -/
import Derived.Test.YtjbhpoolghfhiaaOps9
namespace Go.Proofs.Ytjbhpoolghfhiaa
set_option linter.unusedVariables false
set_option linter.unusedSimpArgs false
set_option maxHeartbeats 10000000
open Go
set_option maxRecDepth 10000

theorem ring_c (a b c : Int) : FC Cx 7 [Iv a, Iv b, Iv c] [] (Bv true) [] := by
  refine FCp_of [ct_num, ct_binary, ct_lives, ct_right] Try.func7 rfl Try.ntmps7 (by simp) Try.results7 rfl ?_
  apply Rn_st; (intro K0; simp only [go_sem, ↓reduceIte, Nat.reduceEqDiff, Nat.reduceAdd, Nat.reduceSub, Nat.reduceMul, Nat.reduceLT, Nat.reduceLeDiff, reduceCtorEq, Int.reduceLT, Int.reduceLE, Int.reduceAdd, Int.reduceSub, Int.reduceMul, Int.reduceToNat, Int.reduceNeg, Int.reduceEq]; exact ⟨id⟩)
  repeat' (first
    | (focus (intro K0; (try simp only [go_sem, ↓reduceIte, Nat.reduceEqDiff, Nat.reduceAdd, Nat.reduceSub, Nat.reduceMul, Nat.reduceLT, Nat.reduceLeDiff, reduceCtorEq, Int.reduceLT, Int.reduceLE, Int.reduceAdd, Int.reduceSub, Int.reduceMul, Int.reduceToNat, Int.reduceNeg, Int.reduceEq, *]); (first | exact ⟨id⟩ | (refine ⟨fun h => ?_⟩; (repeat' (first | exact h | refine And.intro ?_ ?_ | omega)); done))))
    | (refine Rn_seq ?_)
    | (refine Rn_block ?_)
    | (apply Rn_region' [(0, [0, 1, 2]), (1, [0, 1, 2]), (2, [7, 8, 9]), (3, []), (4, [7, 8, 9]), (5, [7, 8, 9, 56, 57]), (6, [7, 8, 9, 56, 57]), (7, [7, 8, 9, 11, 56, 57]), (8, [7, 8, 9, 11, 12, 13, 56, 57]), (9, [7, 8, 9, 11, 12, 13, 14, 15, 56, 57]), (10, [7, 8, 9, 11, 12, 13, 14, 15, 16, 17, 56, 57]), (11, [7, 8, 9, 11, 12, 13, 14, 15, 16, 17, 18, 19, 56, 57]), (12, [7, 8, 9, 12, 13, 14, 15, 16, 17, 19, 20, 21, 56, 57]), (13, []), (14, [7, 8, 9, 56, 57]), (15, [7, 8, 9]), (16, [7, 8, 9, 22, 23]), (17, [7, 8, 9, 23, 24, 25]), (18, [7, 9, 23, 24, 25, 26, 27]), (19, [23, 24, 25, 26, 27, 28, 29]), (20, [23, 24, 25, 27, 29, 30, 31])]; (exact rfl))
    | (refine Rn_region ?_)
    | (apply Rn_op'; (exact rfl))
    | (refine Rn_o_nil ?_)
    | (apply Rn_g; (exact rfl); (exact rfl); (focus (intro K0; (try simp only [lookT, ev, Nat.reduceEqDiff, ↓reduceIte]); exact ⟨id⟩)))
    | (with_reducible (apply RnG_yes))
    | ((with_reducible (apply RnG_t_no)); (exact rfl))
    | ((with_reducible (apply RnG_f_no)); (exact rfl))
    | ((with_reducible (apply RnG_un)); (exact rfl))
    | (apply RnG_never; (focus (intro K0; (try simp only [go_sem, Nat.reduceEqDiff, ↓reduceIte]); exact ⟨id⟩)); (exact rfl))
    | (apply RnG_lazy; (exact rfl); (focus (intro K0; (try simp only [go_sem, Nat.reduceEqDiff, ↓reduceIte]); exact ⟨id⟩)); (focus (first | (simp only [Nat.reduceLT]; done) | omega)); (focus (intro hw0; (try simp only [Bool.and_eq_true, Bool.not_eq_true', beq_true', beq_false'] at hw0); (focus (intro K0; (try simp only [go_sem, ↓reduceIte, Nat.reduceEqDiff, Nat.reduceAdd, Nat.reduceSub, Nat.reduceMul, Nat.reduceLT, Nat.reduceLeDiff, reduceCtorEq, Int.reduceLT, Int.reduceLE, Int.reduceAdd, Int.reduceSub, Int.reduceMul, Int.reduceToNat, Int.reduceNeg, Int.reduceEq, *]); (first | exact ⟨id⟩ | (refine ⟨fun h => ?_⟩; (repeat' (first | exact h | refine And.intro ?_ ?_ | omega)); done)))))))
    | (apply Rn_c; (focus (intro K0; (try simp only [lookT, ev, Nat.reduceEqDiff, ↓reduceIte]); exact ⟨id⟩)))
    | (with_reducible (refine RnC_t ?_))
    | (with_reducible (refine RnC_f ?_))
    | (refine Rn_unroll 3 ?_)
    | (refine Rn_skip ?_)
    | (refine Rn_exit rfl ?_)
    | (refine Rn_b ?_)
    | (apply Rn_draw' [(0, [0, 1, 2]), (1, [0, 1, 2]), (2, [7, 8, 9]), (3, []), (4, [7, 8, 9]), (5, [7, 8, 9, 56, 57]), (6, [7, 8, 9, 56, 57]), (7, [7, 8, 9, 11, 56, 57]), (8, [7, 8, 9, 11, 12, 13, 56, 57]), (9, [7, 8, 9, 11, 12, 13, 14, 15, 56, 57]), (10, [7, 8, 9, 11, 12, 13, 14, 15, 16, 17, 56, 57]), (11, [7, 8, 9, 11, 12, 13, 14, 15, 16, 17, 18, 19, 56, 57]), (12, [7, 8, 9, 12, 13, 14, 15, 16, 17, 19, 20, 21, 56, 57]), (13, []), (14, [7, 8, 9, 56, 57]), (15, [7, 8, 9]), (16, [7, 8, 9, 22, 23]), (17, [7, 8, 9, 23, 24, 25]), (18, [7, 9, 23, 24, 25, 26, 27]), (19, [23, 24, 25, 26, 27, 28, 29]), (20, [23, 24, 25, 27, 29, 30, 31])]; (exact rfl))
    | (refine Rn_draw ?_)
    | (apply Rd_op'; (exact rfl))
    | (refine Rd_nil (by kernel_rfl) ?_)
    | (apply Rd_g; (exact rfl); (exact rfl); (focus (intro K0; (try simp only [lookT, ev, Nat.reduceEqDiff, ↓reduceIte]); exact ⟨id⟩)))
    | (with_reducible (apply RdG_yes))
    | ((with_reducible (apply RdG_t_no)); (exact rfl))
    | ((with_reducible (apply RdG_f_no)); (exact rfl))
    | ((with_reducible (apply RdG_un)); (exact rfl))
    | (apply RdG_never; (focus (intro K0; (try simp only [go_sem, Nat.reduceEqDiff, ↓reduceIte]); exact ⟨id⟩)); (exact rfl))
    | (apply RdG_lazy; (exact rfl); (focus (intro K0; (try simp only [go_sem, Nat.reduceEqDiff, ↓reduceIte]); exact ⟨id⟩)); (focus (first | (simp only [Nat.reduceLT]; done) | omega)); (focus (intro hw0; (try simp only [Bool.and_eq_true, Bool.not_eq_true', beq_true', beq_false'] at hw0); (focus (intro K0; (try simp only [go_sem, ↓reduceIte, Nat.reduceEqDiff, Nat.reduceAdd, Nat.reduceSub, Nat.reduceMul, Nat.reduceLT, Nat.reduceLeDiff, reduceCtorEq, Int.reduceLT, Int.reduceLE, Int.reduceAdd, Int.reduceSub, Int.reduceMul, Int.reduceToNat, Int.reduceNeg, Int.reduceEq, *]); (first | exact ⟨id⟩ | (refine ⟨fun h => ?_⟩; (repeat' (first | exact h | refine And.intro ?_ ?_ | omega)); done)))))))
    | ((with_reducible (first | refine RnG_split (fun h => ?_) (fun h => ?_) | refine RdG_split (fun h => ?_) (fun h => ?_) | refine RnC_split (fun h => ?_) (fun h => ?_))) <;> (have h' := h) <;> (try simp only [decide_eq_true_eq, decide_eq_false_iff_not, Bool.not_eq_true', Bool.not_eq_false', Bool.and_eq_true, Bool.or_eq_true, Bool.or_eq_false_iff, beq_iff_eq, bne_iff_ne, ne_eq, Bool.not_true, Bool.not_false, not_false_eq_true, reduceCtorEq, beq_eq_false_iff_ne, bne_eq_false_iff_eq] at h') <;> (first | apply Rn_st | apply Rd_st))
    | (refine Rn_out_ck rfl rfl ?_)
    | (refine Rn_ret_ck ?_)
    | (refine Rn_ret ?_)
    | (refine Rn_nil_then ?_)
    | (refine LoopN_step (T := [ct_num, ct_binary, ct_lives, ct_right]) ?_)
    | (refine Rn_nil ?_))
  all_goals (try simp only [go_sem, ↓reduceIte, Nat.reduceEqDiff, Nat.reduceAdd, Nat.reduceSub, Nat.reduceMul, Nat.reduceLT, Nat.reduceLeDiff, reduceCtorEq, Int.reduceLT, Int.reduceLE, Int.reduceAdd, Int.reduceSub, Int.reduceMul, Int.reduceToNat, Int.reduceNeg, Int.reduceEq])
  all_goals
    (have ha : rightF 2 a = true := by first | assumption | (rename_i h0 _ _; simp_all)
     have hb : rightF 2 b = true := by assumption
     have hc : rightF 2 c = true := by assumption
     obtain ⟨c1, l1⟩ := ring_add a b c ha hb hc
     obtain ⟨c2, l2⟩ := ring_mul a b c ha hb hc
     have d := ring_both a b c ha hb hc
     simp_all)

end Go.Proofs.Ytjbhpoolghfhiaa
