/- What the laws of the reckoning come to when they are run. No condition: contracts of the laws' functions. -/
import Derived.Test.YtjbhpoolghfhiaaOps2
namespace Go.Proofs.Ytjbhpoolghfhiaa
set_option linter.unusedVariables false
set_option linter.unusedSimpArgs false
open Go
set_option maxRecDepth 10000

def stayF (op k n l m : Int) : Bool :=
  rightF (unaryF op k n).1 (unaryF op k n).2.1 && rightF (binaryF op k n l m).1 (binaryF op k n l m).2.1 &&
  (decide ((unaryF op k n).2.2 = -1) || (decide ((unaryF op k n).1 = 0) && decide ((unaryF op k n).2.1 = 0))) &&
  (decide ((binaryF op k n l m).2.2 = -1) || (decide ((binaryF op k n l m).1 = 0) && decide ((binaryF op k n l m).2.1 = 0)))

theorem stay_c (op k n l m : Int) : FC Cx 10 [Iv op, VV k n, VV l m] [] (Bv (stayF op k n l m)) [] := by
  refine FCp_of [ct_unary, ct_binary, ct_lives, ct_right] Try.func10 rfl Try.ntmps10 (by simp) Try.results10 rfl ?_
  apply Rn_st; (intro K0; simp only [go_sem, ↓reduceIte, Nat.reduceEqDiff, Nat.reduceAdd, Nat.reduceSub, Nat.reduceMul, Nat.reduceLT, Nat.reduceLeDiff, decide_true, decide_false, Nat.lt_irrefl, Nat.le_refl, eq_self, true_and, and_true, reduceCtorEq, Bool.and_true, Bool.true_and, Bool.false_and, Bool.and_false, List.append_nil, cond_true, cond_false, Bool.not_true, Bool.not_false, beq_self_eq_true, RV.v.injEq, beq_true, beq_false]; exact ⟨id⟩)
  repeat' (first
    | (refine Rn_seq ?_)
    | (refine Rn_block ?_)
    | (refine Rn_region ?_)
    | (apply Rn_op; (exact rfl); (focus (intro K0; (try simp only [go_sem, ↓reduceIte, Nat.reduceEqDiff, Nat.reduceAdd, Nat.reduceSub, Nat.reduceMul, Nat.reduceLT, Nat.reduceLeDiff, decide_true, decide_false, Nat.lt_irrefl, Nat.le_refl, eq_self, true_and, and_true, reduceCtorEq, Bool.and_true, Bool.true_and, Bool.false_and, Bool.and_false, List.append_nil, cond_true, cond_false, Bool.not_true, Bool.not_false, beq_self_eq_true, RV.v.injEq, beq_true, beq_false, *]); (first | exact ⟨id⟩ | (refine ⟨fun h => ?_⟩; (repeat' (first | exact h | refine And.intro ?_ ?_ | omega)); done)))))
    | (refine Rn_o_nil ?_)
    | (apply Rn_guard_yes; (exact rfl); (exact rfl); (exact rfl); (focus (intro K0; (try simp only [go_sem, ↓reduceIte, Nat.reduceEqDiff, Nat.reduceAdd, Nat.reduceSub, Nat.reduceMul, Nat.reduceLT, Nat.reduceLeDiff, decide_true, decide_false, Nat.lt_irrefl, Nat.le_refl, eq_self, true_and, and_true, reduceCtorEq, Bool.and_true, Bool.true_and, Bool.false_and, Bool.and_false, List.append_nil, cond_true, cond_false, Bool.not_true, Bool.not_false, beq_self_eq_true, RV.v.injEq, beq_true, beq_false, *]); (first | exact ⟨id⟩ | (refine ⟨fun h => ?_⟩; (repeat' (first | exact h | refine And.intro ?_ ?_ | omega)); done)))))
    | (apply Rn_guard_no; (exact rfl); (exact rfl); (exact rfl); (exact rfl); (exact rfl); (exact rfl))
    | (apply Rn_guard_un; (exact rfl); (exact rfl); (exact rfl); (exact rfl); (exact rfl))
    | (refine Rn_cond_t rfl ?_)
    | (refine Rn_cond_f rfl ?_)
    | (refine Rn_skip ?_)
    | (refine Rn_exit rfl ?_)
    | (refine Rn_b ?_)
    | (refine Rn_draw ?_)
    | (apply Rd_op; (exact rfl); (focus (intro K0; (try simp only [go_sem, ↓reduceIte, Nat.reduceEqDiff, Nat.reduceAdd, Nat.reduceSub, Nat.reduceMul, Nat.reduceLT, Nat.reduceLeDiff, decide_true, decide_false, Nat.lt_irrefl, Nat.le_refl, eq_self, true_and, and_true, reduceCtorEq, Bool.and_true, Bool.true_and, Bool.false_and, Bool.and_false, List.append_nil, cond_true, cond_false, Bool.not_true, Bool.not_false, beq_self_eq_true, RV.v.injEq, beq_true, beq_false, *]); (first | exact ⟨id⟩ | (refine ⟨fun h => ?_⟩; (repeat' (first | exact h | refine And.intro ?_ ?_ | omega)); done)))))
    | (apply Rd_guard_yes; (exact rfl); (exact rfl); (exact rfl); (focus (intro K0; (try simp only [go_sem, ↓reduceIte, Nat.reduceEqDiff, Nat.reduceAdd, Nat.reduceSub, Nat.reduceMul, Nat.reduceLT, Nat.reduceLeDiff, decide_true, decide_false, Nat.lt_irrefl, Nat.le_refl, eq_self, true_and, and_true, reduceCtorEq, Bool.and_true, Bool.true_and, Bool.false_and, Bool.and_false, List.append_nil, cond_true, cond_false, Bool.not_true, Bool.not_false, beq_self_eq_true, RV.v.injEq, beq_true, beq_false, *]); (first | exact ⟨id⟩ | (refine ⟨fun h => ?_⟩; (repeat' (first | exact h | refine And.intro ?_ ?_ | omega)); done)))))
    | (apply Rd_guard_no; (exact rfl); (exact rfl); (exact rfl); (exact rfl); (exact rfl); (exact rfl); (exact rfl))
    | (apply Rd_guard_un; (exact rfl); (exact rfl); (exact rfl); (exact rfl); (exact rfl); (exact rfl))
    | (refine Rd_nil (by kernel_rfl) ?_)
    | (refine Rn_split rfl rfl rfl (fun h => ?_) (fun h => ?_) <;> (have h' := h) <;> (try simp only [decide_eq_true_eq, decide_eq_false_iff_not, Bool.not_eq_true', Bool.not_eq_false', Bool.and_eq_true, Bool.or_eq_true, Bool.or_eq_false_iff, beq_iff_eq, bne_iff_ne, ne_eq, Bool.not_true, Bool.not_false, not_false_eq_true, reduceCtorEq, beq_eq_false_iff_ne, bne_eq_false_iff_eq] at h') <;> (apply Rn_st; (intro K0; (try simp only [go_sem, ↓reduceIte, Nat.reduceEqDiff, Nat.reduceAdd, Nat.reduceSub, Nat.reduceMul, Nat.reduceLT, Nat.reduceLeDiff, decide_true, decide_false, Nat.lt_irrefl, Nat.le_refl, eq_self, true_and, and_true, reduceCtorEq, Bool.and_true, Bool.true_and, Bool.false_and, Bool.and_false, List.append_nil, cond_true, cond_false, Bool.not_true, Bool.not_false, beq_self_eq_true, RV.v.injEq, beq_true, beq_false, *]); exact ⟨id⟩)))
    | (refine Rd_split rfl rfl rfl (fun h => ?_) (fun h => ?_) <;> (have h' := h) <;> (try simp only [decide_eq_true_eq, decide_eq_false_iff_not, Bool.not_eq_true', Bool.not_eq_false', Bool.and_eq_true, Bool.or_eq_true, Bool.or_eq_false_iff, beq_iff_eq, bne_iff_ne, ne_eq, Bool.not_true, Bool.not_false, not_false_eq_true, reduceCtorEq, beq_eq_false_iff_ne, bne_eq_false_iff_eq] at h') <;> (apply Rd_st; (intro K0; (try simp only [go_sem, ↓reduceIte, Nat.reduceEqDiff, Nat.reduceAdd, Nat.reduceSub, Nat.reduceMul, Nat.reduceLT, Nat.reduceLeDiff, decide_true, decide_false, Nat.lt_irrefl, Nat.le_refl, eq_self, true_and, and_true, reduceCtorEq, Bool.and_true, Bool.true_and, Bool.false_and, Bool.and_false, List.append_nil, cond_true, cond_false, Bool.not_true, Bool.not_false, beq_self_eq_true, RV.v.injEq, beq_true, beq_false, *]); exact ⟨id⟩)))
    | (refine Rn_cond rfl (fun h => ?_) (fun h => ?_) <;> (have h' := h) <;> (try simp only [decide_eq_true_eq, decide_eq_false_iff_not, Bool.not_eq_true', Bool.not_eq_false', Bool.and_eq_true, Bool.or_eq_true, Bool.or_eq_false_iff, beq_iff_eq, bne_iff_ne, ne_eq, Bool.not_true, Bool.not_false, not_false_eq_true, reduceCtorEq, beq_eq_false_iff_ne, bne_eq_false_iff_eq] at h') <;> (apply Rn_st; (intro K0; (try simp only [go_sem, ↓reduceIte, Nat.reduceEqDiff, Nat.reduceAdd, Nat.reduceSub, Nat.reduceMul, Nat.reduceLT, Nat.reduceLeDiff, decide_true, decide_false, Nat.lt_irrefl, Nat.le_refl, eq_self, true_and, and_true, reduceCtorEq, Bool.and_true, Bool.true_and, Bool.false_and, Bool.and_false, List.append_nil, cond_true, cond_false, Bool.not_true, Bool.not_false, beq_self_eq_true, RV.v.injEq, beq_true, beq_false, *]); exact ⟨id⟩)))
    | (refine Rn_ret ?_)
    | (refine Rn_nil ?_))
  all_goals (try simp only [go_sem, ↓reduceIte, Nat.reduceEqDiff, Nat.reduceAdd, Nat.reduceSub, Nat.reduceMul, Nat.reduceLT, Nat.reduceLeDiff, decide_true, decide_false, Nat.lt_irrefl, Nat.le_refl, eq_self, true_and, and_true, reduceCtorEq, Bool.and_true, Bool.true_and, Bool.false_and, Bool.and_false, List.append_nil, cond_true, cond_false, Bool.not_true, Bool.not_false, beq_self_eq_true, RV.v.injEq, beq_true, beq_false])
  all_goals simp_all [stayF]

end Go.Proofs.Ytjbhpoolghfhiaa
