/- OpsSay, run: the answers are the document's. No condition: the contract of the law's function. -/
import Derived.Test.YtjbhpoolghfhiaaDoorOps13
import Derived.Test.YtjbhpoolghfhiaaDoorOps14
import Derived.Test.YtjbhpoolghfhiaaDoorOps15
import Derived.Test.YtjbhpoolghfhiaaDoorWd1
namespace Go.Proofs.YtjbhpoolghfhiaaDoor
set_option linter.unusedVariables false
set_option linter.unusedSimpArgs false
set_option maxHeartbeats 10000000
open Go
set_option maxRecDepth 10000

theorem two_c (op k n l m : Int) : FC Cx 10 [Iv op, VV k n, VV l m] [] (tr (binaryF op k n l m)) [] := by
  by_cases hf : takK k n = 3 ∧ takK l m = 3
  · by_cases h3 : op = 3
    · subst h3; exact twof3_c k n l m hf.1 hf.2
    by_cases h4 : op = 4
    · subst h4; exact twof4_c k n l m hf.1 hf.2
    by_cases h5 : op = 5
    · subst h5; exact twof5_c k n l m hf.1 hf.2
    by_cases h6 : op = 6
    · subst h6; exact twof6_c k n l m hf.1 hf.2
    exact twofo_c op k n l m hf.1 hf.2 (by simpa using h3) (by simpa using h4) (by simpa using h5) (by simpa using h6)
  · by_cases hi : takK k n = 2 ∧ takK l m = 2
    · exact twoi_c op k n l m hi.1 hi.2
    · refine twox_c op k n l m ?_ ?_
      · rw [Bool.eq_false_iff]; intro h; simp at h; omega
      · rw [Bool.eq_false_iff]; intro h; simp at h; omega
/-- How calls of this function are met. -/
def sp_two (args : List AV) (K : AV → Prop) : Prop := match args with
  | [.r (.v (.int .i64 op)), .agg [.r (.v (.int .i64 k)), .r (.v (.int .i64 n))], .agg [.r (.v (.int .i64 l)), .r (.v (.int .i64 m))]] => K (tr (binaryF op k n l m))
  | _ => False
theorem sp_two_ok (args : List AV) (K : AV → Prop) (h : sp_two args K) : ∃ r, CallOk Cx 10 args r ∧ K r := by
  unfold sp_two at h
  split at h
  · exact ⟨_, CallOk_of (two_c _ _ _ _ _) en10 rfl rfl, h⟩
  · exact h.elim
noncomputable def ct_two : Ct Cx := .pure 10 sp_two sp_two_ok
@[go_sem] theorem ct_two_g : ct_two.g = 10 := rfl
@[go_sem] theorem ct_two_run (c : Call) (fop : Operand) (caps : List RV) (o : Oper) (st : St) (K : List Loc → List (Loc × Cont) → Prop) : ct_two.run c fop caps o st K = callT Cx sp_two c fop caps o st K := rfl
@[go_sem] theorem sp_two_eq (args : List AV) (K : AV → Prop) : sp_two args K = (match args with
    | [.r (.v (.int .i64 op)), .agg [.r (.v (.int .i64 k)), .r (.v (.int .i64 n))], .agg [.r (.v (.int .i64 l)), .r (.v (.int .i64 m))]] => K (tr (binaryF op k n l m))
    | _ => False) := rfl

theorem says_c (op k n l m : Int) : FC Cx 3 [Iv op, VV k n, VV l m] [] (Bv true) [] := by
  refine FCp_of [ct_unary, ct_binary, ct_one, ct_two, ct_right, ct_rRight, ct_Truth, ct_rTrue, ct_words, ct_ownWords, ct_eqStr'] Tryd.func3 rfl Tryd.ntmps3 (by simp) Tryd.results3 rfl ?_
  apply Rn_st; (intro K0; simp only [go_sem, ↓reduceIte, Nat.reduceEqDiff, Nat.reduceAdd, Nat.reduceSub, Nat.reduceMul, Nat.reduceLT, Nat.reduceLeDiff, reduceCtorEq, Int.reduceLT, Int.reduceLE, Int.reduceAdd, Int.reduceSub, Int.reduceMul, Int.reduceToNat, Int.reduceNeg, Int.reduceEq]; exact ⟨id⟩)
  repeat' (first
    | (focus (intro K0; (try simp only [go_sem, ↓reduceIte, Nat.reduceEqDiff, Nat.reduceAdd, Nat.reduceSub, Nat.reduceMul, Nat.reduceLT, Nat.reduceLeDiff, reduceCtorEq, Int.reduceLT, Int.reduceLE, Int.reduceAdd, Int.reduceSub, Int.reduceMul, Int.reduceToNat, Int.reduceNeg, Int.reduceEq, *]); (first | exact ⟨id⟩ | (refine ⟨fun h => ?_⟩; (repeat' (first | exact h | refine And.intro ?_ ?_ | omega)); done))))
    | (refine Rn_seq ?_)
    | (refine Rn_block ?_)
    | (apply Rn_region' [(0, [0, 1, 2]), (1, [0, 4, 5]), (2, [0, 4, 5, 7, 8]), (3, [0, 4, 5, 7, 8, 9, 10]), (4, [0, 4, 5, 7, 8, 9, 10, 11, 12]), (5, [4, 7, 8, 9, 10, 11, 12, 13, 14])]; (exact rfl))
    | (refine Rn_region ?_)
    | (apply Rn_op'; (exact rfl))
    | (refine Rn_o_nil ?_)
    | (apply Rn_g; (exact rfl); (exact rfl); (focus (intro K0; (try simp only [lookT, ev, Nat.reduceEqDiff, ↓reduceIte]); exact ⟨id⟩)))
    | (with_reducible (apply RnG_yes))
    | ((with_reducible (apply RnG_t_no)); (exact rfl))
    | ((with_reducible (apply RnG_f_no)); (exact rfl))
    | ((with_reducible (apply RnG_un)); (exact rfl))
    | (apply RnG_never; (focus (intro K0; (try simp only [go_sem, Nat.reduceEqDiff, ↓reduceIte]); exact ⟨id⟩)); (exact rfl))
    | (apply RnG_lazy; (exact rfl); (focus (intro K0; (try simp only [go_sem, Nat.reduceEqDiff, ↓reduceIte]); exact ⟨id⟩)); (focus (first | (simp only [Nat.reduceLT]; done) | omega)); (focus (intro hw0; (try simp only [Bool.and_eq_true, Bool.not_eq_true', beq_true', beq_false'] at hw0); (focus (intro K0; (try simp only [go_sem, ↓reduceIte, Nat.reduceEqDiff, Nat.reduceAdd, Nat.reduceSub, Nat.reduceMul, Nat.reduceLT, Nat.reduceLeDiff, reduceCtorEq, Int.reduceLT, Int.reduceLE, Int.reduceAdd, Int.reduceSub, Int.reduceMul, Int.reduceToNat, Int.reduceNeg, Int.reduceEq, *]); (first | exact ⟨id⟩ | (refine ⟨fun h => ?_⟩; (repeat' (first | exact h | refine And.intro ?_ ?_ | omega)); done)))))))
    | (apply Rn_c; (focus (intro K0; (try simp only [lookT, ev, Nat.reduceEqDiff, ↓reduceIte]); exact ⟨id⟩)))
    | (with_reducible (refine RnC_t ?_))
    | (with_reducible (refine RnC_f ?_))
    | (refine Rn_skip ?_)
    | (refine Rn_exit rfl ?_)
    | (refine Rn_b ?_)
    | (apply Rn_draw' [(0, [0, 1, 2]), (1, [0, 4, 5]), (2, [0, 4, 5, 7, 8]), (3, [0, 4, 5, 7, 8, 9, 10]), (4, [0, 4, 5, 7, 8, 9, 10, 11, 12]), (5, [4, 7, 8, 9, 10, 11, 12, 13, 14])]; (exact rfl))
    | (refine Rn_draw ?_)
    | (apply Rd_op'; (exact rfl))
    | (refine Rd_nil (by kernel_rfl) ?_)
    | (apply Rd_g; (exact rfl); (exact rfl); (focus (intro K0; (try simp only [lookT, ev, Nat.reduceEqDiff, ↓reduceIte]); exact ⟨id⟩)))
    | (with_reducible (apply RdG_yes))
    | ((with_reducible (apply RdG_t_no)); (exact rfl))
    | ((with_reducible (apply RdG_f_no)); (exact rfl))
    | ((with_reducible (apply RdG_un)); (exact rfl))
    | (apply RdG_never; (focus (intro K0; (try simp only [go_sem, Nat.reduceEqDiff, ↓reduceIte]); exact ⟨id⟩)); (exact rfl))
    | (apply RdG_lazy; (exact rfl); (focus (intro K0; (try simp only [go_sem, Nat.reduceEqDiff, ↓reduceIte]); exact ⟨id⟩)); (focus (first | (simp only [Nat.reduceLT]; done) | omega)); (focus (intro hw0; (try simp only [Bool.and_eq_true, Bool.not_eq_true', beq_true', beq_false'] at hw0); (focus (intro K0; (try simp only [go_sem, ↓reduceIte, Nat.reduceEqDiff, Nat.reduceAdd, Nat.reduceSub, Nat.reduceMul, Nat.reduceLT, Nat.reduceLeDiff, reduceCtorEq, Int.reduceLT, Int.reduceLE, Int.reduceAdd, Int.reduceSub, Int.reduceMul, Int.reduceToNat, Int.reduceNeg, Int.reduceEq, *]); (first | exact ⟨id⟩ | (refine ⟨fun h => ?_⟩; (repeat' (first | exact h | refine And.intro ?_ ?_ | omega)); done)))))))
    | ((with_reducible (first | refine RnG_split (fun h => ?_) (fun h => ?_) | refine RdG_split (fun h => ?_) (fun h => ?_) | refine RnC_split (fun h => ?_) (fun h => ?_))) <;> (have h' := h) <;> (try simp only [decide_eq_true_eq, decide_eq_false_iff_not, Bool.not_eq_true', Bool.not_eq_false', Bool.and_eq_true, Bool.or_eq_true, Bool.or_eq_false_iff, beq_iff_eq, bne_iff_ne, ne_eq, Bool.not_true, Bool.not_false, not_false_eq_true, reduceCtorEq, beq_eq_false_iff_ne, bne_eq_false_iff_eq] at h') <;> (first | apply Rn_st | apply Rd_st))
    | (refine Rn_out_ck rfl rfl ?_)
    | (refine Rn_ret_ck ?_)
    | (refine Rn_ret ?_)
    | (refine Rn_nil_then ?_)
    | (refine LoopN_step (T := [ct_unary, ct_binary, ct_one, ct_two, ct_right, ct_rRight, ct_Truth, ct_rTrue, ct_words, ct_ownWords, ct_eqStr']) ?_)
    | (refine Rn_nil ?_))
  all_goals (try simp only [go_sem, ↓reduceIte, Nat.reduceEqDiff, Nat.reduceAdd, Nat.reduceSub, Nat.reduceMul, Nat.reduceLT, Nat.reduceLeDiff, reduceCtorEq, Int.reduceLT, Int.reduceLE, Int.reduceAdd, Int.reduceSub, Int.reduceMul, Int.reduceToNat, Int.reduceNeg, Int.reduceEq])

end Go.Proofs.YtjbhpoolghfhiaaDoor
