/- The law of what is said of shapes, run. No condition: the contract of the law's function. -/
import Derived.Test.YtjbhpoolghfhiaaSh19
namespace Go.Proofs.Ytjbhpoolghfhiaa
set_option linter.unusedVariables false
set_option linter.unusedSimpArgs false
set_option maxHeartbeats 10000000
open Go
set_option maxRecDepth 10000

section
variable {C : Ctx} {T : List (Ct C)} {r : List It} {st st' : St} {K : Exit → St → Prop}
/-- A nil that is told as no rows. -/
theorem Rn_nilrs (d sz : Nat) (hd : lookT d st.t = NilS) (hr : hasC r = true) (hst : ∀ K0 : St → Prop, Imp (K0 st') (K0 { st with t := putT d (.r (.rs sz [])) st.t })) (hk2 : Rn C T r st' K) : Rn C T r st K := by
  have hk' := (hst fun s => Rn C T r s K).run hk2
  refine Rn_up hr (fun e a w ⟨ho, g, hs⟩ => ⟨ho, g, hs.tell ?_⟩) hk'
  have hv := hs.temps d
  rw [hd] at hv
  rw [inv_v hv]
  exact .r (.nil sz)
end

theorem says_1 (l : List (Int × Int)) (a n : Int) (hw : Wf l) (m : List (Int × Int)) (k e : Int) (hW : withF l a n = (m, k, e)) (hml : m.length ≤ 1000000) (hN : namesF l a = []) (q : Bool) (hc : decide (checkF l = 0) = q) (wl : q = true → IntKind.i64.wrap ((l.length : Int) - 1) = (l.length : Int) - 1) (d1 : q = true → (decide (0 ≤ a) && decide (a ≤ (l.length : Int) - 1)) = false)
    (hlenI : ∀ l : List Int, (l.map intR).length = l.length) (hlenS : ∀ l : List (Int × Int), (l.map shapeR).length = l.length) (hI : idxF ([] : List Int) n = -1) (h0 : decide (n ∈ ([] : List Int)) = false) : FC Cx 3 [shapesV l, Iv a, Iv n] [] (Bv true) [] := by
  refine FCp_of [ct_with', ct_refWith, ct_fault, ct_check', ct_eqS', ct_between, ct_refNames, ct_slot, ct_idxI', ct_Names, ct_eqI', ct_hasI] Try.func3 rfl Try.ntmps3 (by simp) Try.results3 rfl ?_
  apply Rn_st; (intro K0; simp only [go_sem, ↓reduceIte, Nat.reduceEqDiff, Nat.reduceAdd, Nat.reduceSub, Nat.reduceMul, Nat.reduceLT, Nat.reduceLeDiff, reduceCtorEq, Int.reduceLT, Int.reduceLE, Int.reduceAdd, Int.reduceSub, Int.reduceMul, Int.reduceToNat, Int.reduceNeg, Int.reduceEq]; exact ⟨id⟩)
  repeat' (first
    | (focus (intro K0; (try simp only [go_sem, ↓reduceIte, Nat.reduceEqDiff, Nat.reduceAdd, Nat.reduceSub, Nat.reduceMul, Nat.reduceLT, Nat.reduceLeDiff, reduceCtorEq, Int.reduceLT, Int.reduceLE, Int.reduceAdd, Int.reduceSub, Int.reduceMul, Int.reduceToNat, Int.reduceNeg, Int.reduceEq, *]); (first | exact ⟨id⟩ | (refine ⟨fun h => ?_⟩; (repeat' (first | exact h | refine And.intro ?_ ?_ | omega)); done))))
    | (refine Rn_seq ?_)
    | (refine Rn_block ?_)
    | (apply Rn_region' [(0, [0, 1, 2]), (1, [0, 1, 2]), (2, [0, 1, 2, 7, 8, 9]), (3, [0, 1, 2, 7, 8, 9, 10, 11, 12]), (4, [0, 1, 2, 7, 8, 9, 10, 11, 12, 13]), (5, []), (6, [0, 1, 2, 13]), (7, [0, 1, 2, 13, 14]), (8, [0, 1, 2]), (10, [0, 1, 2, 14, 15, 16]), (11, [0, 1, 2, 14, 15, 16, 17])]; (exact rfl))
    | (apply Rn_op'; (exact rfl))
    | (refine Rn_o_nil ?_)
    | (apply Rn_g; (exact rfl); (exact rfl); (focus (intro K0; (try simp only [lookT, ev, Nat.reduceEqDiff, ↓reduceIte]); exact ⟨id⟩)))
    | (with_reducible (apply RnG_yes))
    | ((with_reducible (apply RnG_t_no)); (exact rfl))
    | ((with_reducible (apply RnG_f_no)); (exact rfl))
    | ((with_reducible (apply RnG_un)); (exact rfl))
    | (apply RnG_never; (focus (intro K0; (try simp only [go_sem, Nat.reduceEqDiff, ↓reduceIte]); exact ⟨id⟩)); (exact rfl))
    | (apply RnG_lazy; (exact rfl); (focus (intro K0; (try simp only [go_sem, Nat.reduceEqDiff, ↓reduceIte]); exact ⟨id⟩)); (focus (first | (simp only [Nat.reduceLT]; done) | omega)); (focus (intro hw0; (try simp only [Bool.and_eq_true, Bool.not_eq_true', beq_true', beq_false'] at hw0); (focus (intro K0; (try simp only [go_sem, ↓reduceIte, Nat.reduceEqDiff, Nat.reduceAdd, Nat.reduceSub, Nat.reduceMul, Nat.reduceLT, Nat.reduceLeDiff, reduceCtorEq, Int.reduceLT, Int.reduceLE, Int.reduceAdd, Int.reduceSub, Int.reduceMul, Int.reduceToNat, Int.reduceNeg, Int.reduceEq, *]); (first | exact ⟨id⟩ | (refine ⟨fun h => ?_⟩; (repeat' (first | exact h | refine And.intro ?_ ?_ | omega)); done)))))))
    | (apply Rn_c; (focus (intro K0; (try simp only [lookT, ev, Nat.reduceEqDiff, ↓reduceIte]); exact ⟨id⟩)))
    | (with_reducible (refine RnC_t ?_))
    | (with_reducible (refine RnC_f ?_))
    | (refine Rn_skip ?_)
    | (refine Rn_exit rfl ?_)
    | (refine Rn_b ?_)
    | (apply Rn_draw' [(0, [0, 1, 2]), (1, [0, 1, 2]), (2, [0, 1, 2, 7, 8, 9]), (3, [0, 1, 2, 7, 8, 9, 10, 11, 12]), (4, [0, 1, 2, 7, 8, 9, 10, 11, 12, 13]), (5, []), (6, [0, 1, 2, 13]), (7, [0, 1, 2, 13, 14]), (8, [0, 1, 2]), (10, [0, 1, 2, 14, 15, 16]), (11, [0, 1, 2, 14, 15, 16, 17])]; (exact rfl))
    | (refine Rn_draw ?_)
    | (apply Rd_op'; (exact rfl))
    | (refine Rd_nil (by kernel_rfl) ?_)
    | (apply Rd_g; (exact rfl); (exact rfl); (focus (intro K0; (try simp only [lookT, ev, Nat.reduceEqDiff, ↓reduceIte]); exact ⟨id⟩)))
    | (with_reducible (apply RdG_yes))
    | ((with_reducible (apply RdG_t_no)); (exact rfl))
    | ((with_reducible (apply RdG_f_no)); (exact rfl))
    | ((with_reducible (apply RdG_un)); (exact rfl))
    | (apply RdG_never; (focus (intro K0; (try simp only [go_sem, Nat.reduceEqDiff, ↓reduceIte]); exact ⟨id⟩)); (exact rfl))
    | (apply RdG_lazy; (exact rfl); (focus (intro K0; (try simp only [go_sem, Nat.reduceEqDiff, ↓reduceIte]); exact ⟨id⟩)); (focus (first | (simp only [Nat.reduceLT]; done) | omega)); (focus (intro hw0; (try simp only [Bool.and_eq_true, Bool.not_eq_true', beq_true', beq_false'] at hw0); (focus (intro K0; (try simp only [go_sem, ↓reduceIte, Nat.reduceEqDiff, Nat.reduceAdd, Nat.reduceSub, Nat.reduceMul, Nat.reduceLT, Nat.reduceLeDiff, reduceCtorEq, Int.reduceLT, Int.reduceLE, Int.reduceAdd, Int.reduceSub, Int.reduceMul, Int.reduceToNat, Int.reduceNeg, Int.reduceEq, *]); (first | exact ⟨id⟩ | (refine ⟨fun h => ?_⟩; (repeat' (first | exact h | refine And.intro ?_ ?_ | omega)); done)))))))
    | ((with_reducible (first | refine RnG_split (fun h => ?_) (fun h => ?_) | refine RdG_split (fun h => ?_) (fun h => ?_) | refine RnC_split (fun h => ?_) (fun h => ?_))) <;> (have h' := h) <;> (try simp only [decide_eq_true_eq, decide_eq_false_iff_not, Bool.not_eq_true', Bool.not_eq_false', Bool.and_eq_true, Bool.or_eq_true, Bool.or_eq_false_iff, beq_iff_eq, bne_iff_ne, ne_eq, Bool.not_true, Bool.not_false, not_false_eq_true, reduceCtorEq, beq_eq_false_iff_ne, bne_eq_false_iff_eq] at h') <;> (first | apply Rn_st | apply Rd_st))
    | (refine Rn_out_ck rfl rfl ?_)
    | (refine Rn_ret_ck ?_)
    | (refine Rn_ret ?_)
    | (refine Rn_nil_then ?_)
    | (refine LoopN_step (T := [ct_with', ct_refWith, ct_fault, ct_check', ct_eqS', ct_between, ct_refNames, ct_slot, ct_idxI', ct_Names, ct_eqI', ct_hasI]) ?_)
    | (refine Rn_nil ?_))
  apply Rn_nilrs 14 1 rfl rfl
  · intro K0; (try simp only [go_sem, ↓reduceIte, Nat.reduceEqDiff, Nat.reduceAdd, Nat.reduceSub, Nat.reduceMul, Nat.reduceLT, Nat.reduceLeDiff, reduceCtorEq, Int.reduceLT, Int.reduceLE, Int.reduceAdd, Int.reduceSub, Int.reduceMul, Int.reduceToNat, Int.reduceNeg, Int.reduceEq, *]); exact ⟨id⟩
  repeat' (first
    | (focus (intro K0; (try simp only [go_sem, ↓reduceIte, Nat.reduceEqDiff, Nat.reduceAdd, Nat.reduceSub, Nat.reduceMul, Nat.reduceLT, Nat.reduceLeDiff, reduceCtorEq, Int.reduceLT, Int.reduceLE, Int.reduceAdd, Int.reduceSub, Int.reduceMul, Int.reduceToNat, Int.reduceNeg, Int.reduceEq, *]); (first | exact ⟨id⟩ | (refine ⟨fun h => ?_⟩; (repeat' (first | exact h | refine And.intro ?_ ?_ | omega)); done))))
    | (refine Rn_seq ?_)
    | (refine Rn_block ?_)
    | (apply Rn_region' [(0, [0, 1, 2]), (1, [0, 1, 2]), (2, [0, 1, 2, 7, 8, 9]), (3, [0, 1, 2, 7, 8, 9, 10, 11, 12]), (4, [0, 1, 2, 7, 8, 9, 10, 11, 12, 13]), (5, []), (6, [0, 1, 2, 13]), (7, [0, 1, 2, 13, 14]), (8, [0, 1, 2]), (9, [0, 1, 2, 14]), (10, [0, 1, 2, 14, 15, 16]), (11, [0, 1, 2, 14, 15, 16, 17])]; (exact rfl))
    | (refine Rn_region ?_)
    | (apply Rn_op'; (exact rfl))
    | (refine Rn_o_nil ?_)
    | (apply Rn_g; (exact rfl); (exact rfl); (focus (intro K0; (try simp only [lookT, ev, Nat.reduceEqDiff, ↓reduceIte]); exact ⟨id⟩)))
    | (with_reducible (apply RnG_yes))
    | ((with_reducible (apply RnG_t_no)); (exact rfl))
    | ((with_reducible (apply RnG_f_no)); (exact rfl))
    | ((with_reducible (apply RnG_un)); (exact rfl))
    | (apply RnG_never; (focus (intro K0; (try simp only [go_sem, Nat.reduceEqDiff, ↓reduceIte]); exact ⟨id⟩)); (exact rfl))
    | (apply RnG_lazy; (exact rfl); (focus (intro K0; (try simp only [go_sem, Nat.reduceEqDiff, ↓reduceIte]); exact ⟨id⟩)); (focus (first | (simp only [Nat.reduceLT]; done) | omega)); (focus (intro hw0; (try simp only [Bool.and_eq_true, Bool.not_eq_true', beq_true', beq_false'] at hw0); (focus (intro K0; (try simp only [go_sem, ↓reduceIte, Nat.reduceEqDiff, Nat.reduceAdd, Nat.reduceSub, Nat.reduceMul, Nat.reduceLT, Nat.reduceLeDiff, reduceCtorEq, Int.reduceLT, Int.reduceLE, Int.reduceAdd, Int.reduceSub, Int.reduceMul, Int.reduceToNat, Int.reduceNeg, Int.reduceEq, *]); (first | exact ⟨id⟩ | (refine ⟨fun h => ?_⟩; (repeat' (first | exact h | refine And.intro ?_ ?_ | omega)); done)))))))
    | (apply Rn_c; (focus (intro K0; (try simp only [lookT, ev, Nat.reduceEqDiff, ↓reduceIte]); exact ⟨id⟩)))
    | (with_reducible (refine RnC_t ?_))
    | (with_reducible (refine RnC_f ?_))
    | (refine Rn_skip ?_)
    | (refine Rn_exit rfl ?_)
    | (refine Rn_b ?_)
    | (apply Rn_draw' [(0, [0, 1, 2]), (1, [0, 1, 2]), (2, [0, 1, 2, 7, 8, 9]), (3, [0, 1, 2, 7, 8, 9, 10, 11, 12]), (4, [0, 1, 2, 7, 8, 9, 10, 11, 12, 13]), (5, []), (6, [0, 1, 2, 13]), (7, [0, 1, 2, 13, 14]), (8, [0, 1, 2]), (9, [0, 1, 2, 14]), (10, [0, 1, 2, 14, 15, 16]), (11, [0, 1, 2, 14, 15, 16, 17])]; (exact rfl))
    | (refine Rn_draw ?_)
    | (apply Rd_op'; (exact rfl))
    | (refine Rd_nil (by kernel_rfl) ?_)
    | (apply Rd_g; (exact rfl); (exact rfl); (focus (intro K0; (try simp only [lookT, ev, Nat.reduceEqDiff, ↓reduceIte]); exact ⟨id⟩)))
    | (with_reducible (apply RdG_yes))
    | ((with_reducible (apply RdG_t_no)); (exact rfl))
    | ((with_reducible (apply RdG_f_no)); (exact rfl))
    | ((with_reducible (apply RdG_un)); (exact rfl))
    | (apply RdG_never; (focus (intro K0; (try simp only [go_sem, Nat.reduceEqDiff, ↓reduceIte]); exact ⟨id⟩)); (exact rfl))
    | (apply RdG_lazy; (exact rfl); (focus (intro K0; (try simp only [go_sem, Nat.reduceEqDiff, ↓reduceIte]); exact ⟨id⟩)); (focus (first | (simp only [Nat.reduceLT]; done) | omega)); (focus (intro hw0; (try simp only [Bool.and_eq_true, Bool.not_eq_true', beq_true', beq_false'] at hw0); (focus (intro K0; (try simp only [go_sem, ↓reduceIte, Nat.reduceEqDiff, Nat.reduceAdd, Nat.reduceSub, Nat.reduceMul, Nat.reduceLT, Nat.reduceLeDiff, reduceCtorEq, Int.reduceLT, Int.reduceLE, Int.reduceAdd, Int.reduceSub, Int.reduceMul, Int.reduceToNat, Int.reduceNeg, Int.reduceEq, *]); (first | exact ⟨id⟩ | (refine ⟨fun h => ?_⟩; (repeat' (first | exact h | refine And.intro ?_ ?_ | omega)); done)))))))
    | ((with_reducible (first | refine RnG_split (fun h => ?_) (fun h => ?_) | refine RdG_split (fun h => ?_) (fun h => ?_) | refine RnC_split (fun h => ?_) (fun h => ?_))) <;> (have h' := h) <;> (try simp only [decide_eq_true_eq, decide_eq_false_iff_not, Bool.not_eq_true', Bool.not_eq_false', Bool.and_eq_true, Bool.or_eq_true, Bool.or_eq_false_iff, beq_iff_eq, bne_iff_ne, ne_eq, Bool.not_true, Bool.not_false, not_false_eq_true, reduceCtorEq, beq_eq_false_iff_ne, bne_eq_false_iff_eq] at h') <;> (first | apply Rn_st | apply Rd_st))
    | (refine Rn_out_ck rfl rfl ?_)
    | (refine Rn_ret_ck ?_)
    | (refine Rn_ret ?_)
    | (refine Rn_nil_then ?_)
    | (refine LoopN_step (T := [ct_with', ct_refWith, ct_fault, ct_check', ct_eqS', ct_between, ct_refNames, ct_slot, ct_idxI', ct_Names, ct_eqI', ct_hasI]) ?_)
    | (refine Rn_nil ?_))
  all_goals (try simp only [go_sem, ↓reduceIte, Nat.reduceEqDiff, Nat.reduceAdd, Nat.reduceSub, Nat.reduceMul, Nat.reduceLT, Nat.reduceLeDiff, reduceCtorEq, Int.reduceLT, Int.reduceLE, Int.reduceAdd, Int.reduceSub, Int.reduceMul, Int.reduceToNat, Int.reduceNeg, Int.reduceEq])
  simp

theorem says_2 (l : List (Int × Int)) (a n : Int) (hw : Wf l) (m : List (Int × Int)) (k e : Int) (hW : withF l a n = (m, k, e)) (hml : m.length ≤ 1000000) (hN : namesF l a = namesL l a) (hc : checkF l = 0) (wl : IntKind.i64.wrap ((l.length : Int) - 1) = (l.length : Int) - 1) (d1 : decide (0 ≤ a) = true) (d2 : decide (a ≤ (l.length : Int) - 1) = true) (hU : Ups l a) (hl : l.length ≤ 100) (hs : a < l.length) (hn : (namesL l a).length ≤ l.length)
    (hlenI : ∀ l : List Int, (l.map intR).length = l.length) (hlenS : ∀ l : List (Int × Int), (l.map shapeR).length = l.length) (hmax : (if (0 : Int) > idxF (namesL l a) n then 0 else idxF (namesL l a) n) = (if idxF (namesL l a) n < 0 then 0 else idxF (namesL l a) n)) : FC Cx 3 [shapesV l, Iv a, Iv n] [] (Bv true) [] := by
  refine FCp_of [ct_with', ct_refWith, ct_fault, ct_check', ct_eqS', ct_between, ct_refNames, ct_slot, ct_idxI', ct_Names, ct_eqI', ct_hasI] Try.func3 rfl Try.ntmps3 (by simp) Try.results3 rfl ?_
  apply Rn_st; (intro K0; simp only [go_sem, ↓reduceIte, Nat.reduceEqDiff, Nat.reduceAdd, Nat.reduceSub, Nat.reduceMul, Nat.reduceLT, Nat.reduceLeDiff, reduceCtorEq, Int.reduceLT, Int.reduceLE, Int.reduceAdd, Int.reduceSub, Int.reduceMul, Int.reduceToNat, Int.reduceNeg, Int.reduceEq]; exact ⟨id⟩)
  repeat' (first
    | (focus (intro K0; (try simp only [go_sem, ↓reduceIte, Nat.reduceEqDiff, Nat.reduceAdd, Nat.reduceSub, Nat.reduceMul, Nat.reduceLT, Nat.reduceLeDiff, reduceCtorEq, Int.reduceLT, Int.reduceLE, Int.reduceAdd, Int.reduceSub, Int.reduceMul, Int.reduceToNat, Int.reduceNeg, Int.reduceEq, *]); (first | exact ⟨id⟩ | (refine ⟨fun h => ?_⟩; (repeat' (first | exact h | refine And.intro ?_ ?_ | omega)); done))))
    | (refine Rn_seq ?_)
    | (refine Rn_block ?_)
    | (apply Rn_region' [(0, [0, 1, 2]), (1, [0, 1, 2]), (2, [0, 1, 2, 7, 8, 9]), (3, [0, 1, 2, 7, 8, 9, 10, 11, 12]), (4, [0, 1, 2, 7, 8, 9, 10, 11, 12, 13]), (5, []), (6, [0, 1, 2, 13]), (7, [0, 1, 2, 13, 14]), (8, [0, 1, 2]), (9, [0, 1, 2, 14]), (10, [0, 1, 2, 14, 15, 16]), (11, [0, 1, 2, 14, 15, 16, 17])]; (exact rfl))
    | (refine Rn_region ?_)
    | (apply Rn_op'; (exact rfl))
    | (refine Rn_o_nil ?_)
    | (apply Rn_g; (exact rfl); (exact rfl); (focus (intro K0; (try simp only [lookT, ev, Nat.reduceEqDiff, ↓reduceIte]); exact ⟨id⟩)))
    | (with_reducible (apply RnG_yes))
    | ((with_reducible (apply RnG_t_no)); (exact rfl))
    | ((with_reducible (apply RnG_f_no)); (exact rfl))
    | ((with_reducible (apply RnG_un)); (exact rfl))
    | (apply RnG_never; (focus (intro K0; (try simp only [go_sem, Nat.reduceEqDiff, ↓reduceIte]); exact ⟨id⟩)); (exact rfl))
    | (apply RnG_lazy; (exact rfl); (focus (intro K0; (try simp only [go_sem, Nat.reduceEqDiff, ↓reduceIte]); exact ⟨id⟩)); (focus (first | (simp only [Nat.reduceLT]; done) | omega)); (focus (intro hw0; (try simp only [Bool.and_eq_true, Bool.not_eq_true', beq_true', beq_false'] at hw0); (focus (intro K0; (try simp only [go_sem, ↓reduceIte, Nat.reduceEqDiff, Nat.reduceAdd, Nat.reduceSub, Nat.reduceMul, Nat.reduceLT, Nat.reduceLeDiff, reduceCtorEq, Int.reduceLT, Int.reduceLE, Int.reduceAdd, Int.reduceSub, Int.reduceMul, Int.reduceToNat, Int.reduceNeg, Int.reduceEq, *]); (first | exact ⟨id⟩ | (refine ⟨fun h => ?_⟩; (repeat' (first | exact h | refine And.intro ?_ ?_ | omega)); done)))))))
    | (apply Rn_c; (focus (intro K0; (try simp only [lookT, ev, Nat.reduceEqDiff, ↓reduceIte]); exact ⟨id⟩)))
    | (with_reducible (refine RnC_t ?_))
    | (with_reducible (refine RnC_f ?_))
    | (refine Rn_skip ?_)
    | (refine Rn_exit rfl ?_)
    | (refine Rn_b ?_)
    | (apply Rn_draw' [(0, [0, 1, 2]), (1, [0, 1, 2]), (2, [0, 1, 2, 7, 8, 9]), (3, [0, 1, 2, 7, 8, 9, 10, 11, 12]), (4, [0, 1, 2, 7, 8, 9, 10, 11, 12, 13]), (5, []), (6, [0, 1, 2, 13]), (7, [0, 1, 2, 13, 14]), (8, [0, 1, 2]), (9, [0, 1, 2, 14]), (10, [0, 1, 2, 14, 15, 16]), (11, [0, 1, 2, 14, 15, 16, 17])]; (exact rfl))
    | (refine Rn_draw ?_)
    | (apply Rd_op'; (exact rfl))
    | (refine Rd_nil (by kernel_rfl) ?_)
    | (apply Rd_g; (exact rfl); (exact rfl); (focus (intro K0; (try simp only [lookT, ev, Nat.reduceEqDiff, ↓reduceIte]); exact ⟨id⟩)))
    | (with_reducible (apply RdG_yes))
    | ((with_reducible (apply RdG_t_no)); (exact rfl))
    | ((with_reducible (apply RdG_f_no)); (exact rfl))
    | ((with_reducible (apply RdG_un)); (exact rfl))
    | (apply RdG_never; (focus (intro K0; (try simp only [go_sem, Nat.reduceEqDiff, ↓reduceIte]); exact ⟨id⟩)); (exact rfl))
    | (apply RdG_lazy; (exact rfl); (focus (intro K0; (try simp only [go_sem, Nat.reduceEqDiff, ↓reduceIte]); exact ⟨id⟩)); (focus (first | (simp only [Nat.reduceLT]; done) | omega)); (focus (intro hw0; (try simp only [Bool.and_eq_true, Bool.not_eq_true', beq_true', beq_false'] at hw0); (focus (intro K0; (try simp only [go_sem, ↓reduceIte, Nat.reduceEqDiff, Nat.reduceAdd, Nat.reduceSub, Nat.reduceMul, Nat.reduceLT, Nat.reduceLeDiff, reduceCtorEq, Int.reduceLT, Int.reduceLE, Int.reduceAdd, Int.reduceSub, Int.reduceMul, Int.reduceToNat, Int.reduceNeg, Int.reduceEq, *]); (first | exact ⟨id⟩ | (refine ⟨fun h => ?_⟩; (repeat' (first | exact h | refine And.intro ?_ ?_ | omega)); done)))))))
    | ((with_reducible (first | refine RnG_split (fun h => ?_) (fun h => ?_) | refine RdG_split (fun h => ?_) (fun h => ?_) | refine RnC_split (fun h => ?_) (fun h => ?_))) <;> (have h' := h) <;> (try simp only [decide_eq_true_eq, decide_eq_false_iff_not, Bool.not_eq_true', Bool.not_eq_false', Bool.and_eq_true, Bool.or_eq_true, Bool.or_eq_false_iff, beq_iff_eq, bne_iff_ne, ne_eq, Bool.not_true, Bool.not_false, not_false_eq_true, reduceCtorEq, beq_eq_false_iff_ne, bne_eq_false_iff_eq] at h') <;> (first | apply Rn_st | apply Rd_st))
    | (refine Rn_out_ck rfl rfl ?_)
    | (refine Rn_ret_ck ?_)
    | (refine Rn_ret ?_)
    | (refine Rn_nil_then ?_)
    | (refine LoopN_step (T := [ct_with', ct_refWith, ct_fault, ct_check', ct_eqS', ct_between, ct_refNames, ct_slot, ct_idxI', ct_Names, ct_eqI', ct_hasI]) ?_)
    | (refine Rn_nil ?_))
  all_goals (try simp only [go_sem, ↓reduceIte, Nat.reduceEqDiff, Nat.reduceAdd, Nat.reduceSub, Nat.reduceMul, Nat.reduceLT, Nat.reduceLeDiff, reduceCtorEq, Int.reduceLT, Int.reduceLE, Int.reduceAdd, Int.reduceSub, Int.reduceMul, Int.reduceToNat, Int.reduceNeg, Int.reduceEq])

theorem with_len (l : List (Int × Int)) (a n : Int) : (withF l a n).1.length ≤ 1000000 := by
  by_cases h : (withF l a n).2.2 = 0
  · obtain ⟨⟨m, k, e⟩, hW⟩ : ∃ y, withF l a n = y := ⟨_, rfl⟩
    rw [hW] at h ⊢
    dsimp only at h
    subst h
    have := (good_ups (grows hW).2.1 a).2.1
    show m.length ≤ _
    omega
  · rw [with_bad h]; exact Nat.zero_le _

theorem says_c (l : List (Int × Int)) (a n : Int) (hw : Wf l) : FC Cx 3 [shapesV l, Iv a, Iv n] [] (Bv true) [] := by
  have hml := with_len l a n
  obtain ⟨⟨m, k, e⟩, hW⟩ : ∃ y, withF l a n = y := ⟨_, rfl⟩
  rw [hW] at hml
  by_cases h : checkF l = 0 ∧ 0 ≤ a ∧ a < l.length
  · obtain ⟨hc, h1, h2⟩ := h
    have hg := good_ups hc a
    refine says_2 l a n hw m k e hW hml (by rw [namesF, if_pos ⟨hc, h1, h2⟩]) hc (by have := hg.2.1; rw [wrap_id] <;> omega) (by rw [decide_eq_true_eq]; exact h1) (by rw [decide_eq_true_eq]; omega) hg.1 hg.2.1 h2 (namesL_len l a) (fun l => List.length_map ..) (fun l => List.length_map ..) ?_
    split <;> rfl
  · refine says_1 l a n hw m k e hW hml (by rw [namesF, if_neg h]) _ rfl (fun hq => ?_) (fun hq => ?_) (fun l => List.length_map ..) (fun l => List.length_map ..) rfl (by simp)
    · have := (good_ups (by simpa using hq) a).2.1
      rw [wrap_id] <;> omega
    · have hc : checkF l = 0 := by simpa using hq
      rw [← Bool.not_eq_true, Bool.and_eq_true, decide_eq_true_eq, decide_eq_true_eq]
      exact fun h3 => h ⟨hc, h3.1, by omega⟩

end Go.Proofs.Ytjbhpoolghfhiaa
