/- The law of shapes that are asked again, run. No condition: the contract of the law's function. -/
import Derived.Test.YtjbhpoolghfhiaaSh12
namespace Go.Proofs.Ytjbhpoolghfhiaa
set_option linter.unusedVariables false
set_option linter.unusedSimpArgs false
set_option maxHeartbeats 10000000
open Go
set_option maxRecDepth 10000

def subT : List (Nat × AV) → List (Nat × AV) → Prop
  | [], _ => True
  | (k, x) :: l, t => lookT k t = x ∧ subT l t
theorem subT_ok : ∀ {t' t : List (Nat × AV)}, subT t' t → ∀ d, lookT d t' = .any ∨ lookT d t' = lookT d t
  | [], _, _, d => .inl rfl
  | (k, x) :: l, t, h, d => by
    show (if d = k then x else lookT d l) = .any ∨ (if d = k then x else lookT d l) = lookT d t
    by_cases hd : d = k
    · right; rw [if_pos hd, hd]; exact h.1.symm
    · rw [if_neg hd]; exact subT_ok h.2 d
theorem Le_sub {s s' : St} (hn : s'.n = s.n) (ht : subT s'.t s.t) (hr : leRs s.rs s'.rs) : Le s s' := ⟨hn, subT_ok ht, leRs_ok hr⟩

theorem WfI_small (n : Int) (h1 : 0 ≤ n) (h2 : n ≤ 1000) : WfI n := by
  unfold WfI
  simp [Lit.wf, IntKind.min, IntKind.max, IntKind.signed, IntKind.bits]
  omega

theorem one_1 (l : List (Int × Int)) (xs : List Int) (hw : Wf l) (d0 : decide (checkF l = 0) = false) : FC Cx 5 [shapesV l, intsV xs] [] (Bv true) [] := by
  refine FCp_of [ct_with', ct_shapeLives, ct_check', ct_Names, ct_eqI'] Try.func5 rfl Try.ntmps5 (by simp) Try.results5 rfl ?_
  apply Rn_st; (intro K0; simp only [go_sem, ↓reduceIte, Nat.reduceEqDiff, Nat.reduceAdd, Nat.reduceSub, Nat.reduceMul, Nat.reduceLT, Nat.reduceLeDiff, reduceCtorEq, Int.reduceLT, Int.reduceLE, Int.reduceAdd, Int.reduceSub, Int.reduceMul, Int.reduceToNat, Int.reduceNeg, Int.reduceEq]; exact ⟨id⟩)
  repeat' (first
    | (focus (intro K0; (try simp only [go_sem, ↓reduceIte, Nat.reduceEqDiff, Nat.reduceAdd, Nat.reduceSub, Nat.reduceMul, Nat.reduceLT, Nat.reduceLeDiff, reduceCtorEq, Int.reduceLT, Int.reduceLE, Int.reduceAdd, Int.reduceSub, Int.reduceMul, Int.reduceToNat, Int.reduceNeg, Int.reduceEq, *]); (first | exact ⟨id⟩ | (refine ⟨fun h => ?_⟩; (repeat' (first | exact h | refine And.intro ?_ ?_ | omega)); done))))
    | (refine Rn_seq ?_)
    | (refine Rn_block ?_)
    | (apply Rn_region' [(0, [0, 1]), (1, [0, 1]), (2, []), (3, [0, 1]), (4, [1, 5, 6]), (5, [1, 5, 6, 31, 32, 33]), (6, [1, 5, 6, 31, 32, 33]), (7, [1, 5, 6, 8, 31, 32, 33]), (8, [1, 9, 10, 11, 31, 32, 33]), (9, []), (10, [1, 9, 10, 31, 32, 33]), (11, [1, 5, 6, 31, 32, 33]), (12, [1, 5, 6]), (13, [1, 5, 6, 12]), (14, [1, 5, 6, 12, 54, 55, 56]), (15, [1, 5, 6, 12, 54, 55, 56]), (16, [1, 5, 6, 12, 14, 54, 55, 56]), (17, [1, 5, 6, 15, 16, 17, 54, 55, 56]), (18, []), (19, [1, 5, 6, 16, 54, 55, 56]), (20, [1, 5, 6, 12, 54, 55, 56]), (21, [1, 5, 6, 12])]; (exact rfl))
    | (refine Rn_region ?_)
    | (apply Rn_op'; (exact rfl))
    | (refine Rn_o_nil ?_)
    | (apply Rn_g; (exact rfl); (exact rfl); (focus (intro K0; (try simp only [lookT, ev, Nat.reduceEqDiff, ↓reduceIte]); exact ⟨id⟩)))
    | (with_reducible (apply RnG_yes))
    | ((with_reducible (apply RnG_t_no)); (exact rfl))
    | ((with_reducible (apply RnG_f_no)); (exact rfl))
    | ((with_reducible (apply RnG_un)); (exact rfl))
    | (apply RnG_never; (focus (intro K0; (try simp only [go_sem, Nat.reduceEqDiff, ↓reduceIte]); exact ⟨id⟩)); (exact rfl))
    | (apply RnG_lazy; (exact rfl); (focus (intro K0; (try simp only [go_sem, Nat.reduceEqDiff, ↓reduceIte]); exact ⟨id⟩)); (focus (first | (simp only [Nat.reduceLT]; done) | omega)); (focus (intro hw0; (try simp only [Bool.and_eq_true, Bool.not_eq_true', beq_true', beq_false'] at hw0); (focus (intro K0; (try simp only [go_sem, ↓reduceIte, Nat.reduceEqDiff, Nat.reduceAdd, Nat.reduceSub, Nat.reduceMul, Nat.reduceLT, Nat.reduceLeDiff, reduceCtorEq, Int.reduceLT, Int.reduceLE, Int.reduceAdd, Int.reduceSub, Int.reduceMul, Int.reduceToNat, Int.reduceNeg, Int.reduceEq, *]); (first | exact ⟨id⟩ | (refine ⟨fun h => ?_⟩; (repeat' (first | exact h | refine And.intro ?_ ?_ | omega)); done)))))))
    | (apply Rn_c; (focus (intro K0; (try simp only [lookT, ev, Nat.reduceEqDiff, ↓reduceIte]); exact ⟨id⟩)))
    | (with_reducible (refine RnC_t ?_))
    | (with_reducible (refine RnC_f ?_))
    | (refine Rn_skip ?_)
    | (refine Rn_exit rfl ?_)
    | (refine Rn_b ?_)
    | (apply Rn_draw' [(0, [0, 1]), (1, [0, 1]), (2, []), (3, [0, 1]), (4, [1, 5, 6]), (5, [1, 5, 6, 31, 32, 33]), (6, [1, 5, 6, 31, 32, 33]), (7, [1, 5, 6, 8, 31, 32, 33]), (8, [1, 9, 10, 11, 31, 32, 33]), (9, []), (10, [1, 9, 10, 31, 32, 33]), (11, [1, 5, 6, 31, 32, 33]), (12, [1, 5, 6]), (13, [1, 5, 6, 12]), (14, [1, 5, 6, 12, 54, 55, 56]), (15, [1, 5, 6, 12, 54, 55, 56]), (16, [1, 5, 6, 12, 14, 54, 55, 56]), (17, [1, 5, 6, 15, 16, 17, 54, 55, 56]), (18, []), (19, [1, 5, 6, 16, 54, 55, 56]), (20, [1, 5, 6, 12, 54, 55, 56]), (21, [1, 5, 6, 12])]; (exact rfl))
    | (refine Rn_draw ?_)
    | (apply Rd_op'; (exact rfl))
    | (refine Rd_nil (by kernel_rfl) ?_)
    | (apply Rd_g; (exact rfl); (exact rfl); (focus (intro K0; (try simp only [lookT, ev, Nat.reduceEqDiff, ↓reduceIte]); exact ⟨id⟩)))
    | (with_reducible (apply RdG_yes))
    | ((with_reducible (apply RdG_t_no)); (exact rfl))
    | ((with_reducible (apply RdG_f_no)); (exact rfl))
    | ((with_reducible (apply RdG_un)); (exact rfl))
    | (apply RdG_never; (focus (intro K0; (try simp only [go_sem, Nat.reduceEqDiff, ↓reduceIte]); exact ⟨id⟩)); (exact rfl))
    | (apply RdG_lazy; (exact rfl); (focus (intro K0; (try simp only [go_sem, Nat.reduceEqDiff, ↓reduceIte]); exact ⟨id⟩)); (focus (first | (simp only [Nat.reduceLT]; done) | omega)); (focus (intro hw0; (try simp only [Bool.and_eq_true, Bool.not_eq_true', beq_true', beq_false'] at hw0); (focus (intro K0; (try simp only [go_sem, ↓reduceIte, Nat.reduceEqDiff, Nat.reduceAdd, Nat.reduceSub, Nat.reduceMul, Nat.reduceLT, Nat.reduceLeDiff, reduceCtorEq, Int.reduceLT, Int.reduceLE, Int.reduceAdd, Int.reduceSub, Int.reduceMul, Int.reduceToNat, Int.reduceNeg, Int.reduceEq, *]); (first | exact ⟨id⟩ | (refine ⟨fun h => ?_⟩; (repeat' (first | exact h | refine And.intro ?_ ?_ | omega)); done)))))))
    | ((with_reducible (first | refine RnG_split (fun h => ?_) (fun h => ?_) | refine RdG_split (fun h => ?_) (fun h => ?_) | refine RnC_split (fun h => ?_) (fun h => ?_))) <;> (have h' := h) <;> (try simp only [decide_eq_true_eq, decide_eq_false_iff_not, Bool.not_eq_true', Bool.not_eq_false', Bool.and_eq_true, Bool.or_eq_true, Bool.or_eq_false_iff, beq_iff_eq, bne_iff_ne, ne_eq, Bool.not_true, Bool.not_false, not_false_eq_true, reduceCtorEq, beq_eq_false_iff_ne, bne_eq_false_iff_eq] at h') <;> (first | apply Rn_st | apply Rd_st))
    | (refine Rn_out_ck rfl rfl ?_)
    | (refine Rn_ret_ck ?_)
    | (refine Rn_ret ?_)
    | (refine Rn_nil_then ?_)
    | (refine LoopN_step (T := [ct_with', ct_shapeLives, ct_check', ct_Names, ct_eqI']) ?_)
    | (refine Rn_nil ?_))
  all_goals (try simp only [go_sem, ↓reduceIte, Nat.reduceEqDiff, Nat.reduceAdd, Nat.reduceSub, Nat.reduceMul, Nat.reduceLT, Nat.reduceLeDiff, reduceCtorEq, Int.reduceLT, Int.reduceLE, Int.reduceAdd, Int.reduceSub, Int.reduceMul, Int.reduceToNat, Int.reduceNeg, Int.reduceEq])

theorem one_2 (l : List (Int × Int)) (xs N : List Int) (M : Nat) (hw : Wf l) (hwx : ∀ x ∈ xs, WfI x) (hc : checkF l = 0) (hmin : (if (6 : Int) < (xs.length : Int) then (6 : Int) else (xs.length : Int)) = (M : Int)) (hM : M ≤ xs.length) (hM6 : M ≤ 6) (hN : List.take M xs = N) (hNl : N.length = M)
    (hlenI : ∀ l : List Int, (l.map intR).length = l.length) (hlenS : ∀ l : List (Int × Int), (l.map shapeR).length = l.length) (hcut : List.take M (xs.map intR) = N.map intR) (hMt : Int.toNat (M : Int) = M) (h0l : 0 < l.length) :
    FC Cx 5 [shapesV l, intsV xs] [] (Bv true) [] := by
  refine FCp_of [ct_with', ct_shapeLives, ct_check', ct_Names, ct_eqI'] Try.func5 rfl Try.ntmps5 (by simp) Try.results5 rfl ?_
  apply Rn_st; (intro K0; simp only [go_sem, ↓reduceIte, Nat.reduceEqDiff, Nat.reduceAdd, Nat.reduceSub, Nat.reduceMul, Nat.reduceLT, Nat.reduceLeDiff, reduceCtorEq, Int.reduceLT, Int.reduceLE, Int.reduceAdd, Int.reduceSub, Int.reduceMul, Int.reduceToNat, Int.reduceNeg, Int.reduceEq]; exact ⟨id⟩)
  repeat' (first
    | (focus (intro K0; (try simp only [go_sem, ↓reduceIte, Nat.reduceEqDiff, Nat.reduceAdd, Nat.reduceSub, Nat.reduceMul, Nat.reduceLT, Nat.reduceLeDiff, reduceCtorEq, Int.reduceLT, Int.reduceLE, Int.reduceAdd, Int.reduceSub, Int.reduceMul, Int.reduceToNat, Int.reduceNeg, Int.reduceEq, *]); (first | exact ⟨id⟩ | (refine ⟨fun h => ?_⟩; (repeat' (first | exact h | refine And.intro ?_ ?_ | omega)); done))))
    | (refine Rn_seq ?_)
    | (refine Rn_block ?_)
    | (apply Rn_region' [(0, [0, 1]), (1, [0, 1]), (2, []), (3, [0, 1]), (4, [1, 5, 6]), (5, [1, 5, 6, 31, 32, 33]), (6, [1, 5, 6, 31, 32, 33]), (7, [1, 5, 6, 8, 31, 32, 33]), (8, [1, 9, 10, 11, 31, 32, 33]), (9, []), (10, [1, 9, 10, 31, 32, 33]), (11, [1, 5, 6, 31, 32, 33]), (12, [1, 5, 6]), (13, [1, 5, 6, 12]), (14, [1, 5, 6, 12, 54, 55, 56]), (15, [1, 5, 6, 12, 54, 55, 56]), (16, [1, 5, 6, 12, 14, 54, 55, 56]), (17, [1, 5, 6, 15, 16, 17, 54, 55, 56]), (18, []), (19, [1, 5, 6, 16, 54, 55, 56]), (20, [1, 5, 6, 12, 54, 55, 56]), (21, [1, 5, 6, 12])]; (exact rfl))
    | (refine Rn_region ?_)
    | (apply Rn_op'; (exact rfl))
    | (refine Rn_o_nil ?_)
    | (apply Rn_g; (exact rfl); (exact rfl); (focus (intro K0; (try simp only [lookT, ev, Nat.reduceEqDiff, ↓reduceIte]); exact ⟨id⟩)))
    | (with_reducible (apply RnG_yes))
    | ((with_reducible (apply RnG_t_no)); (exact rfl))
    | ((with_reducible (apply RnG_f_no)); (exact rfl))
    | ((with_reducible (apply RnG_un)); (exact rfl))
    | (apply RnG_never; (focus (intro K0; (try simp only [go_sem, Nat.reduceEqDiff, ↓reduceIte]); exact ⟨id⟩)); (exact rfl))
    | (apply RnG_lazy; (exact rfl); (focus (intro K0; (try simp only [go_sem, Nat.reduceEqDiff, ↓reduceIte]); exact ⟨id⟩)); (focus (first | (simp only [Nat.reduceLT]; done) | omega)); (focus (intro hw0; (try simp only [Bool.and_eq_true, Bool.not_eq_true', beq_true', beq_false'] at hw0); (focus (intro K0; (try simp only [go_sem, ↓reduceIte, Nat.reduceEqDiff, Nat.reduceAdd, Nat.reduceSub, Nat.reduceMul, Nat.reduceLT, Nat.reduceLeDiff, reduceCtorEq, Int.reduceLT, Int.reduceLE, Int.reduceAdd, Int.reduceSub, Int.reduceMul, Int.reduceToNat, Int.reduceNeg, Int.reduceEq, *]); (first | exact ⟨id⟩ | (refine ⟨fun h => ?_⟩; (repeat' (first | exact h | refine And.intro ?_ ?_ | omega)); done)))))))
    | (apply Rn_c; (focus (intro K0; (try simp only [lookT, ev, Nat.reduceEqDiff, ↓reduceIte]); exact ⟨id⟩)))
    | (with_reducible (refine RnC_t ?_))
    | (with_reducible (refine RnC_f ?_))
    | (refine Rn_skip ?_)
    | (refine Rn_exit rfl ?_)
    | (refine Rn_b ?_)
    | (apply Rn_draw' [(0, [0, 1]), (1, [0, 1]), (2, []), (3, [0, 1]), (4, [1, 5, 6]), (5, [1, 5, 6, 31, 32, 33]), (6, [1, 5, 6, 31, 32, 33]), (7, [1, 5, 6, 8, 31, 32, 33]), (8, [1, 9, 10, 11, 31, 32, 33]), (9, []), (10, [1, 9, 10, 31, 32, 33]), (11, [1, 5, 6, 31, 32, 33]), (12, [1, 5, 6]), (13, [1, 5, 6, 12]), (14, [1, 5, 6, 12, 54, 55, 56]), (15, [1, 5, 6, 12, 54, 55, 56]), (16, [1, 5, 6, 12, 14, 54, 55, 56]), (17, [1, 5, 6, 15, 16, 17, 54, 55, 56]), (18, []), (19, [1, 5, 6, 16, 54, 55, 56]), (20, [1, 5, 6, 12, 54, 55, 56]), (21, [1, 5, 6, 12])]; (exact rfl))
    | (refine Rn_draw ?_)
    | (apply Rd_op'; (exact rfl))
    | (refine Rd_nil (by kernel_rfl) ?_)
    | (apply Rd_g; (exact rfl); (exact rfl); (focus (intro K0; (try simp only [lookT, ev, Nat.reduceEqDiff, ↓reduceIte]); exact ⟨id⟩)))
    | (with_reducible (apply RdG_yes))
    | ((with_reducible (apply RdG_t_no)); (exact rfl))
    | ((with_reducible (apply RdG_f_no)); (exact rfl))
    | ((with_reducible (apply RdG_un)); (exact rfl))
    | (apply RdG_never; (focus (intro K0; (try simp only [go_sem, Nat.reduceEqDiff, ↓reduceIte]); exact ⟨id⟩)); (exact rfl))
    | (apply RdG_lazy; (exact rfl); (focus (intro K0; (try simp only [go_sem, Nat.reduceEqDiff, ↓reduceIte]); exact ⟨id⟩)); (focus (first | (simp only [Nat.reduceLT]; done) | omega)); (focus (intro hw0; (try simp only [Bool.and_eq_true, Bool.not_eq_true', beq_true', beq_false'] at hw0); (focus (intro K0; (try simp only [go_sem, ↓reduceIte, Nat.reduceEqDiff, Nat.reduceAdd, Nat.reduceSub, Nat.reduceMul, Nat.reduceLT, Nat.reduceLeDiff, reduceCtorEq, Int.reduceLT, Int.reduceLE, Int.reduceAdd, Int.reduceSub, Int.reduceMul, Int.reduceToNat, Int.reduceNeg, Int.reduceEq, *]); (first | exact ⟨id⟩ | (refine ⟨fun h => ?_⟩; (repeat' (first | exact h | refine And.intro ?_ ?_ | omega)); done)))))))
    | ((with_reducible (first | refine RnG_split (fun h => ?_) (fun h => ?_) | refine RdG_split (fun h => ?_) (fun h => ?_) | refine RnC_split (fun h => ?_) (fun h => ?_))) <;> (have h' := h) <;> (try simp only [decide_eq_true_eq, decide_eq_false_iff_not, Bool.not_eq_true', Bool.not_eq_false', Bool.and_eq_true, Bool.or_eq_true, Bool.or_eq_false_iff, beq_iff_eq, bne_iff_ne, ne_eq, Bool.not_true, Bool.not_false, not_false_eq_true, reduceCtorEq, beq_eq_false_iff_ne, bne_eq_false_iff_eq] at h') <;> (first | apply Rn_st | apply Rd_st))
    | (refine Rn_out_ck rfl rfl ?_)
    | (refine Rn_ret_ck ?_)
    | (refine Rn_ret ?_)
    | (refine Rn_nil_then ?_)
    | (refine LoopN_step (T := [ct_with', ct_shapeLives, ct_check', ct_Names, ct_eqI']) ?_)
    | (refine Rn_nil ?_))
  refine Rn_loopT [1, 5, 6, 31, 32, 33] (fun x : Nat × List (Int × Int) × Int => x.1 ≤ N.length ∧ Wf x.2.1 ∧ steps l 0 (N.take x.1) = some (x.2.1, x.2.2))
    (fun x => ⟨93, [(1, intsV xs), (5, Iv x.2.2), (6, shapesV x.2.1), (31, intsV N), (32, Iv M), (33, Iv x.1)], []⟩) (fun x => N.length - x.1) (0, l, 0) rfl ?_ rfl ⟨Nat.zero_le _, hw, rfl⟩ ?_
  · rfl
  rintro ⟨i, L, c⟩ ⟨hi, hwL, hs⟩
  dsimp only at hi hwL hs
  obtain ⟨f1, f2, f3, _, f5⟩ := steps_facts _ hc (Int.le_refl 0) (by omega) hs
  have hL := (good_ups f1 0).2.1
  by_cases hlt : i < N.length
  · obtain ⟨x, hx⟩ : ∃ x, N[i]? = some x := ⟨N[i], List.getElem?_eq_getElem hlt⟩
    have hg := getD_map intR hx ([] : List RV)
    have hw1 : IntKind.i64.wrap ((i : Int) + 1) = ((i + 1 : Nat) : Int) := by rw [wrap_id] <;> omega
    have h1 : decide ((i : Int) < (M : Int)) = true := by rw [decide_eq_true_eq]; omega
    have h2 : Int.toNat (i : Int) = i := by omega
    have hwx' : WfI x := hwx x (List.mem_of_mem_take (hN ▸ List.mem_of_getElem? hx))
    obtain ⟨⟨m, k, e⟩, hW⟩ : ∃ y, withF L c x = y := ⟨_, rfl⟩
    by_cases he : e = 0
    · subst he
      have hwm := with_wf hW hwL (WfI_small c f2 (by omega)) hwx'
      have hst : steps l 0 (N.take (i + 1)) = some (m, k) := by
        rw [List.take_add_one, hx, steps_app, hs]
        show steps L c [x] = _
        unfold steps
        rw [hW, if_pos rfl]; rfl
      repeat' (first
    | (focus (intro K0; (try simp only [go_sem, ↓reduceIte, Nat.reduceEqDiff, Nat.reduceAdd, Nat.reduceSub, Nat.reduceMul, Nat.reduceLT, Nat.reduceLeDiff, reduceCtorEq, Int.reduceLT, Int.reduceLE, Int.reduceAdd, Int.reduceSub, Int.reduceMul, Int.reduceToNat, Int.reduceNeg, Int.reduceEq, *]); (first | exact ⟨id⟩ | (refine ⟨fun h => ?_⟩; (repeat' (first | exact h | refine And.intro ?_ ?_ | omega)); done))))
    | (refine Rn_seq ?_)
    | (refine Rn_block ?_)
    | (apply Rn_region' [(0, [0, 1]), (1, [0, 1]), (2, []), (3, [0, 1]), (4, [1, 5, 6]), (5, [1, 5, 6, 31, 32, 33]), (6, [1, 5, 6, 31, 32, 33]), (7, [1, 5, 6, 8, 31, 32, 33]), (8, [1, 9, 10, 11, 31, 32, 33]), (9, []), (10, [1, 9, 10, 31, 32, 33]), (11, [1, 5, 6, 31, 32, 33]), (12, [1, 5, 6]), (13, [1, 5, 6, 12]), (14, [1, 5, 6, 12, 54, 55, 56]), (15, [1, 5, 6, 12, 54, 55, 56]), (16, [1, 5, 6, 12, 14, 54, 55, 56]), (17, [1, 5, 6, 15, 16, 17, 54, 55, 56]), (18, []), (19, [1, 5, 6, 16, 54, 55, 56]), (20, [1, 5, 6, 12, 54, 55, 56]), (21, [1, 5, 6, 12])]; (exact rfl))
    | (refine Rn_region ?_)
    | (apply Rn_op'; (exact rfl))
    | (refine Rn_o_nil ?_)
    | (apply Rn_g; (exact rfl); (exact rfl); (focus (intro K0; (try simp only [lookT, ev, Nat.reduceEqDiff, ↓reduceIte]); exact ⟨id⟩)))
    | (with_reducible (apply RnG_yes))
    | ((with_reducible (apply RnG_t_no)); (exact rfl))
    | ((with_reducible (apply RnG_f_no)); (exact rfl))
    | ((with_reducible (apply RnG_un)); (exact rfl))
    | (apply RnG_never; (focus (intro K0; (try simp only [go_sem, Nat.reduceEqDiff, ↓reduceIte]); exact ⟨id⟩)); (exact rfl))
    | (apply RnG_lazy; (exact rfl); (focus (intro K0; (try simp only [go_sem, Nat.reduceEqDiff, ↓reduceIte]); exact ⟨id⟩)); (focus (first | (simp only [Nat.reduceLT]; done) | omega)); (focus (intro hw0; (try simp only [Bool.and_eq_true, Bool.not_eq_true', beq_true', beq_false'] at hw0); (focus (intro K0; (try simp only [go_sem, ↓reduceIte, Nat.reduceEqDiff, Nat.reduceAdd, Nat.reduceSub, Nat.reduceMul, Nat.reduceLT, Nat.reduceLeDiff, reduceCtorEq, Int.reduceLT, Int.reduceLE, Int.reduceAdd, Int.reduceSub, Int.reduceMul, Int.reduceToNat, Int.reduceNeg, Int.reduceEq, *]); (first | exact ⟨id⟩ | (refine ⟨fun h => ?_⟩; (repeat' (first | exact h | refine And.intro ?_ ?_ | omega)); done)))))))
    | (apply Rn_c; (focus (intro K0; (try simp only [lookT, ev, Nat.reduceEqDiff, ↓reduceIte]); exact ⟨id⟩)))
    | (with_reducible (refine RnC_t ?_))
    | (with_reducible (refine RnC_f ?_))
    | (refine Rn_skip ?_)
    | (refine Rn_exit rfl ?_)
    | (refine Rn_b ?_)
    | (apply Rn_draw' [(0, [0, 1]), (1, [0, 1]), (2, []), (3, [0, 1]), (4, [1, 5, 6]), (5, [1, 5, 6, 31, 32, 33]), (6, [1, 5, 6, 31, 32, 33]), (7, [1, 5, 6, 8, 31, 32, 33]), (8, [1, 9, 10, 11, 31, 32, 33]), (9, []), (10, [1, 9, 10, 31, 32, 33]), (11, [1, 5, 6, 31, 32, 33]), (12, [1, 5, 6]), (13, [1, 5, 6, 12]), (14, [1, 5, 6, 12, 54, 55, 56]), (15, [1, 5, 6, 12, 54, 55, 56]), (16, [1, 5, 6, 12, 14, 54, 55, 56]), (17, [1, 5, 6, 15, 16, 17, 54, 55, 56]), (18, []), (19, [1, 5, 6, 16, 54, 55, 56]), (20, [1, 5, 6, 12, 54, 55, 56]), (21, [1, 5, 6, 12])]; (exact rfl))
    | (refine Rn_draw ?_)
    | (apply Rd_op'; (exact rfl))
    | (refine Rd_nil (by kernel_rfl) ?_)
    | (apply Rd_g; (exact rfl); (exact rfl); (focus (intro K0; (try simp only [lookT, ev, Nat.reduceEqDiff, ↓reduceIte]); exact ⟨id⟩)))
    | (with_reducible (apply RdG_yes))
    | ((with_reducible (apply RdG_t_no)); (exact rfl))
    | ((with_reducible (apply RdG_f_no)); (exact rfl))
    | ((with_reducible (apply RdG_un)); (exact rfl))
    | (apply RdG_never; (focus (intro K0; (try simp only [go_sem, Nat.reduceEqDiff, ↓reduceIte]); exact ⟨id⟩)); (exact rfl))
    | (apply RdG_lazy; (exact rfl); (focus (intro K0; (try simp only [go_sem, Nat.reduceEqDiff, ↓reduceIte]); exact ⟨id⟩)); (focus (first | (simp only [Nat.reduceLT]; done) | omega)); (focus (intro hw0; (try simp only [Bool.and_eq_true, Bool.not_eq_true', beq_true', beq_false'] at hw0); (focus (intro K0; (try simp only [go_sem, ↓reduceIte, Nat.reduceEqDiff, Nat.reduceAdd, Nat.reduceSub, Nat.reduceMul, Nat.reduceLT, Nat.reduceLeDiff, reduceCtorEq, Int.reduceLT, Int.reduceLE, Int.reduceAdd, Int.reduceSub, Int.reduceMul, Int.reduceToNat, Int.reduceNeg, Int.reduceEq, *]); (first | exact ⟨id⟩ | (refine ⟨fun h => ?_⟩; (repeat' (first | exact h | refine And.intro ?_ ?_ | omega)); done)))))))
    | ((with_reducible (first | refine RnG_split (fun h => ?_) (fun h => ?_) | refine RdG_split (fun h => ?_) (fun h => ?_) | refine RnC_split (fun h => ?_) (fun h => ?_))) <;> (have h' := h) <;> (try simp only [decide_eq_true_eq, decide_eq_false_iff_not, Bool.not_eq_true', Bool.not_eq_false', Bool.and_eq_true, Bool.or_eq_true, Bool.or_eq_false_iff, beq_iff_eq, bne_iff_ne, ne_eq, Bool.not_true, Bool.not_false, not_false_eq_true, reduceCtorEq, beq_eq_false_iff_ne, bne_eq_false_iff_eq] at h') <;> (first | apply Rn_st | apply Rd_st))
    | (refine Rn_out_ck rfl rfl ?_)
    | (refine Rn_ret_ck ?_)
    | (refine Rn_ret ?_)
    | (refine Rn_nil_then ?_)
    | (refine LoopN_step (T := [ct_with', ct_shapeLives, ct_check', ct_Names, ct_eqI']) ?_)
    | (refine Rn_nil ?_))
      all_goals (try simp only [go_sem, ↓reduceIte, Nat.reduceEqDiff, Nat.reduceAdd, Nat.reduceSub, Nat.reduceMul, Nat.reduceLT, Nat.reduceLeDiff, reduceCtorEq, Int.reduceLT, Int.reduceLE, Int.reduceAdd, Int.reduceSub, Int.reduceMul, Int.reduceToNat, Int.reduceNeg, Int.reduceEq])
      exact ⟨(i + 1, m, k), ⟨by show i + 1 ≤ _; omega, hwm, hst⟩, by show N.length - (i + 1) < _; omega, Le_sub rfl ⟨rfl, rfl, rfl, rfl, rfl, rfl, trivial⟩ trivial⟩
    · have d0 : decide (e = 0) = false := by simpa using he
      repeat' (first
    | (focus (intro K0; (try simp only [go_sem, ↓reduceIte, Nat.reduceEqDiff, Nat.reduceAdd, Nat.reduceSub, Nat.reduceMul, Nat.reduceLT, Nat.reduceLeDiff, reduceCtorEq, Int.reduceLT, Int.reduceLE, Int.reduceAdd, Int.reduceSub, Int.reduceMul, Int.reduceToNat, Int.reduceNeg, Int.reduceEq, *]); (first | exact ⟨id⟩ | (refine ⟨fun h => ?_⟩; (repeat' (first | exact h | refine And.intro ?_ ?_ | omega)); done))))
    | (refine Rn_seq ?_)
    | (refine Rn_block ?_)
    | (apply Rn_region' [(0, [0, 1]), (1, [0, 1]), (2, []), (3, [0, 1]), (4, [1, 5, 6]), (5, [1, 5, 6, 31, 32, 33]), (6, [1, 5, 6, 31, 32, 33]), (7, [1, 5, 6, 8, 31, 32, 33]), (8, [1, 9, 10, 11, 31, 32, 33]), (9, []), (10, [1, 9, 10, 31, 32, 33]), (11, [1, 5, 6, 31, 32, 33]), (12, [1, 5, 6]), (13, [1, 5, 6, 12]), (14, [1, 5, 6, 12, 54, 55, 56]), (15, [1, 5, 6, 12, 54, 55, 56]), (16, [1, 5, 6, 12, 14, 54, 55, 56]), (17, [1, 5, 6, 15, 16, 17, 54, 55, 56]), (18, []), (19, [1, 5, 6, 16, 54, 55, 56]), (20, [1, 5, 6, 12, 54, 55, 56]), (21, [1, 5, 6, 12])]; (exact rfl))
    | (refine Rn_region ?_)
    | (apply Rn_op'; (exact rfl))
    | (refine Rn_o_nil ?_)
    | (apply Rn_g; (exact rfl); (exact rfl); (focus (intro K0; (try simp only [lookT, ev, Nat.reduceEqDiff, ↓reduceIte]); exact ⟨id⟩)))
    | (with_reducible (apply RnG_yes))
    | ((with_reducible (apply RnG_t_no)); (exact rfl))
    | ((with_reducible (apply RnG_f_no)); (exact rfl))
    | ((with_reducible (apply RnG_un)); (exact rfl))
    | (apply RnG_never; (focus (intro K0; (try simp only [go_sem, Nat.reduceEqDiff, ↓reduceIte]); exact ⟨id⟩)); (exact rfl))
    | (apply RnG_lazy; (exact rfl); (focus (intro K0; (try simp only [go_sem, Nat.reduceEqDiff, ↓reduceIte]); exact ⟨id⟩)); (focus (first | (simp only [Nat.reduceLT]; done) | omega)); (focus (intro hw0; (try simp only [Bool.and_eq_true, Bool.not_eq_true', beq_true', beq_false'] at hw0); (focus (intro K0; (try simp only [go_sem, ↓reduceIte, Nat.reduceEqDiff, Nat.reduceAdd, Nat.reduceSub, Nat.reduceMul, Nat.reduceLT, Nat.reduceLeDiff, reduceCtorEq, Int.reduceLT, Int.reduceLE, Int.reduceAdd, Int.reduceSub, Int.reduceMul, Int.reduceToNat, Int.reduceNeg, Int.reduceEq, *]); (first | exact ⟨id⟩ | (refine ⟨fun h => ?_⟩; (repeat' (first | exact h | refine And.intro ?_ ?_ | omega)); done)))))))
    | (apply Rn_c; (focus (intro K0; (try simp only [lookT, ev, Nat.reduceEqDiff, ↓reduceIte]); exact ⟨id⟩)))
    | (with_reducible (refine RnC_t ?_))
    | (with_reducible (refine RnC_f ?_))
    | (refine Rn_skip ?_)
    | (refine Rn_exit rfl ?_)
    | (refine Rn_b ?_)
    | (apply Rn_draw' [(0, [0, 1]), (1, [0, 1]), (2, []), (3, [0, 1]), (4, [1, 5, 6]), (5, [1, 5, 6, 31, 32, 33]), (6, [1, 5, 6, 31, 32, 33]), (7, [1, 5, 6, 8, 31, 32, 33]), (8, [1, 9, 10, 11, 31, 32, 33]), (9, []), (10, [1, 9, 10, 31, 32, 33]), (11, [1, 5, 6, 31, 32, 33]), (12, [1, 5, 6]), (13, [1, 5, 6, 12]), (14, [1, 5, 6, 12, 54, 55, 56]), (15, [1, 5, 6, 12, 54, 55, 56]), (16, [1, 5, 6, 12, 14, 54, 55, 56]), (17, [1, 5, 6, 15, 16, 17, 54, 55, 56]), (18, []), (19, [1, 5, 6, 16, 54, 55, 56]), (20, [1, 5, 6, 12, 54, 55, 56]), (21, [1, 5, 6, 12])]; (exact rfl))
    | (refine Rn_draw ?_)
    | (apply Rd_op'; (exact rfl))
    | (refine Rd_nil (by kernel_rfl) ?_)
    | (apply Rd_g; (exact rfl); (exact rfl); (focus (intro K0; (try simp only [lookT, ev, Nat.reduceEqDiff, ↓reduceIte]); exact ⟨id⟩)))
    | (with_reducible (apply RdG_yes))
    | ((with_reducible (apply RdG_t_no)); (exact rfl))
    | ((with_reducible (apply RdG_f_no)); (exact rfl))
    | ((with_reducible (apply RdG_un)); (exact rfl))
    | (apply RdG_never; (focus (intro K0; (try simp only [go_sem, Nat.reduceEqDiff, ↓reduceIte]); exact ⟨id⟩)); (exact rfl))
    | (apply RdG_lazy; (exact rfl); (focus (intro K0; (try simp only [go_sem, Nat.reduceEqDiff, ↓reduceIte]); exact ⟨id⟩)); (focus (first | (simp only [Nat.reduceLT]; done) | omega)); (focus (intro hw0; (try simp only [Bool.and_eq_true, Bool.not_eq_true', beq_true', beq_false'] at hw0); (focus (intro K0; (try simp only [go_sem, ↓reduceIte, Nat.reduceEqDiff, Nat.reduceAdd, Nat.reduceSub, Nat.reduceMul, Nat.reduceLT, Nat.reduceLeDiff, reduceCtorEq, Int.reduceLT, Int.reduceLE, Int.reduceAdd, Int.reduceSub, Int.reduceMul, Int.reduceToNat, Int.reduceNeg, Int.reduceEq, *]); (first | exact ⟨id⟩ | (refine ⟨fun h => ?_⟩; (repeat' (first | exact h | refine And.intro ?_ ?_ | omega)); done)))))))
    | ((with_reducible (first | refine RnG_split (fun h => ?_) (fun h => ?_) | refine RdG_split (fun h => ?_) (fun h => ?_) | refine RnC_split (fun h => ?_) (fun h => ?_))) <;> (have h' := h) <;> (try simp only [decide_eq_true_eq, decide_eq_false_iff_not, Bool.not_eq_true', Bool.not_eq_false', Bool.and_eq_true, Bool.or_eq_true, Bool.or_eq_false_iff, beq_iff_eq, bne_iff_ne, ne_eq, Bool.not_true, Bool.not_false, not_false_eq_true, reduceCtorEq, beq_eq_false_iff_ne, bne_eq_false_iff_eq] at h') <;> (first | apply Rn_st | apply Rd_st))
    | (refine Rn_out_ck rfl rfl ?_)
    | (refine Rn_ret_ck ?_)
    | (refine Rn_ret ?_)
    | (refine Rn_nil_then ?_)
    | (refine LoopN_step (T := [ct_with', ct_shapeLives, ct_check', ct_Names, ct_eqI']) ?_)
    | (refine Rn_nil ?_))
      all_goals (try simp only [go_sem, ↓reduceIte, Nat.reduceEqDiff, Nat.reduceAdd, Nat.reduceSub, Nat.reduceMul, Nat.reduceLT, Nat.reduceLeDiff, reduceCtorEq, Int.reduceLT, Int.reduceLE, Int.reduceAdd, Int.reduceSub, Int.reduceMul, Int.reduceToNat, Int.reduceNeg, Int.reduceEq])
  · have h1 : decide ((i : Int) < (M : Int)) = false := by rw [decide_eq_false_iff_not]; omega
    rw [List.take_of_length_le (by omega)] at hs
    have hNA : namesF L c = N := by
      rw [f5, namesF, if_pos ⟨hc, Int.le_refl _, by omega⟩, namesL_root l 0 (Int.le_refl _), List.take_of_length_le (by omega)]; rfl
    clear f5 hlt
    repeat' (first
    | (focus (intro K0; (try simp only [go_sem, ↓reduceIte, Nat.reduceEqDiff, Nat.reduceAdd, Nat.reduceSub, Nat.reduceMul, Nat.reduceLT, Nat.reduceLeDiff, reduceCtorEq, Int.reduceLT, Int.reduceLE, Int.reduceAdd, Int.reduceSub, Int.reduceMul, Int.reduceToNat, Int.reduceNeg, Int.reduceEq, *]); (first | exact ⟨id⟩ | (refine ⟨fun h => ?_⟩; (repeat' (first | exact h | refine And.intro ?_ ?_ | omega)); done))))
    | (refine Rn_seq ?_)
    | (refine Rn_block ?_)
    | (apply Rn_region' [(0, [0, 1]), (1, [0, 1]), (2, []), (3, [0, 1]), (4, [1, 5, 6]), (5, [1, 5, 6, 31, 32, 33]), (6, [1, 5, 6, 31, 32, 33]), (7, [1, 5, 6, 8, 31, 32, 33]), (8, [1, 9, 10, 11, 31, 32, 33]), (9, []), (10, [1, 9, 10, 31, 32, 33]), (11, [1, 5, 6, 31, 32, 33]), (12, [1, 5, 6]), (13, [1, 5, 6, 12]), (14, [1, 5, 6, 12, 54, 55, 56]), (15, [1, 5, 6, 12, 54, 55, 56]), (16, [1, 5, 6, 12, 14, 54, 55, 56]), (17, [1, 5, 6, 15, 16, 17, 54, 55, 56]), (18, []), (19, [1, 5, 6, 16, 54, 55, 56]), (20, [1, 5, 6, 12, 54, 55, 56]), (21, [1, 5, 6, 12])]; (exact rfl))
    | (refine Rn_region ?_)
    | (apply Rn_op'; (exact rfl))
    | (refine Rn_o_nil ?_)
    | (apply Rn_g; (exact rfl); (exact rfl); (focus (intro K0; (try simp only [lookT, ev, Nat.reduceEqDiff, ↓reduceIte]); exact ⟨id⟩)))
    | (with_reducible (apply RnG_yes))
    | ((with_reducible (apply RnG_t_no)); (exact rfl))
    | ((with_reducible (apply RnG_f_no)); (exact rfl))
    | ((with_reducible (apply RnG_un)); (exact rfl))
    | (apply RnG_never; (focus (intro K0; (try simp only [go_sem, Nat.reduceEqDiff, ↓reduceIte]); exact ⟨id⟩)); (exact rfl))
    | (apply RnG_lazy; (exact rfl); (focus (intro K0; (try simp only [go_sem, Nat.reduceEqDiff, ↓reduceIte]); exact ⟨id⟩)); (focus (first | (simp only [Nat.reduceLT]; done) | omega)); (focus (intro hw0; (try simp only [Bool.and_eq_true, Bool.not_eq_true', beq_true', beq_false'] at hw0); (focus (intro K0; (try simp only [go_sem, ↓reduceIte, Nat.reduceEqDiff, Nat.reduceAdd, Nat.reduceSub, Nat.reduceMul, Nat.reduceLT, Nat.reduceLeDiff, reduceCtorEq, Int.reduceLT, Int.reduceLE, Int.reduceAdd, Int.reduceSub, Int.reduceMul, Int.reduceToNat, Int.reduceNeg, Int.reduceEq, *]); (first | exact ⟨id⟩ | (refine ⟨fun h => ?_⟩; (repeat' (first | exact h | refine And.intro ?_ ?_ | omega)); done)))))))
    | (apply Rn_c; (focus (intro K0; (try simp only [lookT, ev, Nat.reduceEqDiff, ↓reduceIte]); exact ⟨id⟩)))
    | (with_reducible (refine RnC_t ?_))
    | (with_reducible (refine RnC_f ?_))
    | (refine Rn_skip ?_)
    | (refine Rn_exit rfl ?_)
    | (refine Rn_b ?_)
    | (apply Rn_draw' [(0, [0, 1]), (1, [0, 1]), (2, []), (3, [0, 1]), (4, [1, 5, 6]), (5, [1, 5, 6, 31, 32, 33]), (6, [1, 5, 6, 31, 32, 33]), (7, [1, 5, 6, 8, 31, 32, 33]), (8, [1, 9, 10, 11, 31, 32, 33]), (9, []), (10, [1, 9, 10, 31, 32, 33]), (11, [1, 5, 6, 31, 32, 33]), (12, [1, 5, 6]), (13, [1, 5, 6, 12]), (14, [1, 5, 6, 12, 54, 55, 56]), (15, [1, 5, 6, 12, 54, 55, 56]), (16, [1, 5, 6, 12, 14, 54, 55, 56]), (17, [1, 5, 6, 15, 16, 17, 54, 55, 56]), (18, []), (19, [1, 5, 6, 16, 54, 55, 56]), (20, [1, 5, 6, 12, 54, 55, 56]), (21, [1, 5, 6, 12])]; (exact rfl))
    | (refine Rn_draw ?_)
    | (apply Rd_op'; (exact rfl))
    | (refine Rd_nil (by kernel_rfl) ?_)
    | (apply Rd_g; (exact rfl); (exact rfl); (focus (intro K0; (try simp only [lookT, ev, Nat.reduceEqDiff, ↓reduceIte]); exact ⟨id⟩)))
    | (with_reducible (apply RdG_yes))
    | ((with_reducible (apply RdG_t_no)); (exact rfl))
    | ((with_reducible (apply RdG_f_no)); (exact rfl))
    | ((with_reducible (apply RdG_un)); (exact rfl))
    | (apply RdG_never; (focus (intro K0; (try simp only [go_sem, Nat.reduceEqDiff, ↓reduceIte]); exact ⟨id⟩)); (exact rfl))
    | (apply RdG_lazy; (exact rfl); (focus (intro K0; (try simp only [go_sem, Nat.reduceEqDiff, ↓reduceIte]); exact ⟨id⟩)); (focus (first | (simp only [Nat.reduceLT]; done) | omega)); (focus (intro hw0; (try simp only [Bool.and_eq_true, Bool.not_eq_true', beq_true', beq_false'] at hw0); (focus (intro K0; (try simp only [go_sem, ↓reduceIte, Nat.reduceEqDiff, Nat.reduceAdd, Nat.reduceSub, Nat.reduceMul, Nat.reduceLT, Nat.reduceLeDiff, reduceCtorEq, Int.reduceLT, Int.reduceLE, Int.reduceAdd, Int.reduceSub, Int.reduceMul, Int.reduceToNat, Int.reduceNeg, Int.reduceEq, *]); (first | exact ⟨id⟩ | (refine ⟨fun h => ?_⟩; (repeat' (first | exact h | refine And.intro ?_ ?_ | omega)); done)))))))
    | ((with_reducible (first | refine RnG_split (fun h => ?_) (fun h => ?_) | refine RdG_split (fun h => ?_) (fun h => ?_) | refine RnC_split (fun h => ?_) (fun h => ?_))) <;> (have h' := h) <;> (try simp only [decide_eq_true_eq, decide_eq_false_iff_not, Bool.not_eq_true', Bool.not_eq_false', Bool.and_eq_true, Bool.or_eq_true, Bool.or_eq_false_iff, beq_iff_eq, bne_iff_ne, ne_eq, Bool.not_true, Bool.not_false, not_false_eq_true, reduceCtorEq, beq_eq_false_iff_ne, bne_eq_false_iff_eq] at h') <;> (first | apply Rn_st | apply Rd_st))
    | (refine Rn_out_ck rfl rfl ?_)
    | (refine Rn_ret_ck ?_)
    | (refine Rn_ret ?_)
    | (refine Rn_nil_then ?_)
    | (refine LoopN_step (T := [ct_with', ct_shapeLives, ct_check', ct_Names, ct_eqI']) ?_)
    | (refine Rn_nil ?_))
    clear h1
    refine Rn_loopT [1, 5, 6, 12, 54, 55, 56] (fun x : Nat × Int => x.1 ≤ N.length ∧ ∃ B, steps l 0 (N.take x.1) = some (B, x.2))
      (fun x => ⟨93, [(1, intsV xs), (5, Iv c), (6, shapesV L), (12, Iv x.2), (54, intsV N), (55, Iv M), (56, Iv x.1)], []⟩) (fun x => N.length - x.1) (0, 0) rfl rfl rfl ⟨Nat.zero_le _, l, rfl⟩ ?_
    rintro ⟨j, b⟩ ⟨hj, B, hb⟩
    dsimp only at hj hb
    by_cases hlt : j < N.length
    · obtain ⟨x, hx⟩ : ∃ x, N[j]? = some x := ⟨N[j], List.getElem?_eq_getElem hlt⟩
      have hg := getD_map intR hx ([] : List RV)
      have hw1 : IntKind.i64.wrap ((j : Int) + 1) = ((j + 1 : Nat) : Int) := by rw [wrap_id] <;> omega
      have h1 : decide ((j : Int) < (M : Int)) = true := by rw [decide_eq_true_eq]; omega
      have h2 : Int.toNat (j : Int) = j := by omega
      obtain ⟨B', c', m, k, e1, e2, e3, t, e4⟩ := steps_len hc (Int.le_refl 0) (by omega) hs j x hx
      rw [hb] at e1
      cases e1
      have hW := again e2 f1 e4
      clear e2 e4
      repeat' (first
    | (focus (intro K0; (try simp only [go_sem, ↓reduceIte, Nat.reduceEqDiff, Nat.reduceAdd, Nat.reduceSub, Nat.reduceMul, Nat.reduceLT, Nat.reduceLeDiff, reduceCtorEq, Int.reduceLT, Int.reduceLE, Int.reduceAdd, Int.reduceSub, Int.reduceMul, Int.reduceToNat, Int.reduceNeg, Int.reduceEq, *]); (first | exact ⟨id⟩ | (refine ⟨fun h => ?_⟩; (repeat' (first | exact h | refine And.intro ?_ ?_ | omega)); done))))
    | (refine Rn_seq ?_)
    | (refine Rn_block ?_)
    | (apply Rn_region' [(0, [0, 1]), (1, [0, 1]), (2, []), (3, [0, 1]), (4, [1, 5, 6]), (5, [1, 5, 6, 31, 32, 33]), (6, [1, 5, 6, 31, 32, 33]), (7, [1, 5, 6, 8, 31, 32, 33]), (8, [1, 9, 10, 11, 31, 32, 33]), (9, []), (10, [1, 9, 10, 31, 32, 33]), (11, [1, 5, 6, 31, 32, 33]), (12, [1, 5, 6]), (13, [1, 5, 6, 12]), (14, [1, 5, 6, 12, 54, 55, 56]), (15, [1, 5, 6, 12, 54, 55, 56]), (16, [1, 5, 6, 12, 14, 54, 55, 56]), (17, [1, 5, 6, 15, 16, 17, 54, 55, 56]), (18, []), (19, [1, 5, 6, 16, 54, 55, 56]), (20, [1, 5, 6, 12, 54, 55, 56]), (21, [1, 5, 6, 12])]; (exact rfl))
    | (refine Rn_region ?_)
    | (apply Rn_op'; (exact rfl))
    | (refine Rn_o_nil ?_)
    | (apply Rn_g; (exact rfl); (exact rfl); (focus (intro K0; (try simp only [lookT, ev, Nat.reduceEqDiff, ↓reduceIte]); exact ⟨id⟩)))
    | (with_reducible (apply RnG_yes))
    | ((with_reducible (apply RnG_t_no)); (exact rfl))
    | ((with_reducible (apply RnG_f_no)); (exact rfl))
    | ((with_reducible (apply RnG_un)); (exact rfl))
    | (apply RnG_never; (focus (intro K0; (try simp only [go_sem, Nat.reduceEqDiff, ↓reduceIte]); exact ⟨id⟩)); (exact rfl))
    | (apply RnG_lazy; (exact rfl); (focus (intro K0; (try simp only [go_sem, Nat.reduceEqDiff, ↓reduceIte]); exact ⟨id⟩)); (focus (first | (simp only [Nat.reduceLT]; done) | omega)); (focus (intro hw0; (try simp only [Bool.and_eq_true, Bool.not_eq_true', beq_true', beq_false'] at hw0); (focus (intro K0; (try simp only [go_sem, ↓reduceIte, Nat.reduceEqDiff, Nat.reduceAdd, Nat.reduceSub, Nat.reduceMul, Nat.reduceLT, Nat.reduceLeDiff, reduceCtorEq, Int.reduceLT, Int.reduceLE, Int.reduceAdd, Int.reduceSub, Int.reduceMul, Int.reduceToNat, Int.reduceNeg, Int.reduceEq, *]); (first | exact ⟨id⟩ | (refine ⟨fun h => ?_⟩; (repeat' (first | exact h | refine And.intro ?_ ?_ | omega)); done)))))))
    | (apply Rn_c; (focus (intro K0; (try simp only [lookT, ev, Nat.reduceEqDiff, ↓reduceIte]); exact ⟨id⟩)))
    | (with_reducible (refine RnC_t ?_))
    | (with_reducible (refine RnC_f ?_))
    | (refine Rn_skip ?_)
    | (refine Rn_exit rfl ?_)
    | (refine Rn_b ?_)
    | (apply Rn_draw' [(0, [0, 1]), (1, [0, 1]), (2, []), (3, [0, 1]), (4, [1, 5, 6]), (5, [1, 5, 6, 31, 32, 33]), (6, [1, 5, 6, 31, 32, 33]), (7, [1, 5, 6, 8, 31, 32, 33]), (8, [1, 9, 10, 11, 31, 32, 33]), (9, []), (10, [1, 9, 10, 31, 32, 33]), (11, [1, 5, 6, 31, 32, 33]), (12, [1, 5, 6]), (13, [1, 5, 6, 12]), (14, [1, 5, 6, 12, 54, 55, 56]), (15, [1, 5, 6, 12, 54, 55, 56]), (16, [1, 5, 6, 12, 14, 54, 55, 56]), (17, [1, 5, 6, 15, 16, 17, 54, 55, 56]), (18, []), (19, [1, 5, 6, 16, 54, 55, 56]), (20, [1, 5, 6, 12, 54, 55, 56]), (21, [1, 5, 6, 12])]; (exact rfl))
    | (refine Rn_draw ?_)
    | (apply Rd_op'; (exact rfl))
    | (refine Rd_nil (by kernel_rfl) ?_)
    | (apply Rd_g; (exact rfl); (exact rfl); (focus (intro K0; (try simp only [lookT, ev, Nat.reduceEqDiff, ↓reduceIte]); exact ⟨id⟩)))
    | (with_reducible (apply RdG_yes))
    | ((with_reducible (apply RdG_t_no)); (exact rfl))
    | ((with_reducible (apply RdG_f_no)); (exact rfl))
    | ((with_reducible (apply RdG_un)); (exact rfl))
    | (apply RdG_never; (focus (intro K0; (try simp only [go_sem, Nat.reduceEqDiff, ↓reduceIte]); exact ⟨id⟩)); (exact rfl))
    | (apply RdG_lazy; (exact rfl); (focus (intro K0; (try simp only [go_sem, Nat.reduceEqDiff, ↓reduceIte]); exact ⟨id⟩)); (focus (first | (simp only [Nat.reduceLT]; done) | omega)); (focus (intro hw0; (try simp only [Bool.and_eq_true, Bool.not_eq_true', beq_true', beq_false'] at hw0); (focus (intro K0; (try simp only [go_sem, ↓reduceIte, Nat.reduceEqDiff, Nat.reduceAdd, Nat.reduceSub, Nat.reduceMul, Nat.reduceLT, Nat.reduceLeDiff, reduceCtorEq, Int.reduceLT, Int.reduceLE, Int.reduceAdd, Int.reduceSub, Int.reduceMul, Int.reduceToNat, Int.reduceNeg, Int.reduceEq, *]); (first | exact ⟨id⟩ | (refine ⟨fun h => ?_⟩; (repeat' (first | exact h | refine And.intro ?_ ?_ | omega)); done)))))))
    | ((with_reducible (first | refine RnG_split (fun h => ?_) (fun h => ?_) | refine RdG_split (fun h => ?_) (fun h => ?_) | refine RnC_split (fun h => ?_) (fun h => ?_))) <;> (have h' := h) <;> (try simp only [decide_eq_true_eq, decide_eq_false_iff_not, Bool.not_eq_true', Bool.not_eq_false', Bool.and_eq_true, Bool.or_eq_true, Bool.or_eq_false_iff, beq_iff_eq, bne_iff_ne, ne_eq, Bool.not_true, Bool.not_false, not_false_eq_true, reduceCtorEq, beq_eq_false_iff_ne, bne_eq_false_iff_eq] at h') <;> (first | apply Rn_st | apply Rd_st))
    | (refine Rn_out_ck rfl rfl ?_)
    | (refine Rn_ret_ck ?_)
    | (refine Rn_ret ?_)
    | (refine Rn_nil_then ?_)
    | (refine LoopN_step (T := [ct_with', ct_shapeLives, ct_check', ct_Names, ct_eqI']) ?_)
    | (refine Rn_nil ?_))
      all_goals (try simp only [go_sem, ↓reduceIte, Nat.reduceEqDiff, Nat.reduceAdd, Nat.reduceSub, Nat.reduceMul, Nat.reduceLT, Nat.reduceLeDiff, reduceCtorEq, Int.reduceLT, Int.reduceLE, Int.reduceAdd, Int.reduceSub, Int.reduceMul, Int.reduceToNat, Int.reduceNeg, Int.reduceEq])
      exact ⟨(j + 1, k), ⟨by show j + 1 ≤ _; omega, m, e3⟩, by show N.length - (j + 1) < _; omega, Le_sub rfl ⟨rfl, rfl, rfl, rfl, rfl, rfl, rfl, trivial⟩ trivial⟩
    · have h1 : decide ((j : Int) < (M : Int)) = false := by rw [decide_eq_false_iff_not]; omega
      rw [List.take_of_length_le (by omega), hs] at hb
      cases hb
      clear hlt
      repeat' (first
    | (focus (intro K0; (try simp only [go_sem, ↓reduceIte, Nat.reduceEqDiff, Nat.reduceAdd, Nat.reduceSub, Nat.reduceMul, Nat.reduceLT, Nat.reduceLeDiff, reduceCtorEq, Int.reduceLT, Int.reduceLE, Int.reduceAdd, Int.reduceSub, Int.reduceMul, Int.reduceToNat, Int.reduceNeg, Int.reduceEq, *]); (first | exact ⟨id⟩ | (refine ⟨fun h => ?_⟩; (repeat' (first | exact h | refine And.intro ?_ ?_ | omega)); done))))
    | (refine Rn_seq ?_)
    | (refine Rn_block ?_)
    | (apply Rn_region' [(0, [0, 1]), (1, [0, 1]), (2, []), (3, [0, 1]), (4, [1, 5, 6]), (5, [1, 5, 6, 31, 32, 33]), (6, [1, 5, 6, 31, 32, 33]), (7, [1, 5, 6, 8, 31, 32, 33]), (8, [1, 9, 10, 11, 31, 32, 33]), (9, []), (10, [1, 9, 10, 31, 32, 33]), (11, [1, 5, 6, 31, 32, 33]), (12, [1, 5, 6]), (13, [1, 5, 6, 12]), (14, [1, 5, 6, 12, 54, 55, 56]), (15, [1, 5, 6, 12, 54, 55, 56]), (16, [1, 5, 6, 12, 14, 54, 55, 56]), (17, [1, 5, 6, 15, 16, 17, 54, 55, 56]), (18, []), (19, [1, 5, 6, 16, 54, 55, 56]), (20, [1, 5, 6, 12, 54, 55, 56]), (21, [1, 5, 6, 12])]; (exact rfl))
    | (refine Rn_region ?_)
    | (apply Rn_op'; (exact rfl))
    | (refine Rn_o_nil ?_)
    | (apply Rn_g; (exact rfl); (exact rfl); (focus (intro K0; (try simp only [lookT, ev, Nat.reduceEqDiff, ↓reduceIte]); exact ⟨id⟩)))
    | (with_reducible (apply RnG_yes))
    | ((with_reducible (apply RnG_t_no)); (exact rfl))
    | ((with_reducible (apply RnG_f_no)); (exact rfl))
    | ((with_reducible (apply RnG_un)); (exact rfl))
    | (apply RnG_never; (focus (intro K0; (try simp only [go_sem, Nat.reduceEqDiff, ↓reduceIte]); exact ⟨id⟩)); (exact rfl))
    | (apply RnG_lazy; (exact rfl); (focus (intro K0; (try simp only [go_sem, Nat.reduceEqDiff, ↓reduceIte]); exact ⟨id⟩)); (focus (first | (simp only [Nat.reduceLT]; done) | omega)); (focus (intro hw0; (try simp only [Bool.and_eq_true, Bool.not_eq_true', beq_true', beq_false'] at hw0); (focus (intro K0; (try simp only [go_sem, ↓reduceIte, Nat.reduceEqDiff, Nat.reduceAdd, Nat.reduceSub, Nat.reduceMul, Nat.reduceLT, Nat.reduceLeDiff, reduceCtorEq, Int.reduceLT, Int.reduceLE, Int.reduceAdd, Int.reduceSub, Int.reduceMul, Int.reduceToNat, Int.reduceNeg, Int.reduceEq, *]); (first | exact ⟨id⟩ | (refine ⟨fun h => ?_⟩; (repeat' (first | exact h | refine And.intro ?_ ?_ | omega)); done)))))))
    | (apply Rn_c; (focus (intro K0; (try simp only [lookT, ev, Nat.reduceEqDiff, ↓reduceIte]); exact ⟨id⟩)))
    | (with_reducible (refine RnC_t ?_))
    | (with_reducible (refine RnC_f ?_))
    | (refine Rn_skip ?_)
    | (refine Rn_exit rfl ?_)
    | (refine Rn_b ?_)
    | (apply Rn_draw' [(0, [0, 1]), (1, [0, 1]), (2, []), (3, [0, 1]), (4, [1, 5, 6]), (5, [1, 5, 6, 31, 32, 33]), (6, [1, 5, 6, 31, 32, 33]), (7, [1, 5, 6, 8, 31, 32, 33]), (8, [1, 9, 10, 11, 31, 32, 33]), (9, []), (10, [1, 9, 10, 31, 32, 33]), (11, [1, 5, 6, 31, 32, 33]), (12, [1, 5, 6]), (13, [1, 5, 6, 12]), (14, [1, 5, 6, 12, 54, 55, 56]), (15, [1, 5, 6, 12, 54, 55, 56]), (16, [1, 5, 6, 12, 14, 54, 55, 56]), (17, [1, 5, 6, 15, 16, 17, 54, 55, 56]), (18, []), (19, [1, 5, 6, 16, 54, 55, 56]), (20, [1, 5, 6, 12, 54, 55, 56]), (21, [1, 5, 6, 12])]; (exact rfl))
    | (refine Rn_draw ?_)
    | (apply Rd_op'; (exact rfl))
    | (refine Rd_nil (by kernel_rfl) ?_)
    | (apply Rd_g; (exact rfl); (exact rfl); (focus (intro K0; (try simp only [lookT, ev, Nat.reduceEqDiff, ↓reduceIte]); exact ⟨id⟩)))
    | (with_reducible (apply RdG_yes))
    | ((with_reducible (apply RdG_t_no)); (exact rfl))
    | ((with_reducible (apply RdG_f_no)); (exact rfl))
    | ((with_reducible (apply RdG_un)); (exact rfl))
    | (apply RdG_never; (focus (intro K0; (try simp only [go_sem, Nat.reduceEqDiff, ↓reduceIte]); exact ⟨id⟩)); (exact rfl))
    | (apply RdG_lazy; (exact rfl); (focus (intro K0; (try simp only [go_sem, Nat.reduceEqDiff, ↓reduceIte]); exact ⟨id⟩)); (focus (first | (simp only [Nat.reduceLT]; done) | omega)); (focus (intro hw0; (try simp only [Bool.and_eq_true, Bool.not_eq_true', beq_true', beq_false'] at hw0); (focus (intro K0; (try simp only [go_sem, ↓reduceIte, Nat.reduceEqDiff, Nat.reduceAdd, Nat.reduceSub, Nat.reduceMul, Nat.reduceLT, Nat.reduceLeDiff, reduceCtorEq, Int.reduceLT, Int.reduceLE, Int.reduceAdd, Int.reduceSub, Int.reduceMul, Int.reduceToNat, Int.reduceNeg, Int.reduceEq, *]); (first | exact ⟨id⟩ | (refine ⟨fun h => ?_⟩; (repeat' (first | exact h | refine And.intro ?_ ?_ | omega)); done)))))))
    | ((with_reducible (first | refine RnG_split (fun h => ?_) (fun h => ?_) | refine RdG_split (fun h => ?_) (fun h => ?_) | refine RnC_split (fun h => ?_) (fun h => ?_))) <;> (have h' := h) <;> (try simp only [decide_eq_true_eq, decide_eq_false_iff_not, Bool.not_eq_true', Bool.not_eq_false', Bool.and_eq_true, Bool.or_eq_true, Bool.or_eq_false_iff, beq_iff_eq, bne_iff_ne, ne_eq, Bool.not_true, Bool.not_false, not_false_eq_true, reduceCtorEq, beq_eq_false_iff_ne, bne_eq_false_iff_eq] at h') <;> (first | apply Rn_st | apply Rd_st))
    | (refine Rn_out_ck rfl rfl ?_)
    | (refine Rn_ret_ck ?_)
    | (refine Rn_ret ?_)
    | (refine Rn_nil_then ?_)
    | (refine LoopN_step (T := [ct_with', ct_shapeLives, ct_check', ct_Names, ct_eqI']) ?_)
    | (refine Rn_nil ?_))
      all_goals (try simp only [go_sem, ↓reduceIte, Nat.reduceEqDiff, Nat.reduceAdd, Nat.reduceSub, Nat.reduceMul, Nat.reduceLT, Nat.reduceLeDiff, reduceCtorEq, Int.reduceLT, Int.reduceLE, Int.reduceAdd, Int.reduceSub, Int.reduceMul, Int.reduceToNat, Int.reduceNeg, Int.reduceEq])

theorem one_c (l : List (Int × Int)) (xs : List Int) (hw : Wf l) (hwx : ∀ x ∈ xs, WfI x) : FC Cx 5 [shapesV l, intsV xs] [] (Bv true) [] := by
  by_cases hc : checkF l = 0
  · have h0l : 0 < l.length := (List.getElem?_eq_some_iff.1 (good_ups hc 0).2.2.1).1
    refine one_2 l xs (xs.take (min xs.length 6)) (min xs.length 6) hw hwx hc ?_ (Nat.min_le_left _ _) (Nat.min_le_right _ _) rfl (by rw [List.length_take]; omega) (fun l => List.length_map ..) (fun l => List.length_map ..) (by rw [List.map_take]) (by omega) h0l
    split <;> omega
  · exact one_1 l xs hw (by simpa using hc)

end Go.Proofs.Ytjbhpoolghfhiaa
