/- Names of shapes, their slots; shapes copied. No condition: contracts. -/
import Derived.Test.YtjbhpoolghfhiaaSh4
namespace Go.Proofs.Ytjbhpoolghfhiaa
set_option linter.unusedVariables false
set_option linter.unusedSimpArgs false
set_option maxHeartbeats 10000000
open Go
set_option maxRecDepth 10000

@[go_sem] theorem lendR_I (n : Nat) (st : St) : ∀ (l : List Int) (K : List Loc → List (List RV) → Prop), lendR (lendC n st) (l.map intA) K = K [] (l.map intR)
  | [], K => rfl
  | x :: l, K => by
    show lendL (lendC n st) [Iv x] (fun l1 y => lendR (lendC n st) (l.map intA) fun l' ys => K (l1 ++ l') (y :: ys)) = _
    have h1 : ∀ (K : List Loc → List RV → Prop), lendL (lendC n st) [Iv x] K = K [] (intR x) := fun K => by cases n <;> rfl
    rw [h1, lendR_I n st l]; rfl
@[go_sem] theorem lendR_S (n : Nat) (st : St) : ∀ (l : List (Int × Int)) (K : List Loc → List (List RV) → Prop), lendR (lendC n st) (l.map shapeA) K = K [] (l.map shapeR)
  | [], K => rfl
  | x :: l, K => by
    show lendL (lendC n st) [Iv x.1, Iv x.2] (fun l1 y => lendR (lendC n st) (l.map shapeA) fun l' ys => K (l1 ++ l') (y :: ys)) = _
    have h1 : ∀ (K : List Loc → List RV → Prop), lendL (lendC n st) [Iv x.1, Iv x.2] K = K [] (shapeR x) := fun K => by cases n <;> rfl
    rw [h1, lendR_S n st l]; rfl

theorem good_ups {l : List (Int × Int)} (h : checkF l = 0) (s : Int) : Ups l s ∧ l.length ≤ 100 ∧ l[0]? = some (-1, -1) ∧ good l := by
  unfold checkF at h
  split at h
  · simp at h
  · split at h
    · rename_i h1 h2
      refine ⟨fun k p hp h0 _ => ?_, by omega, h2.1, h2.2⟩
      obtain ⟨j, rfl⟩ : ∃ j, k = j + 1 := ⟨k - 1, by omega⟩
      have := (h2.2 j p hp).2.1
      omega
    · simp at h

/-- How calls of this function are met, where what comes back is to be turned. -/
theorem namesP_c (xs : List (List RV)) (s : Int) (h : xs = (shapesOf xs).map shapeR ∧ xs.length ≤ 1000 ∧ Ups (shapesOf xs) s ∧ s < xs.length) : FC Cx 31 [.r (.rs 2 xs), Iv s] [] (.os 0 1) [(0, 1, .sl 3 1 ((namesL (shapesOf xs) s).map intA))] := by
  have hl : (shapesOf xs).length = xs.length := by simp [shapesOf]
  have := namesO_c (shapesOf xs) s (by omega) h.2.2.1 (by omega)
  rwa [shapes_at h.1] at this
theorem namesP_rows (xs : List (List RV)) (s : Int) : ∀ row ∈ (namesL (shapesOf xs) s).map intA, withinL none0 row = true := flatI _
/-- How calls of this function are met. -/
def sp_namesP (st : St) (d : Nat) (args : List AV) (K : AV → List Loc → List (Loc × Cont) → Prop) : Prop := match args with
  | [.r (.rs 2 xs), .r (.v (.int .i64 s))] => (xs = (shapesOf xs).map shapeR ∧ xs.length ≤ 1000 ∧ Ups (shapesOf xs) s ∧ s < xs.length) ∧ K (ren (fun _ => d) (fun _ => st.cur d) (.os 0 1)) [.R d] [(.R d, .s (1 + st.cur d) (.sl 3 1 ((namesL (shapesOf xs) s).map intA)))]
  | _ => False
theorem sp_namesP_ok (st : St) (d : Nat) (args : List AV) (K : AV → List Loc → List (Loc × Cont) → Prop) (h : sp_namesP st d args K) : ∃ r ls outs, CallR Cx 31 st args r ls outs ∧ K r ls outs := by
  unfold sp_namesP at h
  split at h
  · exact ⟨_, _, _, CallR.own (namesP_c _ _ h.1) rfl (namesP_rows _ _) rfl d, h.2⟩
  · exact h.elim
noncomputable def ct_namesP : Ct Cx := .res 31 sp_namesP en31 sp_namesP_ok
@[go_sem] theorem ct_namesP_g : ct_namesP.g = 31 := rfl
@[go_sem] theorem ct_namesP_run (c : Call) (fop : Operand) (caps : List RV) (o : Oper) (st : St) (K : List Loc → List (Loc × Cont) → Prop) : ct_namesP.run c fop caps o st K = callG sp_namesP c fop caps o st K := rfl
@[go_sem] theorem sp_namesP_eq (st : St) (d : Nat) (args : List AV) (K : AV → List Loc → List (Loc × Cont) → Prop) : sp_namesP st d args K = (match args with
    | [.r (.rs 2 xs), .r (.v (.int .i64 s))] => (xs = (shapesOf xs).map shapeR ∧ xs.length ≤ 1000 ∧ Ups (shapesOf xs) s ∧ s < xs.length) ∧ K (ren (fun _ => d) (fun _ => st.cur d) (.os 0 1)) [.R d] [(.R d, .s (1 + st.cur d) (.sl 3 1 ((namesL (shapesOf xs) s).map intA)))]
    | _ => False) := rfl

/-- The names that are told. -/
noncomputable def namesF (l : List (Int × Int)) (s : Int) : List Int := if checkF l = 0 ∧ 0 ≤ s ∧ s < l.length then namesL l s else []

theorem NamesO_1 (l : List (Int × Int)) (s : Int) (hw : Wf l) (hc : checkF l = 0) (d1 : decide (s < 0) = false) (d2 : decide ((l.length : Int) ≤ s) = false) (hU : Ups l s) (hl : l.length ≤ 100) (hlen : (l.map shapeR).length = l.length) (hs : 0 ≤ s ∧ s < l.length) :
    FC Cx 21 [shapesV l, Iv s] [] (.os 0 1) [(0, 1, .sl 3 1 ((namesL l s).map intA))] := by
  refine FCo_of [ct_check', ct_namesP] (i := 0) [.os 0 1] Try.func21 rfl Try.ntmps21 (by simp) Try.results21 (flatI _) ?_
  apply Rn_st; (intro K0; simp only [go_sem, ↓reduceIte, Nat.reduceEqDiff, Nat.reduceAdd, Nat.reduceSub, Nat.reduceMul, Nat.reduceLT, Nat.reduceLeDiff, reduceCtorEq, Int.reduceLT, Int.reduceLE, Int.reduceAdd, Int.reduceSub, Int.reduceMul, Int.reduceToNat, Int.reduceNeg, Int.reduceEq]; exact ⟨id⟩)
  repeat' (first
    | (focus (intro K0; (try simp only [go_sem, ↓reduceIte, Nat.reduceEqDiff, Nat.reduceAdd, Nat.reduceSub, Nat.reduceMul, Nat.reduceLT, Nat.reduceLeDiff, reduceCtorEq, Int.reduceLT, Int.reduceLE, Int.reduceAdd, Int.reduceSub, Int.reduceMul, Int.reduceToNat, Int.reduceNeg, Int.reduceEq, *]); (first | exact ⟨id⟩ | (refine ⟨fun h => ?_⟩; (repeat' (first | exact h | refine And.intro ?_ ?_ | omega)); done))))
    | (refine Rn_seq ?_)
    | (refine Rn_block ?_)
    | (apply Rn_region' [(0, [0, 1]), (1, [0, 1]), (2, []), (3, [0, 1])]; (exact rfl))
    | (refine Rn_region ?_)
    | (apply Rn_op'; (exact rfl))
    | (refine Rn_o_nil ?_)
    | (apply Rn_g; (exact rfl); (exact rfl); (focus (intro K0; (try simp only [lookT, ev, Nat.reduceEqDiff, ↓reduceIte]); exact ⟨id⟩)))
    | (with_reducible (apply RnG_yes))
    | ((with_reducible (apply RnG_t_no)); (exact rfl))
    | ((with_reducible (apply RnG_f_no)); (exact rfl))
    | ((with_reducible (apply RnG_un)); (exact rfl))
    | (apply RnG_never; (focus (intro K0; (try simp only [go_sem, Nat.reduceEqDiff, ↓reduceIte]); exact ⟨id⟩)); (exact rfl))
    | (apply RnG_lazy; (exact rfl); (focus (intro K0; (try simp only [go_sem, Nat.reduceEqDiff, ↓reduceIte]); exact ⟨id⟩)); (focus (first | (simp only [Nat.reduceLT]; done) | omega)); (focus (intro hw0; (try simp only [Bool.and_eq_true, Bool.not_eq_true', beq_true', beq_false'] at hw0); (focus (intro K0; (try simp only [go_sem, ↓reduceIte, Nat.reduceEqDiff, Nat.reduceAdd, Nat.reduceSub, Nat.reduceMul, Nat.reduceLT, Nat.reduceLeDiff, reduceCtorEq, Int.reduceLT, Int.reduceLE, Int.reduceAdd, Int.reduceSub, Int.reduceMul, Int.reduceToNat, Int.reduceNeg, Int.reduceEq, *]); (first | exact ⟨id⟩ | (refine ⟨fun h => ?_⟩; (repeat' (first | exact h | refine And.intro ?_ ?_ | omega)); done)))))))
    | (apply Rn_c; (focus (intro K0; (try simp only [lookT, ev, Nat.reduceEqDiff, ↓reduceIte]); exact ⟨id⟩)))
    | (with_reducible (refine RnC_t ?_))
    | (with_reducible (refine RnC_f ?_))
    | (refine Rn_skip ?_)
    | (refine Rn_exit rfl ?_)
    | (refine Rn_b ?_)
    | (apply Rn_draw' [(0, [0, 1]), (1, [0, 1]), (2, []), (3, [0, 1])]; (exact rfl))
    | (refine Rn_draw ?_)
    | (apply Rd_op'; (exact rfl))
    | (refine Rd_nil (by kernel_rfl) ?_)
    | (apply Rd_g; (exact rfl); (exact rfl); (focus (intro K0; (try simp only [lookT, ev, Nat.reduceEqDiff, ↓reduceIte]); exact ⟨id⟩)))
    | (with_reducible (apply RdG_yes))
    | ((with_reducible (apply RdG_t_no)); (exact rfl))
    | ((with_reducible (apply RdG_f_no)); (exact rfl))
    | ((with_reducible (apply RdG_un)); (exact rfl))
    | (apply RdG_never; (focus (intro K0; (try simp only [go_sem, Nat.reduceEqDiff, ↓reduceIte]); exact ⟨id⟩)); (exact rfl))
    | (apply RdG_lazy; (exact rfl); (focus (intro K0; (try simp only [go_sem, Nat.reduceEqDiff, ↓reduceIte]); exact ⟨id⟩)); (focus (first | (simp only [Nat.reduceLT]; done) | omega)); (focus (intro hw0; (try simp only [Bool.and_eq_true, Bool.not_eq_true', beq_true', beq_false'] at hw0); (focus (intro K0; (try simp only [go_sem, ↓reduceIte, Nat.reduceEqDiff, Nat.reduceAdd, Nat.reduceSub, Nat.reduceMul, Nat.reduceLT, Nat.reduceLeDiff, reduceCtorEq, Int.reduceLT, Int.reduceLE, Int.reduceAdd, Int.reduceSub, Int.reduceMul, Int.reduceToNat, Int.reduceNeg, Int.reduceEq, *]); (first | exact ⟨id⟩ | (refine ⟨fun h => ?_⟩; (repeat' (first | exact h | refine And.intro ?_ ?_ | omega)); done)))))))
    | ((with_reducible (first | refine RnG_split (fun h => ?_) (fun h => ?_) | refine RdG_split (fun h => ?_) (fun h => ?_) | refine RnC_split (fun h => ?_) (fun h => ?_))) <;> (have h' := h) <;> (try simp only [decide_eq_true_eq, decide_eq_false_iff_not, Bool.not_eq_true', Bool.not_eq_false', Bool.and_eq_true, Bool.or_eq_true, Bool.or_eq_false_iff, beq_iff_eq, bne_iff_ne, ne_eq, Bool.not_true, Bool.not_false, not_false_eq_true, reduceCtorEq, beq_eq_false_iff_ne, bne_eq_false_iff_eq] at h') <;> (first | apply Rn_st | apply Rd_st))
    | (refine Rn_out_ck rfl rfl ?_)
    | (refine Rn_ret_ck ?_)
    | (refine Rn_ret ?_)
    | (refine Rn_nil_then ?_)
    | (refine LoopN_step (T := [ct_check', ct_namesP]) ?_)
    | (refine Rn_nil ?_))
  all_goals (try simp only [go_sem, ↓reduceIte, Nat.reduceEqDiff, Nat.reduceAdd, Nat.reduceSub, Nat.reduceMul, Nat.reduceLT, Nat.reduceLeDiff, reduceCtorEq, Int.reduceLT, Int.reduceLE, Int.reduceAdd, Int.reduceSub, Int.reduceMul, Int.reduceToNat, Int.reduceNeg, Int.reduceEq])

theorem NamesO_2a (l : List (Int × Int)) (s : Int) (hw : Wf l) (hc : checkF l = 0) (hlen : (l.map shapeR).length = l.length) (d1 : decide (s < 0) = true) :
    FC Cx 21 [shapesV l, Iv s] [] (.os 0 1) [(0, 1, .sl 3 1 (([] : List Int).map intA))] := by
  refine FCo_of [ct_check', ct_namesP] (i := 0) [.os 0 1] Try.func21 rfl Try.ntmps21 (by simp) Try.results21 (flatI _) ?_
  apply Rn_st; (intro K0; simp only [go_sem, ↓reduceIte, Nat.reduceEqDiff, Nat.reduceAdd, Nat.reduceSub, Nat.reduceMul, Nat.reduceLT, Nat.reduceLeDiff, reduceCtorEq, Int.reduceLT, Int.reduceLE, Int.reduceAdd, Int.reduceSub, Int.reduceMul, Int.reduceToNat, Int.reduceNeg, Int.reduceEq]; exact ⟨id⟩)
  repeat' (first
    | (focus (intro K0; (try simp only [go_sem, ↓reduceIte, Nat.reduceEqDiff, Nat.reduceAdd, Nat.reduceSub, Nat.reduceMul, Nat.reduceLT, Nat.reduceLeDiff, reduceCtorEq, Int.reduceLT, Int.reduceLE, Int.reduceAdd, Int.reduceSub, Int.reduceMul, Int.reduceToNat, Int.reduceNeg, Int.reduceEq, *]); (first | exact ⟨id⟩ | (refine ⟨fun h => ?_⟩; (repeat' (first | exact h | refine And.intro ?_ ?_ | omega)); done))))
    | (refine Rn_seq ?_)
    | (refine Rn_block ?_)
    | (apply Rn_region' [(0, [0, 1]), (1, [0, 1]), (2, []), (3, [0, 1])]; (exact rfl))
    | (refine Rn_region ?_)
    | (apply Rn_op'; (exact rfl))
    | (refine Rn_o_nil ?_)
    | (apply Rn_g; (exact rfl); (exact rfl); (focus (intro K0; (try simp only [lookT, ev, Nat.reduceEqDiff, ↓reduceIte]); exact ⟨id⟩)))
    | (with_reducible (apply RnG_yes))
    | ((with_reducible (apply RnG_t_no)); (exact rfl))
    | ((with_reducible (apply RnG_f_no)); (exact rfl))
    | ((with_reducible (apply RnG_un)); (exact rfl))
    | (apply RnG_never; (focus (intro K0; (try simp only [go_sem, Nat.reduceEqDiff, ↓reduceIte]); exact ⟨id⟩)); (exact rfl))
    | (apply RnG_lazy; (exact rfl); (focus (intro K0; (try simp only [go_sem, Nat.reduceEqDiff, ↓reduceIte]); exact ⟨id⟩)); (focus (first | (simp only [Nat.reduceLT]; done) | omega)); (focus (intro hw0; (try simp only [Bool.and_eq_true, Bool.not_eq_true', beq_true', beq_false'] at hw0); (focus (intro K0; (try simp only [go_sem, ↓reduceIte, Nat.reduceEqDiff, Nat.reduceAdd, Nat.reduceSub, Nat.reduceMul, Nat.reduceLT, Nat.reduceLeDiff, reduceCtorEq, Int.reduceLT, Int.reduceLE, Int.reduceAdd, Int.reduceSub, Int.reduceMul, Int.reduceToNat, Int.reduceNeg, Int.reduceEq, *]); (first | exact ⟨id⟩ | (refine ⟨fun h => ?_⟩; (repeat' (first | exact h | refine And.intro ?_ ?_ | omega)); done)))))))
    | (apply Rn_c; (focus (intro K0; (try simp only [lookT, ev, Nat.reduceEqDiff, ↓reduceIte]); exact ⟨id⟩)))
    | (with_reducible (refine RnC_t ?_))
    | (with_reducible (refine RnC_f ?_))
    | (refine Rn_skip ?_)
    | (refine Rn_exit rfl ?_)
    | (refine Rn_b ?_)
    | (apply Rn_draw' [(0, [0, 1]), (1, [0, 1]), (2, []), (3, [0, 1])]; (exact rfl))
    | (refine Rn_draw ?_)
    | (apply Rd_op'; (exact rfl))
    | (refine Rd_nil (by kernel_rfl) ?_)
    | (apply Rd_g; (exact rfl); (exact rfl); (focus (intro K0; (try simp only [lookT, ev, Nat.reduceEqDiff, ↓reduceIte]); exact ⟨id⟩)))
    | (with_reducible (apply RdG_yes))
    | ((with_reducible (apply RdG_t_no)); (exact rfl))
    | ((with_reducible (apply RdG_f_no)); (exact rfl))
    | ((with_reducible (apply RdG_un)); (exact rfl))
    | (apply RdG_never; (focus (intro K0; (try simp only [go_sem, Nat.reduceEqDiff, ↓reduceIte]); exact ⟨id⟩)); (exact rfl))
    | (apply RdG_lazy; (exact rfl); (focus (intro K0; (try simp only [go_sem, Nat.reduceEqDiff, ↓reduceIte]); exact ⟨id⟩)); (focus (first | (simp only [Nat.reduceLT]; done) | omega)); (focus (intro hw0; (try simp only [Bool.and_eq_true, Bool.not_eq_true', beq_true', beq_false'] at hw0); (focus (intro K0; (try simp only [go_sem, ↓reduceIte, Nat.reduceEqDiff, Nat.reduceAdd, Nat.reduceSub, Nat.reduceMul, Nat.reduceLT, Nat.reduceLeDiff, reduceCtorEq, Int.reduceLT, Int.reduceLE, Int.reduceAdd, Int.reduceSub, Int.reduceMul, Int.reduceToNat, Int.reduceNeg, Int.reduceEq, *]); (first | exact ⟨id⟩ | (refine ⟨fun h => ?_⟩; (repeat' (first | exact h | refine And.intro ?_ ?_ | omega)); done)))))))
    | ((with_reducible (first | refine RnG_split (fun h => ?_) (fun h => ?_) | refine RdG_split (fun h => ?_) (fun h => ?_) | refine RnC_split (fun h => ?_) (fun h => ?_))) <;> (have h' := h) <;> (try simp only [decide_eq_true_eq, decide_eq_false_iff_not, Bool.not_eq_true', Bool.not_eq_false', Bool.and_eq_true, Bool.or_eq_true, Bool.or_eq_false_iff, beq_iff_eq, bne_iff_ne, ne_eq, Bool.not_true, Bool.not_false, not_false_eq_true, reduceCtorEq, beq_eq_false_iff_ne, bne_eq_false_iff_eq] at h') <;> (first | apply Rn_st | apply Rd_st))
    | (refine Rn_out_ck rfl rfl ?_)
    | (refine Rn_ret_ck ?_)
    | (refine Rn_ret ?_)
    | (refine Rn_nil_then ?_)
    | (refine LoopN_step (T := [ct_check', ct_namesP]) ?_)
    | (refine Rn_nil ?_))
  all_goals (try simp only [go_sem, ↓reduceIte, Nat.reduceEqDiff, Nat.reduceAdd, Nat.reduceSub, Nat.reduceMul, Nat.reduceLT, Nat.reduceLeDiff, reduceCtorEq, Int.reduceLT, Int.reduceLE, Int.reduceAdd, Int.reduceSub, Int.reduceMul, Int.reduceToNat, Int.reduceNeg, Int.reduceEq])

theorem NamesO_2b (l : List (Int × Int)) (s : Int) (hw : Wf l) (hc : checkF l = 0) (hlen : (l.map shapeR).length = l.length) (d1 : decide (s < 0) = false) (d2 : decide ((l.length : Int) ≤ s) = true) :
    FC Cx 21 [shapesV l, Iv s] [] (.os 0 1) [(0, 1, .sl 3 1 (([] : List Int).map intA))] := by
  refine FCo_of [ct_check', ct_namesP] (i := 0) [.os 0 1] Try.func21 rfl Try.ntmps21 (by simp) Try.results21 (flatI _) ?_
  apply Rn_st; (intro K0; simp only [go_sem, ↓reduceIte, Nat.reduceEqDiff, Nat.reduceAdd, Nat.reduceSub, Nat.reduceMul, Nat.reduceLT, Nat.reduceLeDiff, reduceCtorEq, Int.reduceLT, Int.reduceLE, Int.reduceAdd, Int.reduceSub, Int.reduceMul, Int.reduceToNat, Int.reduceNeg, Int.reduceEq]; exact ⟨id⟩)
  repeat' (first
    | (focus (intro K0; (try simp only [go_sem, ↓reduceIte, Nat.reduceEqDiff, Nat.reduceAdd, Nat.reduceSub, Nat.reduceMul, Nat.reduceLT, Nat.reduceLeDiff, reduceCtorEq, Int.reduceLT, Int.reduceLE, Int.reduceAdd, Int.reduceSub, Int.reduceMul, Int.reduceToNat, Int.reduceNeg, Int.reduceEq, *]); (first | exact ⟨id⟩ | (refine ⟨fun h => ?_⟩; (repeat' (first | exact h | refine And.intro ?_ ?_ | omega)); done))))
    | (refine Rn_seq ?_)
    | (refine Rn_block ?_)
    | (apply Rn_region' [(0, [0, 1]), (1, [0, 1]), (2, []), (3, [0, 1])]; (exact rfl))
    | (refine Rn_region ?_)
    | (apply Rn_op'; (exact rfl))
    | (refine Rn_o_nil ?_)
    | (apply Rn_g; (exact rfl); (exact rfl); (focus (intro K0; (try simp only [lookT, ev, Nat.reduceEqDiff, ↓reduceIte]); exact ⟨id⟩)))
    | (with_reducible (apply RnG_yes))
    | ((with_reducible (apply RnG_t_no)); (exact rfl))
    | ((with_reducible (apply RnG_f_no)); (exact rfl))
    | ((with_reducible (apply RnG_un)); (exact rfl))
    | (apply RnG_never; (focus (intro K0; (try simp only [go_sem, Nat.reduceEqDiff, ↓reduceIte]); exact ⟨id⟩)); (exact rfl))
    | (apply RnG_lazy; (exact rfl); (focus (intro K0; (try simp only [go_sem, Nat.reduceEqDiff, ↓reduceIte]); exact ⟨id⟩)); (focus (first | (simp only [Nat.reduceLT]; done) | omega)); (focus (intro hw0; (try simp only [Bool.and_eq_true, Bool.not_eq_true', beq_true', beq_false'] at hw0); (focus (intro K0; (try simp only [go_sem, ↓reduceIte, Nat.reduceEqDiff, Nat.reduceAdd, Nat.reduceSub, Nat.reduceMul, Nat.reduceLT, Nat.reduceLeDiff, reduceCtorEq, Int.reduceLT, Int.reduceLE, Int.reduceAdd, Int.reduceSub, Int.reduceMul, Int.reduceToNat, Int.reduceNeg, Int.reduceEq, *]); (first | exact ⟨id⟩ | (refine ⟨fun h => ?_⟩; (repeat' (first | exact h | refine And.intro ?_ ?_ | omega)); done)))))))
    | (apply Rn_c; (focus (intro K0; (try simp only [lookT, ev, Nat.reduceEqDiff, ↓reduceIte]); exact ⟨id⟩)))
    | (with_reducible (refine RnC_t ?_))
    | (with_reducible (refine RnC_f ?_))
    | (refine Rn_skip ?_)
    | (refine Rn_exit rfl ?_)
    | (refine Rn_b ?_)
    | (apply Rn_draw' [(0, [0, 1]), (1, [0, 1]), (2, []), (3, [0, 1])]; (exact rfl))
    | (refine Rn_draw ?_)
    | (apply Rd_op'; (exact rfl))
    | (refine Rd_nil (by kernel_rfl) ?_)
    | (apply Rd_g; (exact rfl); (exact rfl); (focus (intro K0; (try simp only [lookT, ev, Nat.reduceEqDiff, ↓reduceIte]); exact ⟨id⟩)))
    | (with_reducible (apply RdG_yes))
    | ((with_reducible (apply RdG_t_no)); (exact rfl))
    | ((with_reducible (apply RdG_f_no)); (exact rfl))
    | ((with_reducible (apply RdG_un)); (exact rfl))
    | (apply RdG_never; (focus (intro K0; (try simp only [go_sem, Nat.reduceEqDiff, ↓reduceIte]); exact ⟨id⟩)); (exact rfl))
    | (apply RdG_lazy; (exact rfl); (focus (intro K0; (try simp only [go_sem, Nat.reduceEqDiff, ↓reduceIte]); exact ⟨id⟩)); (focus (first | (simp only [Nat.reduceLT]; done) | omega)); (focus (intro hw0; (try simp only [Bool.and_eq_true, Bool.not_eq_true', beq_true', beq_false'] at hw0); (focus (intro K0; (try simp only [go_sem, ↓reduceIte, Nat.reduceEqDiff, Nat.reduceAdd, Nat.reduceSub, Nat.reduceMul, Nat.reduceLT, Nat.reduceLeDiff, reduceCtorEq, Int.reduceLT, Int.reduceLE, Int.reduceAdd, Int.reduceSub, Int.reduceMul, Int.reduceToNat, Int.reduceNeg, Int.reduceEq, *]); (first | exact ⟨id⟩ | (refine ⟨fun h => ?_⟩; (repeat' (first | exact h | refine And.intro ?_ ?_ | omega)); done)))))))
    | ((with_reducible (first | refine RnG_split (fun h => ?_) (fun h => ?_) | refine RdG_split (fun h => ?_) (fun h => ?_) | refine RnC_split (fun h => ?_) (fun h => ?_))) <;> (have h' := h) <;> (try simp only [decide_eq_true_eq, decide_eq_false_iff_not, Bool.not_eq_true', Bool.not_eq_false', Bool.and_eq_true, Bool.or_eq_true, Bool.or_eq_false_iff, beq_iff_eq, bne_iff_ne, ne_eq, Bool.not_true, Bool.not_false, not_false_eq_true, reduceCtorEq, beq_eq_false_iff_ne, bne_eq_false_iff_eq] at h') <;> (first | apply Rn_st | apply Rd_st))
    | (refine Rn_out_ck rfl rfl ?_)
    | (refine Rn_ret_ck ?_)
    | (refine Rn_ret ?_)
    | (refine Rn_nil_then ?_)
    | (refine LoopN_step (T := [ct_check', ct_namesP]) ?_)
    | (refine Rn_nil ?_))
  all_goals (try simp only [go_sem, ↓reduceIte, Nat.reduceEqDiff, Nat.reduceAdd, Nat.reduceSub, Nat.reduceMul, Nat.reduceLT, Nat.reduceLeDiff, reduceCtorEq, Int.reduceLT, Int.reduceLE, Int.reduceAdd, Int.reduceSub, Int.reduceMul, Int.reduceToNat, Int.reduceNeg, Int.reduceEq])

theorem NamesO_2 (l : List (Int × Int)) (s : Int) (hw : Wf l) (hc : checkF l = 0) (hs : ¬ (0 ≤ s ∧ s < l.length)) :
    FC Cx 21 [shapesV l, Iv s] [] (.os 0 1) [(0, 1, .sl 3 1 ((namesF l s).map intA))] := by
  have hlen : (l.map shapeR).length = l.length := List.length_map ..
  have hF : namesF l s = [] := by rw [namesF, if_neg fun h => hs h.2]
  rw [hF]
  by_cases h0 : s < 0
  · exact NamesO_2a l s hw hc hlen (by rw [decide_eq_true_eq]; exact h0)
  · exact NamesO_2b l s hw hc hlen (by rw [decide_eq_false_iff_not]; exact h0) (by rw [decide_eq_true_eq]; omega)

theorem NamesO_3 (l : List (Int × Int)) (s : Int) (hw : Wf l) (hc : ¬ checkF l = 0) :
    FC Cx 21 [shapesV l, Iv s] [] (.os 0 1) [(0, 1, .sl 3 1 ((namesF l s).map intA))] := by
  have hF : namesF l s = [] := by rw [namesF, if_neg fun h => hc h.1]
  have d0 : decide (checkF l = 0) = false := by rw [decide_eq_false_iff_not]; exact hc
  rw [hF]
  refine FCo_of [ct_check', ct_namesP] (i := 0) [.os 0 1] Try.func21 rfl Try.ntmps21 (by simp) Try.results21 (flatI _) ?_
  apply Rn_st; (intro K0; simp only [go_sem, ↓reduceIte, Nat.reduceEqDiff, Nat.reduceAdd, Nat.reduceSub, Nat.reduceMul, Nat.reduceLT, Nat.reduceLeDiff, reduceCtorEq, Int.reduceLT, Int.reduceLE, Int.reduceAdd, Int.reduceSub, Int.reduceMul, Int.reduceToNat, Int.reduceNeg, Int.reduceEq]; exact ⟨id⟩)
  repeat' (first
    | (focus (intro K0; (try simp only [go_sem, ↓reduceIte, Nat.reduceEqDiff, Nat.reduceAdd, Nat.reduceSub, Nat.reduceMul, Nat.reduceLT, Nat.reduceLeDiff, reduceCtorEq, Int.reduceLT, Int.reduceLE, Int.reduceAdd, Int.reduceSub, Int.reduceMul, Int.reduceToNat, Int.reduceNeg, Int.reduceEq, *]); (first | exact ⟨id⟩ | (refine ⟨fun h => ?_⟩; (repeat' (first | exact h | refine And.intro ?_ ?_ | omega)); done))))
    | (refine Rn_seq ?_)
    | (refine Rn_block ?_)
    | (apply Rn_region' [(0, [0, 1]), (1, [0, 1]), (2, []), (3, [0, 1])]; (exact rfl))
    | (refine Rn_region ?_)
    | (apply Rn_op'; (exact rfl))
    | (refine Rn_o_nil ?_)
    | (apply Rn_g; (exact rfl); (exact rfl); (focus (intro K0; (try simp only [lookT, ev, Nat.reduceEqDiff, ↓reduceIte]); exact ⟨id⟩)))
    | (with_reducible (apply RnG_yes))
    | ((with_reducible (apply RnG_t_no)); (exact rfl))
    | ((with_reducible (apply RnG_f_no)); (exact rfl))
    | ((with_reducible (apply RnG_un)); (exact rfl))
    | (apply RnG_never; (focus (intro K0; (try simp only [go_sem, Nat.reduceEqDiff, ↓reduceIte]); exact ⟨id⟩)); (exact rfl))
    | (apply RnG_lazy; (exact rfl); (focus (intro K0; (try simp only [go_sem, Nat.reduceEqDiff, ↓reduceIte]); exact ⟨id⟩)); (focus (first | (simp only [Nat.reduceLT]; done) | omega)); (focus (intro hw0; (try simp only [Bool.and_eq_true, Bool.not_eq_true', beq_true', beq_false'] at hw0); (focus (intro K0; (try simp only [go_sem, ↓reduceIte, Nat.reduceEqDiff, Nat.reduceAdd, Nat.reduceSub, Nat.reduceMul, Nat.reduceLT, Nat.reduceLeDiff, reduceCtorEq, Int.reduceLT, Int.reduceLE, Int.reduceAdd, Int.reduceSub, Int.reduceMul, Int.reduceToNat, Int.reduceNeg, Int.reduceEq, *]); (first | exact ⟨id⟩ | (refine ⟨fun h => ?_⟩; (repeat' (first | exact h | refine And.intro ?_ ?_ | omega)); done)))))))
    | (apply Rn_c; (focus (intro K0; (try simp only [lookT, ev, Nat.reduceEqDiff, ↓reduceIte]); exact ⟨id⟩)))
    | (with_reducible (refine RnC_t ?_))
    | (with_reducible (refine RnC_f ?_))
    | (refine Rn_skip ?_)
    | (refine Rn_exit rfl ?_)
    | (refine Rn_b ?_)
    | (apply Rn_draw' [(0, [0, 1]), (1, [0, 1]), (2, []), (3, [0, 1])]; (exact rfl))
    | (refine Rn_draw ?_)
    | (apply Rd_op'; (exact rfl))
    | (refine Rd_nil (by kernel_rfl) ?_)
    | (apply Rd_g; (exact rfl); (exact rfl); (focus (intro K0; (try simp only [lookT, ev, Nat.reduceEqDiff, ↓reduceIte]); exact ⟨id⟩)))
    | (with_reducible (apply RdG_yes))
    | ((with_reducible (apply RdG_t_no)); (exact rfl))
    | ((with_reducible (apply RdG_f_no)); (exact rfl))
    | ((with_reducible (apply RdG_un)); (exact rfl))
    | (apply RdG_never; (focus (intro K0; (try simp only [go_sem, Nat.reduceEqDiff, ↓reduceIte]); exact ⟨id⟩)); (exact rfl))
    | (apply RdG_lazy; (exact rfl); (focus (intro K0; (try simp only [go_sem, Nat.reduceEqDiff, ↓reduceIte]); exact ⟨id⟩)); (focus (first | (simp only [Nat.reduceLT]; done) | omega)); (focus (intro hw0; (try simp only [Bool.and_eq_true, Bool.not_eq_true', beq_true', beq_false'] at hw0); (focus (intro K0; (try simp only [go_sem, ↓reduceIte, Nat.reduceEqDiff, Nat.reduceAdd, Nat.reduceSub, Nat.reduceMul, Nat.reduceLT, Nat.reduceLeDiff, reduceCtorEq, Int.reduceLT, Int.reduceLE, Int.reduceAdd, Int.reduceSub, Int.reduceMul, Int.reduceToNat, Int.reduceNeg, Int.reduceEq, *]); (first | exact ⟨id⟩ | (refine ⟨fun h => ?_⟩; (repeat' (first | exact h | refine And.intro ?_ ?_ | omega)); done)))))))
    | ((with_reducible (first | refine RnG_split (fun h => ?_) (fun h => ?_) | refine RdG_split (fun h => ?_) (fun h => ?_) | refine RnC_split (fun h => ?_) (fun h => ?_))) <;> (have h' := h) <;> (try simp only [decide_eq_true_eq, decide_eq_false_iff_not, Bool.not_eq_true', Bool.not_eq_false', Bool.and_eq_true, Bool.or_eq_true, Bool.or_eq_false_iff, beq_iff_eq, bne_iff_ne, ne_eq, Bool.not_true, Bool.not_false, not_false_eq_true, reduceCtorEq, beq_eq_false_iff_ne, bne_eq_false_iff_eq] at h') <;> (first | apply Rn_st | apply Rd_st))
    | (refine Rn_out_ck rfl rfl ?_)
    | (refine Rn_ret_ck ?_)
    | (refine Rn_ret ?_)
    | (refine Rn_nil_then ?_)
    | (refine LoopN_step (T := [ct_check', ct_namesP]) ?_)
    | (refine Rn_nil ?_))
  all_goals (try simp only [go_sem, ↓reduceIte, Nat.reduceEqDiff, Nat.reduceAdd, Nat.reduceSub, Nat.reduceMul, Nat.reduceLT, Nat.reduceLeDiff, reduceCtorEq, Int.reduceLT, Int.reduceLE, Int.reduceAdd, Int.reduceSub, Int.reduceMul, Int.reduceToNat, Int.reduceNeg, Int.reduceEq])

theorem NamesO_c (l : List (Int × Int)) (s : Int) (hw : Wf l) : FC Cx 21 [shapesV l, Iv s] [] (.os 0 1) [(0, 1, .sl 3 1 ((namesF l s).map intA))] := by
  have hlen : (l.map shapeR).length = l.length := List.length_map ..
  by_cases hc : checkF l = 0
  · by_cases hs : 0 ≤ s ∧ s < l.length
    · have d1 : decide (s < 0) = false := by rw [decide_eq_false_iff_not]; omega
      have d2 : decide ((l.length : Int) ≤ s) = false := by rw [decide_eq_false_iff_not]; omega
      have hU := (good_ups hc s).1
      have hl := (good_ups hc s).2.1
      have hF : namesF l s = namesL l s := by rw [namesF, if_pos ⟨hc, hs⟩]
      rw [hF]
      exact NamesO_1 l s hw hc d1 d2 hU hl hlen hs
    · exact NamesO_2 l s hw hc hs
  · exact NamesO_3 l s hw hc

end Go.Proofs.Ytjbhpoolghfhiaa
