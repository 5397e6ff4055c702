/- What the document's operations of one value and of two come to: as the machine's. No condition: contracts of the document's functions. -/
import Derived.Test.YtjbhpoolghfhiaaDoorOps11
namespace Go.Proofs.YtjbhpoolghfhiaaDoor
set_option linter.unusedVariables false
set_option linter.unusedSimpArgs false
set_option maxHeartbeats 10000000
open Go
set_option maxRecDepth 10000

/-- A float that is no number is one of its kinds. -/
theorem FC_nan {C : Ctx} {f : Nat} {r : AV} (h : ∀ b, isNaN64 b → FC C f [Fv b] [] r []) : FC C f [.r .nan] [] r [] := by
  refine ⟨fun e g w vs hok hs hvs => ?_⟩
  obtain ⟨h1, h2⟩ := hvs
  match vs, h1 with
  | ⟨[v]⟩, _ =>
    have h3 := h2 0 _ v rfl rfl
    cases h3 with
    | r h3 =>
      cases h3 with
      | nan b hb =>
        refine (h b hb).run e g w _ hok hs ⟨rfl, fun j x y hx hy => ?_⟩
        match j with
        | 0 => simp at hx hy; subst hx; subst hy; exact .r (.v _)
        | j + 1 => simp at hx

theorem isNum_nan {b : Nat} (h : isNaN64 b) : isNum b = false := by
  unfold isNaN64 at h
  simp [isNum, h]

theorem rFloatV_c' (x : AV) (h : isF x = true) : FC Cx 39 [x] [] (VV 3 (ofV x)) [] := by
  unfold isF at h
  split at h
  · exact rFloatV_c _
  · refine FC_nan fun b hb => ?_
    have := rFloatV_c b
    unfold ofN at this
    rw [isNum_nan hb] at this
    exact this
  · cases h
def sp_rFloatV (args : List AV) (K : AV → Prop) : Prop := match args with
  | [x] => isF x = true ∧ K (VV 3 (ofV x))
  | _ => False
theorem sp_rFloatV_ok (args : List AV) (K : AV → Prop) (h : sp_rFloatV args K) : ∃ r, CallOk Cx 39 args r ∧ K r := by
  unfold sp_rFloatV at h
  split at h
  · rename_i x
    refine ⟨_, CallOk_of (rFloatV_c' x h.1) en39 ?_ rfl, h.2⟩
    have := h.1
    unfold isF at this
    split at this
    · rfl
    · rfl
    · cases this
  · exact h.elim
noncomputable def ct_rFloatV : Ct Cx := .pure 39 sp_rFloatV sp_rFloatV_ok
@[go_sem] theorem ct_rFloatV_g : ct_rFloatV.g = 39 := rfl
@[go_sem] theorem ct_rFloatV_run (c : Call) (fop : Operand) (caps : List RV) (o : Oper) (st : St) (K : List Loc → List (Loc × Cont) → Prop) : ct_rFloatV.run c fop caps o st K = callT Cx sp_rFloatV c fop caps o st K := rfl
@[go_sem] theorem sp_rFloatV_eq (args : List AV) (K : AV → Prop) : sp_rFloatV args K = (match args with
    | [x] => isF x = true ∧ K (VV 3 (ofV x))
    | _ => False) := rfl

theorem tak_right (k n : Int) : rightF (takK k n) (takN k n) = true := by
  unfold takK takN
  split
  · assumption
  · decide
theorem tak_tak (k n : Int) : takK (takK k n) (takN k n) = takK k n ∧ takN (takK k n) (takN k n) = takN k n := by
  have h := tak_right k n
  constructor
  · show (if rightF (takK k n) (takN k n) = true then takK k n else 0) = _; rw [if_pos h]
  · show (if rightF (takK k n) (takN k n) = true then takN k n else 0) = _; rw [if_pos h]

theorem one_c (op k n : Int) : FC Cx 9 [Iv op, VV k n] [] (tr (unaryF op k n)) [] := by
  refine FCp_of [ct_rTaken, ct_rTrue, ct_rBool, ct_rInt, ct_rFloatOf, ct_rFloatV] Tryd.func9 rfl Tryd.ntmps9 (by simp) Tryd.results9 rfl ?_
  apply Rn_st; (intro K0; simp only [go_sem, ↓reduceIte, Nat.reduceEqDiff, Nat.reduceAdd, Nat.reduceSub, Nat.reduceMul, Nat.reduceLT, Nat.reduceLeDiff, reduceCtorEq, Int.reduceLT, Int.reduceLE, Int.reduceAdd, Int.reduceSub, Int.reduceMul, Int.reduceToNat, Int.reduceNeg, Int.reduceEq]; exact ⟨id⟩)
  repeat' (first
    | (focus (intro K0; (try simp only [go_sem, ↓reduceIte, Nat.reduceEqDiff, Nat.reduceAdd, Nat.reduceSub, Nat.reduceMul, Nat.reduceLT, Nat.reduceLeDiff, reduceCtorEq, Int.reduceLT, Int.reduceLE, Int.reduceAdd, Int.reduceSub, Int.reduceMul, Int.reduceToNat, Int.reduceNeg, Int.reduceEq, *]); (first | exact ⟨id⟩ | (refine ⟨fun h => ?_⟩; (repeat' (first | exact h | refine And.intro ?_ ?_ | omega)); done))))
    | (refine Rn_seq ?_)
    | (refine Rn_block ?_)
    | (apply Rn_region' [(0, [0, 1]), (1, [0, 3, 4]), (2, [0, 3, 4]), (3, [3, 4]), (4, [0, 3, 4]), (5, [3, 4]), (6, [0, 3, 4]), (7, [3, 4]), (8, [4])]; (exact rfl))
    | (refine Rn_region ?_)
    | (apply Rn_op'; (exact rfl))
    | (refine Rn_o_nil ?_)
    | (apply Rn_g; (exact rfl); (exact rfl); (focus (intro K0; (try simp only [lookT, ev, Nat.reduceEqDiff, ↓reduceIte]); exact ⟨id⟩)))
    | (with_reducible (apply RnG_yes))
    | ((with_reducible (apply RnG_t_no)); (exact rfl))
    | ((with_reducible (apply RnG_f_no)); (exact rfl))
    | ((with_reducible (apply RnG_un)); (exact rfl))
    | (apply RnG_never; (focus (intro K0; (try simp only [go_sem, Nat.reduceEqDiff, ↓reduceIte]); exact ⟨id⟩)); (exact rfl))
    | (apply RnG_lazy; (exact rfl); (focus (intro K0; (try simp only [go_sem, Nat.reduceEqDiff, ↓reduceIte]); exact ⟨id⟩)); (focus (first | (simp only [Nat.reduceLT]; done) | omega)); (focus (intro hw0; (try simp only [Bool.and_eq_true, Bool.not_eq_true', beq_true', beq_false'] at hw0); (focus (intro K0; (try simp only [go_sem, ↓reduceIte, Nat.reduceEqDiff, Nat.reduceAdd, Nat.reduceSub, Nat.reduceMul, Nat.reduceLT, Nat.reduceLeDiff, reduceCtorEq, Int.reduceLT, Int.reduceLE, Int.reduceAdd, Int.reduceSub, Int.reduceMul, Int.reduceToNat, Int.reduceNeg, Int.reduceEq, *]); (first | exact ⟨id⟩ | (refine ⟨fun h => ?_⟩; (repeat' (first | exact h | refine And.intro ?_ ?_ | omega)); done)))))))
    | (apply Rn_c; (focus (intro K0; (try simp only [lookT, ev, Nat.reduceEqDiff, ↓reduceIte]); exact ⟨id⟩)))
    | (with_reducible (refine RnC_t ?_))
    | (with_reducible (refine RnC_f ?_))
    | (refine Rn_skip ?_)
    | (refine Rn_exit rfl ?_)
    | (refine Rn_b ?_)
    | (apply Rn_draw' [(0, [0, 1]), (1, [0, 3, 4]), (2, [0, 3, 4]), (3, [3, 4]), (4, [0, 3, 4]), (5, [3, 4]), (6, [0, 3, 4]), (7, [3, 4]), (8, [4])]; (exact rfl))
    | (refine Rn_draw ?_)
    | (apply Rd_op'; (exact rfl))
    | (refine Rd_nil (by kernel_rfl) ?_)
    | (apply Rd_g; (exact rfl); (exact rfl); (focus (intro K0; (try simp only [lookT, ev, Nat.reduceEqDiff, ↓reduceIte]); exact ⟨id⟩)))
    | (with_reducible (apply RdG_yes))
    | ((with_reducible (apply RdG_t_no)); (exact rfl))
    | ((with_reducible (apply RdG_f_no)); (exact rfl))
    | ((with_reducible (apply RdG_un)); (exact rfl))
    | (apply RdG_never; (focus (intro K0; (try simp only [go_sem, Nat.reduceEqDiff, ↓reduceIte]); exact ⟨id⟩)); (exact rfl))
    | (apply RdG_lazy; (exact rfl); (focus (intro K0; (try simp only [go_sem, Nat.reduceEqDiff, ↓reduceIte]); exact ⟨id⟩)); (focus (first | (simp only [Nat.reduceLT]; done) | omega)); (focus (intro hw0; (try simp only [Bool.and_eq_true, Bool.not_eq_true', beq_true', beq_false'] at hw0); (focus (intro K0; (try simp only [go_sem, ↓reduceIte, Nat.reduceEqDiff, Nat.reduceAdd, Nat.reduceSub, Nat.reduceMul, Nat.reduceLT, Nat.reduceLeDiff, reduceCtorEq, Int.reduceLT, Int.reduceLE, Int.reduceAdd, Int.reduceSub, Int.reduceMul, Int.reduceToNat, Int.reduceNeg, Int.reduceEq, *]); (first | exact ⟨id⟩ | (refine ⟨fun h => ?_⟩; (repeat' (first | exact h | refine And.intro ?_ ?_ | omega)); done)))))))
    | ((with_reducible (first | refine RnG_split (fun h => ?_) (fun h => ?_) | refine RdG_split (fun h => ?_) (fun h => ?_) | refine RnC_split (fun h => ?_) (fun h => ?_))) <;> (have h' := h) <;> (try simp only [decide_eq_true_eq, decide_eq_false_iff_not, Bool.not_eq_true', Bool.not_eq_false', Bool.and_eq_true, Bool.or_eq_true, Bool.or_eq_false_iff, beq_iff_eq, bne_iff_ne, ne_eq, Bool.not_true, Bool.not_false, not_false_eq_true, reduceCtorEq, beq_eq_false_iff_ne, bne_eq_false_iff_eq] at h') <;> (first | apply Rn_st | apply Rd_st))
    | (refine Rn_out_ck rfl rfl ?_)
    | (refine Rn_ret_ck ?_)
    | (refine Rn_ret ?_)
    | (refine Rn_nil_then ?_)
    | (refine LoopN_step (T := [ct_rTaken, ct_rTrue, ct_rBool, ct_rInt, ct_rFloatOf, ct_rFloatV]) ?_)
    | (refine Rn_nil ?_))
  all_goals (try simp only [go_sem, ↓reduceIte, Nat.reduceEqDiff, Nat.reduceAdd, Nat.reduceSub, Nat.reduceMul, Nat.reduceLT, Nat.reduceLeDiff, reduceCtorEq, Int.reduceLT, Int.reduceLE, Int.reduceAdd, Int.reduceSub, Int.reduceMul, Int.reduceToNat, Int.reduceNeg, Int.reduceEq])
  all_goals (first | (simp_all [unaryF, boolF, ofV]; done) | ((try simp only [unaryF, boolF, ofV]); (repeat' split) <;> (first | (simp_all [unaryF, boolF, ofV]; done) | (simp_all [unaryF, boolF, ofV]; omega))))
/-- How calls of this function are met. -/
def sp_one (args : List AV) (K : AV → Prop) : Prop := match args with
  | [.r (.v (.int .i64 op)), .agg [.r (.v (.int .i64 k)), .r (.v (.int .i64 n))]] => K (tr (unaryF op k n))
  | _ => False
theorem sp_one_ok (args : List AV) (K : AV → Prop) (h : sp_one args K) : ∃ r, CallOk Cx 9 args r ∧ K r := by
  unfold sp_one at h
  split at h
  · exact ⟨_, CallOk_of (one_c _ _ _) en9 rfl rfl, h⟩
  · exact h.elim
noncomputable def ct_one : Ct Cx := .pure 9 sp_one sp_one_ok
@[go_sem] theorem ct_one_g : ct_one.g = 9 := rfl
@[go_sem] theorem ct_one_run (c : Call) (fop : Operand) (caps : List RV) (o : Oper) (st : St) (K : List Loc → List (Loc × Cont) → Prop) : ct_one.run c fop caps o st K = callT Cx sp_one c fop caps o st K := rfl
@[go_sem] theorem sp_one_eq (args : List AV) (K : AV → Prop) : sp_one args K = (match args with
    | [.r (.v (.int .i64 op)), .agg [.r (.v (.int .i64 k)), .r (.v (.int .i64 n))]] => K (tr (unaryF op k n))
    | _ => False) := rfl

@[go_sem ↓] theorem avCells_float (op : BinOp) (a b : Nat) : avCells (floatAV op a b) = [floatAV op a b] := by unfold floatAV; split <;> rfl
@[go_sem ↓] theorem okCell_float (op : BinOp) (a b : Nat) : okCell (floatAV op a b) = true := by unfold floatAV; split <;> rfl

theorem bin_x (op k n l m : Int) (hA : (decide (takK k n = takK l m) && (decide (takK k n = 2) || decide (takK k n = 3))) = false) (hF : (decide (takK k n = 3) && decide (takK l m = 3)) = false) :
    binaryF op k n l m = if op = 8 then boolF (decide (takK k n = takK l m) && decide (takN k n = takN l m)) else (0, 0, 0) := by
  have h1 : ¬ (takK k n = 3 ∧ takK l m = 3) := by rintro ⟨a, b⟩; simp [a, b] at hF
  have h2 : ¬ (takK k n = 2 ∧ takK l m = 2) := by rintro ⟨a, b⟩; simp [a, b] at hA
  unfold binaryF
  rw [if_neg h1, if_neg h2]

theorem bin_i (op k n l m : Int) (hk : takK k n = 2) (hl : takK l m = 2) : binaryF op k n l m = if op = 8 then boolF (decide (takN k n = takN l m)) else wholesF op (takN k n) (takN l m) := by
  have h1 : ¬ (takK k n = 3 ∧ takK l m = 3) := by omega
  unfold binaryF
  rw [if_neg h1]
  by_cases h8 : op = 8
  · rw [if_pos h8, if_pos h8, hk, hl]; simp
  · rw [if_neg h8, if_neg h8, if_pos ⟨hk, hl⟩]

theorem tak2 {k n : Int} (hk : takK k n = 2) : -2147483648 ≤ takN k n ∧ takN k n ≤ 2147483647 := by
  have h := tak_right k n
  rw [hk] at h
  simpa [rightF] using h

theorem mod_i {a b : Int} (ha : -2147483648 ≤ a ∧ a ≤ 2147483647) (hb : -2147483648 ≤ b ∧ b ≤ 2147483647) :
    IntKind.i64.wrap (a - IntKind.i64.wrap (IntKind.i64.wrap (a.tdiv b) * b)) = a.tmod b := by
  have h1 : (a.tdiv b).natAbs ≤ a.natAbs := by rw [Int.natAbs_tdiv]; exact Nat.div_le_self _ _
  have h2 := Int.tmod_add_tdiv_mul a b
  have h3 : (a.tmod b).natAbs ≤ a.natAbs := by rw [Int.natAbs_tmod]; exact Nat.mod_le _ _
  rw [wrap_id (a.tdiv b) (by omega) (by omega)]
  have h4 : a.tdiv b * b = a - a.tmod b := by omega
  rw [h4, wrap_id (a - a.tmod b) (by omega) (by omega), wrap_id _ (by omega) (by omega)]
  omega

theorem twox_c (op k n l m : Int) (hA : (decide (takK k n = takK l m) && (decide (takK k n = 2) || decide (takK k n = 3))) = false) (hF : (decide (takK k n = 3) && decide (takK l m = 3)) = false)  : FC Cx 10 [Iv op, VV k n, VV l m] [] (tr (binaryF op k n l m)) [] := by
  refine FCp_of [ct_rTaken, ct_rBool, ct_rInt, ct_rFloatOf, ct_rFloatV] Tryd.func10 rfl Tryd.ntmps10 (by simp) Tryd.results10 rfl ?_
  apply Rn_st; (intro K0; simp only [go_sem, ↓reduceIte, Nat.reduceEqDiff, Nat.reduceAdd, Nat.reduceSub, Nat.reduceMul, Nat.reduceLT, Nat.reduceLeDiff, reduceCtorEq, Int.reduceLT, Int.reduceLE, Int.reduceAdd, Int.reduceSub, Int.reduceMul, Int.reduceToNat, Int.reduceNeg, Int.reduceEq]; exact ⟨id⟩)
  repeat' (first
    | (focus (intro K0; (try simp only [go_sem, ↓reduceIte, Nat.reduceEqDiff, Nat.reduceAdd, Nat.reduceSub, Nat.reduceMul, Nat.reduceLT, Nat.reduceLeDiff, reduceCtorEq, Int.reduceLT, Int.reduceLE, Int.reduceAdd, Int.reduceSub, Int.reduceMul, Int.reduceToNat, Int.reduceNeg, Int.reduceEq, *]); (first | exact ⟨id⟩ | (refine ⟨fun h => ?_⟩; (repeat' (first | exact h | refine And.intro ?_ ?_ | omega)); done))))
    | (refine Rn_seq ?_)
    | (refine Rn_block ?_)
    | (apply Rn_region' [(0, [0, 1, 2]), (1, [0, 4, 5, 6]), (2, [0, 4, 5, 6]), (3, [0, 4, 5, 6, 8, 9]), (4, [0, 4, 5, 6, 8, 9, 10]), (5, [0, 4, 5, 6, 8, 9, 10, 11]), (6, [6]), (7, [0, 4, 5, 6, 8, 9, 10, 11, 45]), (8, [4, 5, 6, 8, 9, 11]), (9, [6, 8, 9]), (10, [4, 5, 6]), (11, [0, 4, 5, 6, 8, 9, 10, 11, 45]), (12, [0, 4, 5, 6, 8, 9, 10, 11, 45]), (13, [0, 4, 5, 6, 8, 9, 10, 11]), (14, [6]), (15, [0, 4, 5, 6, 8, 9, 11]), (16, [0, 6, 8, 9, 11, 12, 13]), (17, [0, 6, 8, 9]), (18, [0, 6, 12, 13]), (19, [0, 4, 5, 6, 8, 9, 10, 11, 45]), (20, [0, 4, 5, 6, 8, 9, 10, 11, 45]), (21, [0, 4, 5, 6, 8, 9, 10, 11, 45]), (22, [0, 4, 5, 6, 8, 9, 10, 11, 45]), (23, [0, 4, 5, 6, 8, 9, 10, 11, 45]), (24, [0, 4, 5, 6, 8, 9, 10, 11]), (25, [6]), (26, [0, 4, 5, 6, 8, 9, 11]), (27, [0, 6, 8, 9]), (28, [0, 4, 5, 6]), (29, [6]), (30, [0, 4, 5, 6]), (31, [4, 5, 6, 133]), (32, [4, 5, 6]), (33, [4, 5, 6, 133]), (34, [4, 5, 6]), (35, [4, 5, 6, 133]), (36, [4, 5, 6]), (37, [4, 5, 6, 133]), (38, [4, 5, 6]), (39, [4, 5, 6])]; (exact rfl))
    | (refine Rn_region ?_)
    | (apply Rn_op'; (exact rfl))
    | (refine Rn_o_nil ?_)
    | (apply Rn_g; (exact rfl); (exact rfl); (focus (intro K0; (try simp only [lookT, ev, Nat.reduceEqDiff, ↓reduceIte]); exact ⟨id⟩)))
    | (with_reducible (apply RnG_yes))
    | ((with_reducible (apply RnG_t_no)); (exact rfl))
    | ((with_reducible (apply RnG_f_no)); (exact rfl))
    | ((with_reducible (apply RnG_un)); (exact rfl))
    | (apply RnG_never; (focus (intro K0; (try simp only [go_sem, Nat.reduceEqDiff, ↓reduceIte]); exact ⟨id⟩)); (exact rfl))
    | (apply RnG_lazy; (exact rfl); (focus (intro K0; (try simp only [go_sem, Nat.reduceEqDiff, ↓reduceIte]); exact ⟨id⟩)); (focus (first | (simp only [Nat.reduceLT]; done) | omega)); (focus (intro hw0; (try simp only [Bool.and_eq_true, Bool.not_eq_true', beq_true', beq_false'] at hw0); (focus (intro K0; (try simp only [go_sem, ↓reduceIte, Nat.reduceEqDiff, Nat.reduceAdd, Nat.reduceSub, Nat.reduceMul, Nat.reduceLT, Nat.reduceLeDiff, reduceCtorEq, Int.reduceLT, Int.reduceLE, Int.reduceAdd, Int.reduceSub, Int.reduceMul, Int.reduceToNat, Int.reduceNeg, Int.reduceEq, *]); (first | exact ⟨id⟩ | (refine ⟨fun h => ?_⟩; (repeat' (first | exact h | refine And.intro ?_ ?_ | omega)); done)))))))
    | (apply Rn_c; (focus (intro K0; (try simp only [lookT, ev, Nat.reduceEqDiff, ↓reduceIte]); exact ⟨id⟩)))
    | (with_reducible (refine RnC_t ?_))
    | (with_reducible (refine RnC_f ?_))
    | (refine Rn_skip ?_)
    | (refine Rn_exit rfl ?_)
    | (refine Rn_b ?_)
    | (apply Rn_draw' [(0, [0, 1, 2]), (1, [0, 4, 5, 6]), (2, [0, 4, 5, 6]), (3, [0, 4, 5, 6, 8, 9]), (4, [0, 4, 5, 6, 8, 9, 10]), (5, [0, 4, 5, 6, 8, 9, 10, 11]), (6, [6]), (7, [0, 4, 5, 6, 8, 9, 10, 11, 45]), (8, [4, 5, 6, 8, 9, 11]), (9, [6, 8, 9]), (10, [4, 5, 6]), (11, [0, 4, 5, 6, 8, 9, 10, 11, 45]), (12, [0, 4, 5, 6, 8, 9, 10, 11, 45]), (13, [0, 4, 5, 6, 8, 9, 10, 11]), (14, [6]), (15, [0, 4, 5, 6, 8, 9, 11]), (16, [0, 6, 8, 9, 11, 12, 13]), (17, [0, 6, 8, 9]), (18, [0, 6, 12, 13]), (19, [0, 4, 5, 6, 8, 9, 10, 11, 45]), (20, [0, 4, 5, 6, 8, 9, 10, 11, 45]), (21, [0, 4, 5, 6, 8, 9, 10, 11, 45]), (22, [0, 4, 5, 6, 8, 9, 10, 11, 45]), (23, [0, 4, 5, 6, 8, 9, 10, 11, 45]), (24, [0, 4, 5, 6, 8, 9, 10, 11]), (25, [6]), (26, [0, 4, 5, 6, 8, 9, 11]), (27, [0, 6, 8, 9]), (28, [0, 4, 5, 6]), (29, [6]), (30, [0, 4, 5, 6]), (31, [4, 5, 6, 133]), (32, [4, 5, 6]), (33, [4, 5, 6, 133]), (34, [4, 5, 6]), (35, [4, 5, 6, 133]), (36, [4, 5, 6]), (37, [4, 5, 6, 133]), (38, [4, 5, 6]), (39, [4, 5, 6])]; (exact rfl))
    | (refine Rn_draw ?_)
    | (apply Rd_op'; (exact rfl))
    | (refine Rd_nil (by kernel_rfl) ?_)
    | (apply Rd_g; (exact rfl); (exact rfl); (focus (intro K0; (try simp only [lookT, ev, Nat.reduceEqDiff, ↓reduceIte]); exact ⟨id⟩)))
    | (with_reducible (apply RdG_yes))
    | ((with_reducible (apply RdG_t_no)); (exact rfl))
    | ((with_reducible (apply RdG_f_no)); (exact rfl))
    | ((with_reducible (apply RdG_un)); (exact rfl))
    | (apply RdG_never; (focus (intro K0; (try simp only [go_sem, Nat.reduceEqDiff, ↓reduceIte]); exact ⟨id⟩)); (exact rfl))
    | (apply RdG_lazy; (exact rfl); (focus (intro K0; (try simp only [go_sem, Nat.reduceEqDiff, ↓reduceIte]); exact ⟨id⟩)); (focus (first | (simp only [Nat.reduceLT]; done) | omega)); (focus (intro hw0; (try simp only [Bool.and_eq_true, Bool.not_eq_true', beq_true', beq_false'] at hw0); (focus (intro K0; (try simp only [go_sem, ↓reduceIte, Nat.reduceEqDiff, Nat.reduceAdd, Nat.reduceSub, Nat.reduceMul, Nat.reduceLT, Nat.reduceLeDiff, reduceCtorEq, Int.reduceLT, Int.reduceLE, Int.reduceAdd, Int.reduceSub, Int.reduceMul, Int.reduceToNat, Int.reduceNeg, Int.reduceEq, *]); (first | exact ⟨id⟩ | (refine ⟨fun h => ?_⟩; (repeat' (first | exact h | refine And.intro ?_ ?_ | omega)); done)))))))
    | ((with_reducible (first | refine RnG_split (fun h => ?_) (fun h => ?_) | refine RdG_split (fun h => ?_) (fun h => ?_) | refine RnC_split (fun h => ?_) (fun h => ?_))) <;> (have h' := h) <;> (try simp only [decide_eq_true_eq, decide_eq_false_iff_not, Bool.not_eq_true', Bool.not_eq_false', Bool.and_eq_true, Bool.or_eq_true, Bool.or_eq_false_iff, beq_iff_eq, bne_iff_ne, ne_eq, Bool.not_true, Bool.not_false, not_false_eq_true, reduceCtorEq, beq_eq_false_iff_ne, bne_eq_false_iff_eq] at h') <;> (first | apply Rn_st | apply Rd_st))
    | (refine Rn_out_ck rfl rfl ?_)
    | (refine Rn_ret_ck ?_)
    | (refine Rn_ret ?_)
    | (refine Rn_nil_then ?_)
    | (refine LoopN_step (T := [ct_rTaken, ct_rBool, ct_rInt, ct_rFloatOf, ct_rFloatV]) ?_)
    | (refine Rn_nil ?_))
  all_goals (try simp only [go_sem, ↓reduceIte, Nat.reduceEqDiff, Nat.reduceAdd, Nat.reduceSub, Nat.reduceMul, Nat.reduceLT, Nat.reduceLeDiff, reduceCtorEq, Int.reduceLT, Int.reduceLE, Int.reduceAdd, Int.reduceSub, Int.reduceMul, Int.reduceToNat, Int.reduceNeg, Int.reduceEq, *])
  all_goals (simp_all [bin_x, boolF])

end Go.Proofs.YtjbhpoolghfhiaaDoor
