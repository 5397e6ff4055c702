/- The walk through all orders that ways lead to: going on from one. No condition: contracts of the program's functions. -/
import Derived.Test.YtbhnmolmkembdaaDoorCd8
namespace Go.Proofs.YtbhnmolmkembdaaDoor
set_option linter.unusedVariables false
set_option linter.unusedSimpArgs false
set_option maxHeartbeats 10000000
open Go
set_option maxRecDepth 10000



def ins0 : InsT := ⟨0, 0, 0, 0, 0⟩
def fromF (f : FnT) (n : Int) (W : WT) : WT :=
  let i := f.code.getD n.toNat ins0
  let l := W.out.getD n.toNat []
  if i.op = 28 ∨ i.op = 29 then W else if i.op = 13 ∨ i.op = 14 then comeF f i.a l W else
  if i.op = 15 then comeF f (n + 1) l (comeF f i.b l W) else if i.op = 30 then comeF f (n + 1) (l ++ [(i.a, i.b)]) (comeF f i.b l W) else
  if i.op = 31 then (if l = [] then { W with bad := true } else comeF f (n + 1) (l.take (l.length - 1)) W) else comeF f (n + 1) l W

theorem come_todo (f : FnT) (n : Int) (l : List (Int × Int)) (W : WT) : (comeF f n l W).todo.length ≤ W.todo.length + 1 := by
  unfold comeF
  split
  · simp
  · split
    · simp
    · split <;> simp
theorem come_ok {f : FnT} {n : Int} {l : List (Int × Int)} {W : WT} (h : Wok f W) (ht : W.todo.length ≤ 999) : Wok f (comeF f n l W) := by
  obtain ⟨h1, h2, h3, h4, h5⟩ := h
  have h6 := come_todo f n l W
  refine ⟨h1, ?_, ?_, by omega, ?_⟩
  · unfold comeF; split
    · exact h2
    · split
      · simpa using h2
      · split <;> exact h2
  · unfold comeF; split
    · exact h3
    · split
      · simpa using h3
      · split <;> exact h3
  · unfold comeF; split
    · exact h5
    · split
      · intro x hx
        rcases List.mem_or_eq_of_mem_set hx with hx | rfl
        · exact h5 x hx
        · omega
      · split <;> exact h5

theorem from_c (f : FnT) (n : Nat) (W : WT) (hw : Wok f W) (ht : W.todo.length ≤ 998) (i : InsT) (hi : f.code[n]? = some i) (hA : i.op = 13 ∨ i.op = 14 → 0 ≤ i.a) (hB : i.op = 15 ∨ i.op = 30 → 0 ≤ i.b) (hl20 : (W.out.getD n []).length ≤ 20) :
    FC Cx 44 [.os 0 0, Iv n] (rsW 0 f W) (.tup []) (rsW 2 f (fromF f n W)) := by
  obtain ⟨hc, h1, h2, h3, h4⟩ := id hw
  have hn : n < f.code.length := (List.getElem?_eq_some_iff.1 hi).1
  have l0 : (f.code.map insR).length = f.code.length := List.length_map ..
  have l2 : (W.out.map trsC).length = f.code.length := by rw [List.length_map, h2]
  have t1 : Int.toNat (n : Int) = n := by omega
  obtain ⟨l, hl⟩ : ∃ l, W.out[n]? = some l := ⟨W.out[n], List.getElem?_eq_getElem (by omega)⟩
  have g1 := getD_map insR hi ([] : List RV)
  have g2 := getD_map trsC hl ([] : List AV)
  have e1 : f.code.getD n ins0 = i := by simp [List.getD, hi]
  have e2 : W.out.getD n [] = l := by simp [List.getD, hl]
  rw [e2] at hl20
  have l4 : (l.map tryR).length = l.length := List.length_map ..
  have w1 : IntKind.i64.wrap ((n : Int) + 1) = (n : Int) + 1 := by rw [wrap_id] <;> omega
  obtain ⟨op, a, b, c, line⟩ := i
  dsimp only at hA hB
  have l5 : (l.map tryC).length = l.length := List.length_map ..
  have hl1000 : l.length ≤ 1000 := by omega
  by_cases o28 : op = 28
  · subst o28
    have hF : fromF f n W = W := by unfold fromF; simp only [t1, e1, e2]; simp
    rw [hF]
    refine FCmb_of [ct_come, ct_cloneTryP] [(3, 2)] Tryd.func44 rfl Tryd.ntmps44 (by simp) Tryd.results44 rfl (insW 2 f _) ?_
    apply Rn_st; (intro K0; simp only [go_sem]; exact ⟨id⟩)
    repeat' (first | (focus (intro K0; (try simp only [go_sem, *]); (first | exact ⟨id⟩ | (refine ⟨fun h => ?_⟩; (repeat' (first | exact h | refine And.intro ?_ ?_ | omega | rfl)); done)))) | (refine Rn_seq ?_) | (refine Rn_block ?_) | (apply Rn_region' lv44; (exact rfl)) | (refine Rn_region ?_) | (apply Rn_op'; (exact rfl)) | (refine Rn_o_nil ?_) | ((first | apply Rn_g | apply Rd_g); (exact rfl); (exact rfl); (focus (intro K0; (try simp only [lookT, ev, Nat.reduceEqDiff, ↓reduceIte]); exact ⟨id⟩))) | (with_reducible (first | apply RnG_yes | apply RdG_yes)) | ((with_reducible (first | apply RnG_t_no | apply RnG_f_no | apply RnG_un | apply RdG_t_no | apply RdG_f_no | apply RdG_un)); (exact rfl)) | ((first | apply RnG_never | apply RdG_never); (focus (intro K0; (try simp only [go_sem]); exact ⟨id⟩)); (exact rfl)) | ((first | apply RnG_lazy | apply RdG_lazy); (exact rfl); (focus (intro K0; (try simp only [go_sem]); exact ⟨id⟩)); (focus (first | (simp only [Nat.reduceLT]; done) | omega)); (focus (intro hw0; (try simp only [Bool.and_eq_true, Bool.not_eq_true', beq_true', beq_false'] at hw0); (focus (intro K0; (try simp only [go_sem, *]); (first | exact ⟨id⟩ | (refine ⟨fun h => ?_⟩; (repeat' (first | exact h | refine And.intro ?_ ?_ | omega | rfl)); done))))))) | (apply Rn_c; (focus (intro K0; (try simp only [lookT, ev, Nat.reduceEqDiff, ↓reduceIte]); exact ⟨id⟩))) | (with_reducible (first | refine RnC_t ?_ | refine RnC_f ?_)) | (refine Rn_skip ?_) | (refine Rn_exit rfl ?_) | (refine Rn_b ?_) | (apply Rn_draw' lv44; (exact rfl)) | (refine Rn_draw ?_) | (apply Rd_op'; (exact rfl)) | (refine Rd_nil (by kernel_rfl) ?_) | ((with_reducible (first | refine RnG_split (fun h => ?_) (fun h => ?_) | refine RdG_split (fun h => ?_) (fun h => ?_) | refine RnC_split (fun h => ?_) (fun h => ?_))) <;> (have h' := h) <;> (try simp only [decide_eq_true_eq, decide_eq_false_iff_not, Bool.not_eq_true', Bool.not_eq_false', Bool.and_eq_true, Bool.or_eq_true, Bool.or_eq_false_iff, beq_iff_eq, bne_iff_ne, ne_eq, Bool.not_true, Bool.not_false, not_false_eq_true, reduceCtorEq, beq_eq_false_iff_ne, bne_eq_false_iff_eq] at h') <;> (first | apply Rn_st | apply Rd_st)) | (refine Rn_out_ck rfl rfl ?_) | (first | refine Rn_ret_ck ?_ | refine Rn_ret ?_ | refine Rn_nil_then ?_) | (refine LoopN_step (T := [ct_come, ct_cloneTryP]) ?_) | (refine Rn_nil ?_))
    all_goals (try simp only [go_sem])
    all_goals (first | rfl | (repeat' (first | rfl | refine And.intro ?_ ?_)))
  have d28 : decide (op = 28) = false := by simpa using o28
  by_cases o29 : op = 29
  · subst o29
    have hF : fromF f n W = W := by unfold fromF; simp only [t1, e1, e2]; simp
    rw [hF]
    refine FCmb_of [ct_come, ct_cloneTryP] [(3, 2)] Tryd.func44 rfl Tryd.ntmps44 (by simp) Tryd.results44 rfl (insW 2 f _) ?_
    apply Rn_st; (intro K0; simp only [go_sem]; exact ⟨id⟩)
    repeat' (first | (focus (intro K0; (try simp only [go_sem, *]); (first | exact ⟨id⟩ | (refine ⟨fun h => ?_⟩; (repeat' (first | exact h | refine And.intro ?_ ?_ | omega | rfl)); done)))) | (refine Rn_seq ?_) | (refine Rn_block ?_) | (apply Rn_region' lv44; (exact rfl)) | (refine Rn_region ?_) | (apply Rn_op'; (exact rfl)) | (refine Rn_o_nil ?_) | ((first | apply Rn_g | apply Rd_g); (exact rfl); (exact rfl); (focus (intro K0; (try simp only [lookT, ev, Nat.reduceEqDiff, ↓reduceIte]); exact ⟨id⟩))) | (with_reducible (first | apply RnG_yes | apply RdG_yes)) | ((with_reducible (first | apply RnG_t_no | apply RnG_f_no | apply RnG_un | apply RdG_t_no | apply RdG_f_no | apply RdG_un)); (exact rfl)) | ((first | apply RnG_never | apply RdG_never); (focus (intro K0; (try simp only [go_sem]); exact ⟨id⟩)); (exact rfl)) | ((first | apply RnG_lazy | apply RdG_lazy); (exact rfl); (focus (intro K0; (try simp only [go_sem]); exact ⟨id⟩)); (focus (first | (simp only [Nat.reduceLT]; done) | omega)); (focus (intro hw0; (try simp only [Bool.and_eq_true, Bool.not_eq_true', beq_true', beq_false'] at hw0); (focus (intro K0; (try simp only [go_sem, *]); (first | exact ⟨id⟩ | (refine ⟨fun h => ?_⟩; (repeat' (first | exact h | refine And.intro ?_ ?_ | omega | rfl)); done))))))) | (apply Rn_c; (focus (intro K0; (try simp only [lookT, ev, Nat.reduceEqDiff, ↓reduceIte]); exact ⟨id⟩))) | (with_reducible (first | refine RnC_t ?_ | refine RnC_f ?_)) | (refine Rn_skip ?_) | (refine Rn_exit rfl ?_) | (refine Rn_b ?_) | (apply Rn_draw' lv44; (exact rfl)) | (refine Rn_draw ?_) | (apply Rd_op'; (exact rfl)) | (refine Rd_nil (by kernel_rfl) ?_) | ((with_reducible (first | refine RnG_split (fun h => ?_) (fun h => ?_) | refine RdG_split (fun h => ?_) (fun h => ?_) | refine RnC_split (fun h => ?_) (fun h => ?_))) <;> (have h' := h) <;> (try simp only [decide_eq_true_eq, decide_eq_false_iff_not, Bool.not_eq_true', Bool.not_eq_false', Bool.and_eq_true, Bool.or_eq_true, Bool.or_eq_false_iff, beq_iff_eq, bne_iff_ne, ne_eq, Bool.not_true, Bool.not_false, not_false_eq_true, reduceCtorEq, beq_eq_false_iff_ne, bne_eq_false_iff_eq] at h') <;> (first | apply Rn_st | apply Rd_st)) | (refine Rn_out_ck rfl rfl ?_) | (first | refine Rn_ret_ck ?_ | refine Rn_ret ?_ | refine Rn_nil_then ?_) | (refine LoopN_step (T := [ct_come, ct_cloneTryP]) ?_) | (refine Rn_nil ?_))
    all_goals (try simp only [go_sem])
    all_goals (first | rfl | (repeat' (first | rfl | refine And.intro ?_ ?_)))
  have d29 : decide (op = 29) = false := by simpa using o29
  by_cases o13 : op = 13
  · subst o13
    have hF : fromF f n W = comeF f a l W := by unfold fromF; simp only [t1, e1, e2]; simp
    rw [hF]
    have ha : 0 ≤ a := hA (by simp)
    refine FCmb_of [ct_come, ct_cloneTryP] [(3, 2)] Tryd.func44 rfl Tryd.ntmps44 (by simp) Tryd.results44 rfl (insW 2 f _) ?_
    apply Rn_st; (intro K0; simp only [go_sem]; exact ⟨id⟩)
    repeat' (first | (focus (intro K0; (try simp only [go_sem, *]); (first | exact ⟨id⟩ | (refine ⟨fun h => ?_⟩; (repeat' (first | exact h | refine And.intro ?_ ?_ | omega | rfl)); done)))) | (refine Rn_seq ?_) | (refine Rn_block ?_) | (apply Rn_region' lv44; (exact rfl)) | (refine Rn_region ?_) | (apply Rn_op'; (exact rfl)) | (refine Rn_o_nil ?_) | ((first | apply Rn_g | apply Rd_g); (exact rfl); (exact rfl); (focus (intro K0; (try simp only [lookT, ev, Nat.reduceEqDiff, ↓reduceIte]); exact ⟨id⟩))) | (with_reducible (first | apply RnG_yes | apply RdG_yes)) | ((with_reducible (first | apply RnG_t_no | apply RnG_f_no | apply RnG_un | apply RdG_t_no | apply RdG_f_no | apply RdG_un)); (exact rfl)) | ((first | apply RnG_never | apply RdG_never); (focus (intro K0; (try simp only [go_sem]); exact ⟨id⟩)); (exact rfl)) | ((first | apply RnG_lazy | apply RdG_lazy); (exact rfl); (focus (intro K0; (try simp only [go_sem]); exact ⟨id⟩)); (focus (first | (simp only [Nat.reduceLT]; done) | omega)); (focus (intro hw0; (try simp only [Bool.and_eq_true, Bool.not_eq_true', beq_true', beq_false'] at hw0); (focus (intro K0; (try simp only [go_sem, *]); (first | exact ⟨id⟩ | (refine ⟨fun h => ?_⟩; (repeat' (first | exact h | refine And.intro ?_ ?_ | omega | rfl)); done))))))) | (apply Rn_c; (focus (intro K0; (try simp only [lookT, ev, Nat.reduceEqDiff, ↓reduceIte]); exact ⟨id⟩))) | (with_reducible (first | refine RnC_t ?_ | refine RnC_f ?_)) | (refine Rn_skip ?_) | (refine Rn_exit rfl ?_) | (refine Rn_b ?_) | (apply Rn_draw' lv44; (exact rfl)) | (refine Rn_draw ?_) | (apply Rd_op'; (exact rfl)) | (refine Rd_nil (by kernel_rfl) ?_) | ((with_reducible (first | refine RnG_split (fun h => ?_) (fun h => ?_) | refine RdG_split (fun h => ?_) (fun h => ?_) | refine RnC_split (fun h => ?_) (fun h => ?_))) <;> (have h' := h) <;> (try simp only [decide_eq_true_eq, decide_eq_false_iff_not, Bool.not_eq_true', Bool.not_eq_false', Bool.and_eq_true, Bool.or_eq_true, Bool.or_eq_false_iff, beq_iff_eq, bne_iff_ne, ne_eq, Bool.not_true, Bool.not_false, not_false_eq_true, reduceCtorEq, beq_eq_false_iff_ne, bne_eq_false_iff_eq] at h') <;> (first | apply Rn_st | apply Rd_st)) | (refine Rn_out_ck rfl rfl ?_) | (first | refine Rn_ret_ck ?_ | refine Rn_ret ?_ | refine Rn_nil_then ?_) | (refine LoopN_step (T := [ct_come, ct_cloneTryP]) ?_) | (refine Rn_nil ?_))
    all_goals (try simp only [go_sem])
    all_goals (first | rfl | (repeat' (first | rfl | refine And.intro ?_ ?_)))
  have d13 : decide (op = 13) = false := by simpa using o13
  by_cases o14 : op = 14
  · subst o14
    have hF : fromF f n W = comeF f a l W := by unfold fromF; simp only [t1, e1, e2]; simp
    rw [hF]
    have ha : 0 ≤ a := hA (by simp)
    refine FCmb_of [ct_come, ct_cloneTryP] [(3, 2)] Tryd.func44 rfl Tryd.ntmps44 (by simp) Tryd.results44 rfl (insW 2 f _) ?_
    apply Rn_st; (intro K0; simp only [go_sem]; exact ⟨id⟩)
    repeat' (first | (focus (intro K0; (try simp only [go_sem, *]); (first | exact ⟨id⟩ | (refine ⟨fun h => ?_⟩; (repeat' (first | exact h | refine And.intro ?_ ?_ | omega | rfl)); done)))) | (refine Rn_seq ?_) | (refine Rn_block ?_) | (apply Rn_region' lv44; (exact rfl)) | (refine Rn_region ?_) | (apply Rn_op'; (exact rfl)) | (refine Rn_o_nil ?_) | ((first | apply Rn_g | apply Rd_g); (exact rfl); (exact rfl); (focus (intro K0; (try simp only [lookT, ev, Nat.reduceEqDiff, ↓reduceIte]); exact ⟨id⟩))) | (with_reducible (first | apply RnG_yes | apply RdG_yes)) | ((with_reducible (first | apply RnG_t_no | apply RnG_f_no | apply RnG_un | apply RdG_t_no | apply RdG_f_no | apply RdG_un)); (exact rfl)) | ((first | apply RnG_never | apply RdG_never); (focus (intro K0; (try simp only [go_sem]); exact ⟨id⟩)); (exact rfl)) | ((first | apply RnG_lazy | apply RdG_lazy); (exact rfl); (focus (intro K0; (try simp only [go_sem]); exact ⟨id⟩)); (focus (first | (simp only [Nat.reduceLT]; done) | omega)); (focus (intro hw0; (try simp only [Bool.and_eq_true, Bool.not_eq_true', beq_true', beq_false'] at hw0); (focus (intro K0; (try simp only [go_sem, *]); (first | exact ⟨id⟩ | (refine ⟨fun h => ?_⟩; (repeat' (first | exact h | refine And.intro ?_ ?_ | omega | rfl)); done))))))) | (apply Rn_c; (focus (intro K0; (try simp only [lookT, ev, Nat.reduceEqDiff, ↓reduceIte]); exact ⟨id⟩))) | (with_reducible (first | refine RnC_t ?_ | refine RnC_f ?_)) | (refine Rn_skip ?_) | (refine Rn_exit rfl ?_) | (refine Rn_b ?_) | (apply Rn_draw' lv44; (exact rfl)) | (refine Rn_draw ?_) | (apply Rd_op'; (exact rfl)) | (refine Rd_nil (by kernel_rfl) ?_) | ((with_reducible (first | refine RnG_split (fun h => ?_) (fun h => ?_) | refine RdG_split (fun h => ?_) (fun h => ?_) | refine RnC_split (fun h => ?_) (fun h => ?_))) <;> (have h' := h) <;> (try simp only [decide_eq_true_eq, decide_eq_false_iff_not, Bool.not_eq_true', Bool.not_eq_false', Bool.and_eq_true, Bool.or_eq_true, Bool.or_eq_false_iff, beq_iff_eq, bne_iff_ne, ne_eq, Bool.not_true, Bool.not_false, not_false_eq_true, reduceCtorEq, beq_eq_false_iff_ne, bne_eq_false_iff_eq] at h') <;> (first | apply Rn_st | apply Rd_st)) | (refine Rn_out_ck rfl rfl ?_) | (first | refine Rn_ret_ck ?_ | refine Rn_ret ?_ | refine Rn_nil_then ?_) | (refine LoopN_step (T := [ct_come, ct_cloneTryP]) ?_) | (refine Rn_nil ?_))
    all_goals (try simp only [go_sem])
    all_goals (first | rfl | (repeat' (first | rfl | refine And.intro ?_ ?_)))
  have d14 : decide (op = 14) = false := by simpa using o14
  by_cases o15 : op = 15
  · subst o15
    have hF : fromF f n W = comeF f (n + 1) l (comeF f b l W) := by unfold fromF; simp only [t1, e1, e2]; simp
    rw [hF]
    have hb : 0 ≤ b := hB (by simp)
    have hw2 : Wok f (comeF f b l W) := come_ok hw (by omega)
    refine FCmb_of [ct_come, ct_cloneTryP] [(3, 2)] Tryd.func44 rfl Tryd.ntmps44 (by simp) Tryd.results44 rfl (insW 2 f _) ?_
    apply Rn_st; (intro K0; simp only [go_sem]; exact ⟨id⟩)
    repeat' (first | (focus (intro K0; (try simp only [go_sem, *]); (first | exact ⟨id⟩ | (refine ⟨fun h => ?_⟩; (repeat' (first | exact h | refine And.intro ?_ ?_ | omega | rfl)); done)))) | (refine Rn_seq ?_) | (refine Rn_block ?_) | (apply Rn_region' lv44; (exact rfl)) | (refine Rn_region ?_) | (apply Rn_op'; (exact rfl)) | (refine Rn_o_nil ?_) | ((first | apply Rn_g | apply Rd_g); (exact rfl); (exact rfl); (focus (intro K0; (try simp only [lookT, ev, Nat.reduceEqDiff, ↓reduceIte]); exact ⟨id⟩))) | (with_reducible (first | apply RnG_yes | apply RdG_yes)) | ((with_reducible (first | apply RnG_t_no | apply RnG_f_no | apply RnG_un | apply RdG_t_no | apply RdG_f_no | apply RdG_un)); (exact rfl)) | ((first | apply RnG_never | apply RdG_never); (focus (intro K0; (try simp only [go_sem]); exact ⟨id⟩)); (exact rfl)) | ((first | apply RnG_lazy | apply RdG_lazy); (exact rfl); (focus (intro K0; (try simp only [go_sem]); exact ⟨id⟩)); (focus (first | (simp only [Nat.reduceLT]; done) | omega)); (focus (intro hw0; (try simp only [Bool.and_eq_true, Bool.not_eq_true', beq_true', beq_false'] at hw0); (focus (intro K0; (try simp only [go_sem, *]); (first | exact ⟨id⟩ | (refine ⟨fun h => ?_⟩; (repeat' (first | exact h | refine And.intro ?_ ?_ | omega | rfl)); done))))))) | (apply Rn_c; (focus (intro K0; (try simp only [lookT, ev, Nat.reduceEqDiff, ↓reduceIte]); exact ⟨id⟩))) | (with_reducible (first | refine RnC_t ?_ | refine RnC_f ?_)) | (refine Rn_skip ?_) | (refine Rn_exit rfl ?_) | (refine Rn_b ?_) | (apply Rn_draw' lv44; (exact rfl)) | (refine Rn_draw ?_) | (apply Rd_op'; (exact rfl)) | (refine Rd_nil (by kernel_rfl) ?_) | ((with_reducible (first | refine RnG_split (fun h => ?_) (fun h => ?_) | refine RdG_split (fun h => ?_) (fun h => ?_) | refine RnC_split (fun h => ?_) (fun h => ?_))) <;> (have h' := h) <;> (try simp only [decide_eq_true_eq, decide_eq_false_iff_not, Bool.not_eq_true', Bool.not_eq_false', Bool.and_eq_true, Bool.or_eq_true, Bool.or_eq_false_iff, beq_iff_eq, bne_iff_ne, ne_eq, Bool.not_true, Bool.not_false, not_false_eq_true, reduceCtorEq, beq_eq_false_iff_ne, bne_eq_false_iff_eq] at h') <;> (first | apply Rn_st | apply Rd_st)) | (refine Rn_out_ck rfl rfl ?_) | (first | refine Rn_ret_ck ?_ | refine Rn_ret ?_ | refine Rn_nil_then ?_) | (refine LoopN_step (T := [ct_come, ct_cloneTryP]) ?_) | (refine Rn_nil ?_))
    all_goals (try simp only [go_sem])
    all_goals (first | rfl | (repeat' (first | rfl | refine And.intro ?_ ?_)))
  have d15 : decide (op = 15) = false := by simpa using o15
  by_cases o30 : op = 30
  · subst o30
    have hF : fromF f n W = comeF f (n + 1) (l ++ [(a, b)]) (comeF f b l W) := by unfold fromF; simp only [t1, e1, e2]; simp
    rw [hF]
    have hb : 0 ≤ b := hB (by simp)
    have hw2 : Wok f (comeF f b l W) := come_ok hw (by omega)
    have hm : (l.map tryC) ++ [[Iv a, Iv b]] = (l ++ [(a, b)]).map tryC := by simp
    have l6 : ((l ++ [(a, b)]).map tryR).length = l.length + 1 := by simp
    refine FCmb_of [ct_come, ct_cloneTryP] [(3, 2)] Tryd.func44 rfl Tryd.ntmps44 (by simp) Tryd.results44 rfl (insW 2 f _) ?_
    apply Rn_st; (intro K0; simp only [go_sem]; exact ⟨id⟩)
    repeat' (first | (focus (intro K0; (try simp only [go_sem, *]); (first | exact ⟨id⟩ | (refine ⟨fun h => ?_⟩; (repeat' (first | exact h | refine And.intro ?_ ?_ | omega | rfl)); done)))) | (refine Rn_seq ?_) | (refine Rn_block ?_) | (apply Rn_region' [(0, [0, 1]), (1, [0, 1, 4, 5]), (2, [0, 1, 4, 5, 22]), (3, [0, 1, 4, 5, 22]), (4, [0, 1, 4, 5, 22]), (5, [0, 1, 4, 5, 22]), (6, [0, 4, 5]), (7, [0, 1, 4, 5, 22]), (8, [0, 1, 4, 5]), (9, [0, 1, 4, 5, 22]), (10, [0, 1, 4, 5]), (11, [0, 1, 4, 5]), (12, [0, 1, 5, 22]), (13, [0, 1, 5]), (14, [0]), (15, [0, 1, 5])]; (exact rfl)) | (apply Rn_op'; (exact rfl)) | (refine Rn_o_nil ?_) | ((first | apply Rn_g | apply Rd_g); (exact rfl); (exact rfl); (focus (intro K0; (try simp only [lookT, ev, Nat.reduceEqDiff, ↓reduceIte]); exact ⟨id⟩))) | (with_reducible (first | apply RnG_yes | apply RdG_yes)) | ((with_reducible (first | apply RnG_t_no | apply RnG_f_no | apply RnG_un | apply RdG_t_no | apply RdG_f_no | apply RdG_un)); (exact rfl)) | ((first | apply RnG_never | apply RdG_never); (focus (intro K0; (try simp only [go_sem]); exact ⟨id⟩)); (exact rfl)) | ((first | apply RnG_lazy | apply RdG_lazy); (exact rfl); (focus (intro K0; (try simp only [go_sem]); exact ⟨id⟩)); (focus (first | (simp only [Nat.reduceLT]; done) | omega)); (focus (intro hw0; (try simp only [Bool.and_eq_true, Bool.not_eq_true', beq_true', beq_false'] at hw0); (focus (intro K0; (try simp only [go_sem, *]); (first | exact ⟨id⟩ | (refine ⟨fun h => ?_⟩; (repeat' (first | exact h | refine And.intro ?_ ?_ | omega | rfl)); done))))))) | (apply Rn_c; (focus (intro K0; (try simp only [lookT, ev, Nat.reduceEqDiff, ↓reduceIte]); exact ⟨id⟩))) | (with_reducible (first | refine RnC_t ?_ | refine RnC_f ?_)) | (refine Rn_skip ?_) | (refine Rn_exit rfl ?_) | (refine Rn_b ?_) | (apply Rn_draw' [(0, [0, 1]), (1, [0, 1, 4, 5]), (2, [0, 1, 4, 5, 22]), (3, [0, 1, 4, 5, 22]), (4, [0, 1, 4, 5, 22]), (5, [0, 1, 4, 5, 22]), (6, [0, 4, 5]), (7, [0, 1, 4, 5, 22]), (8, [0, 1, 4, 5]), (9, [0, 1, 4, 5, 22]), (10, [0, 1, 4, 5]), (11, [0, 1, 4, 5]), (12, [0, 1, 5, 22]), (13, [0, 1, 5]), (14, [0]), (15, [0, 1, 5])]; (exact rfl)) | (refine Rn_draw ?_) | (apply Rd_op'; (exact rfl)) | (refine Rd_nil (by kernel_rfl) ?_) | ((with_reducible (first | refine RnG_split (fun h => ?_) (fun h => ?_) | refine RdG_split (fun h => ?_) (fun h => ?_) | refine RnC_split (fun h => ?_) (fun h => ?_))) <;> (have h' := h) <;> (try simp only [decide_eq_true_eq, decide_eq_false_iff_not, Bool.not_eq_true', Bool.not_eq_false', Bool.and_eq_true, Bool.or_eq_true, Bool.or_eq_false_iff, beq_iff_eq, bne_iff_ne, ne_eq, Bool.not_true, Bool.not_false, not_false_eq_true, reduceCtorEq, beq_eq_false_iff_ne, bne_eq_false_iff_eq] at h') <;> (first | apply Rn_st | apply Rd_st)) | (refine Rn_out_ck rfl rfl ?_) | (first | refine Rn_ret_ck ?_ | refine Rn_ret ?_ | refine Rn_nil_then ?_) | (refine LoopN_step (T := [ct_come, ct_cloneTryP]) ?_) | (refine Rn_nil ?_))
    (apply Rn_frzS 49 ((l ++ [(a, b)]).map tryR); (exact rfl); (exact (roTryC _).symm); (exact rfl); (intro K0; (try simp only [go_sem]); exact ⟨id⟩))
    repeat' (first | (focus (intro K0; (try simp only [go_sem, *]); (first | exact ⟨id⟩ | (refine ⟨fun h => ?_⟩; (repeat' (first | exact h | refine And.intro ?_ ?_ | omega | rfl)); done)))) | (refine Rn_seq ?_) | (refine Rn_block ?_) | (apply Rn_region' lv44; (exact rfl)) | (refine Rn_region ?_) | (apply Rn_op'; (exact rfl)) | (refine Rn_o_nil ?_) | ((first | apply Rn_g | apply Rd_g); (exact rfl); (exact rfl); (focus (intro K0; (try simp only [lookT, ev, Nat.reduceEqDiff, ↓reduceIte]); exact ⟨id⟩))) | (with_reducible (first | apply RnG_yes | apply RdG_yes)) | ((with_reducible (first | apply RnG_t_no | apply RnG_f_no | apply RnG_un | apply RdG_t_no | apply RdG_f_no | apply RdG_un)); (exact rfl)) | ((first | apply RnG_never | apply RdG_never); (focus (intro K0; (try simp only [go_sem]); exact ⟨id⟩)); (exact rfl)) | ((first | apply RnG_lazy | apply RdG_lazy); (exact rfl); (focus (intro K0; (try simp only [go_sem]); exact ⟨id⟩)); (focus (first | (simp only [Nat.reduceLT]; done) | omega)); (focus (intro hw0; (try simp only [Bool.and_eq_true, Bool.not_eq_true', beq_true', beq_false'] at hw0); (focus (intro K0; (try simp only [go_sem, *]); (first | exact ⟨id⟩ | (refine ⟨fun h => ?_⟩; (repeat' (first | exact h | refine And.intro ?_ ?_ | omega | rfl)); done))))))) | (apply Rn_c; (focus (intro K0; (try simp only [lookT, ev, Nat.reduceEqDiff, ↓reduceIte]); exact ⟨id⟩))) | (with_reducible (first | refine RnC_t ?_ | refine RnC_f ?_)) | (refine Rn_skip ?_) | (refine Rn_exit rfl ?_) | (refine Rn_b ?_) | (apply Rn_draw' lv44; (exact rfl)) | (refine Rn_draw ?_) | (apply Rd_op'; (exact rfl)) | (refine Rd_nil (by kernel_rfl) ?_) | ((with_reducible (first | refine RnG_split (fun h => ?_) (fun h => ?_) | refine RdG_split (fun h => ?_) (fun h => ?_) | refine RnC_split (fun h => ?_) (fun h => ?_))) <;> (have h' := h) <;> (try simp only [decide_eq_true_eq, decide_eq_false_iff_not, Bool.not_eq_true', Bool.not_eq_false', Bool.and_eq_true, Bool.or_eq_true, Bool.or_eq_false_iff, beq_iff_eq, bne_iff_ne, ne_eq, Bool.not_true, Bool.not_false, not_false_eq_true, reduceCtorEq, beq_eq_false_iff_ne, bne_eq_false_iff_eq] at h') <;> (first | apply Rn_st | apply Rd_st)) | (refine Rn_out_ck rfl rfl ?_) | (first | refine Rn_ret_ck ?_ | refine Rn_ret ?_ | refine Rn_nil_then ?_) | (refine LoopN_step (T := [ct_come, ct_cloneTryP]) ?_) | (refine Rn_nil ?_))
    all_goals (try simp only [go_sem])
    all_goals (first | rfl | (repeat' (first | rfl | refine And.intro ?_ ?_)))
  have d30 : decide (op = 30) = false := by simpa using o30
  by_cases o31 : op = 31
  · subst o31
    by_cases hl0 : l = []
    · have hF : fromF f n W = { W with bad := true } := by unfold fromF; simp only [t1, e1, e2]; simp [hl0]
      rw [hF]
      subst hl0
      refine FCmb_of [ct_come, ct_cloneTryP] [(3, 2)] Tryd.func44 rfl Tryd.ntmps44 (by simp) Tryd.results44 rfl (insW 2 f _) ?_
      apply Rn_st; (intro K0; simp only [go_sem]; exact ⟨id⟩)
      repeat' (first | (focus (intro K0; (try simp only [go_sem, *]); (first | exact ⟨id⟩ | (refine ⟨fun h => ?_⟩; (repeat' (first | exact h | refine And.intro ?_ ?_ | omega | rfl)); done)))) | (refine Rn_seq ?_) | (refine Rn_block ?_) | (apply Rn_region' lv44; (exact rfl)) | (refine Rn_region ?_) | (apply Rn_op'; (exact rfl)) | (refine Rn_o_nil ?_) | ((first | apply Rn_g | apply Rd_g); (exact rfl); (exact rfl); (focus (intro K0; (try simp only [lookT, ev, Nat.reduceEqDiff, ↓reduceIte]); exact ⟨id⟩))) | (with_reducible (first | apply RnG_yes | apply RdG_yes)) | ((with_reducible (first | apply RnG_t_no | apply RnG_f_no | apply RnG_un | apply RdG_t_no | apply RdG_f_no | apply RdG_un)); (exact rfl)) | ((first | apply RnG_never | apply RdG_never); (focus (intro K0; (try simp only [go_sem]); exact ⟨id⟩)); (exact rfl)) | ((first | apply RnG_lazy | apply RdG_lazy); (exact rfl); (focus (intro K0; (try simp only [go_sem]); exact ⟨id⟩)); (focus (first | (simp only [Nat.reduceLT]; done) | omega)); (focus (intro hw0; (try simp only [Bool.and_eq_true, Bool.not_eq_true', beq_true', beq_false'] at hw0); (focus (intro K0; (try simp only [go_sem, *]); (first | exact ⟨id⟩ | (refine ⟨fun h => ?_⟩; (repeat' (first | exact h | refine And.intro ?_ ?_ | omega | rfl)); done))))))) | (apply Rn_c; (focus (intro K0; (try simp only [lookT, ev, Nat.reduceEqDiff, ↓reduceIte]); exact ⟨id⟩))) | (with_reducible (first | refine RnC_t ?_ | refine RnC_f ?_)) | (refine Rn_skip ?_) | (refine Rn_exit rfl ?_) | (refine Rn_b ?_) | (apply Rn_draw' lv44; (exact rfl)) | (refine Rn_draw ?_) | (apply Rd_op'; (exact rfl)) | (refine Rd_nil (by kernel_rfl) ?_) | ((with_reducible (first | refine RnG_split (fun h => ?_) (fun h => ?_) | refine RdG_split (fun h => ?_) (fun h => ?_) | refine RnC_split (fun h => ?_) (fun h => ?_))) <;> (have h' := h) <;> (try simp only [decide_eq_true_eq, decide_eq_false_iff_not, Bool.not_eq_true', Bool.not_eq_false', Bool.and_eq_true, Bool.or_eq_true, Bool.or_eq_false_iff, beq_iff_eq, bne_iff_ne, ne_eq, Bool.not_true, Bool.not_false, not_false_eq_true, reduceCtorEq, beq_eq_false_iff_ne, bne_eq_false_iff_eq] at h') <;> (first | apply Rn_st | apply Rd_st)) | (refine Rn_out_ck rfl rfl ?_) | (first | refine Rn_ret_ck ?_ | refine Rn_ret ?_ | refine Rn_nil_then ?_) | (refine LoopN_step (T := [ct_come, ct_cloneTryP]) ?_) | (refine Rn_nil ?_))
      all_goals (try simp only [go_sem])
      all_goals (first | rfl | (repeat' (first | rfl | refine And.intro ?_ ?_)))
    · have hF : fromF f n W = comeF f (n + 1) (l.take (l.length - 1)) W := by unfold fromF; simp only [t1, e1, e2]; simp [hl0]
      rw [hF]
      have hl1 : 0 < l.length := List.length_pos_iff.2 hl0
      have d0 : decide ((l.length : Int) = 0) = false := by rw [decide_eq_false_iff_not]; omega
      have w2 : IntKind.i64.wrap ((l.length : Int) - 1) = ((l.length - 1 : Nat) : Int) := by rw [wrap_id] <;> omega
      have t2 : Int.toNat ((l.length - 1 : Nat) : Int) = l.length - 1 := by omega
      have k1 : List.drop 0 (List.take (l.length - 1) (l.map tryR)) = (l.take (l.length - 1)).map tryR := by rw [List.map_take]; rfl
      have l7 : ((l.take (l.length - 1)).map tryR).length = l.length - 1 := by simp
      refine FCmb_of [ct_come, ct_cloneTryP] [(3, 2)] Tryd.func44 rfl Tryd.ntmps44 (by simp) Tryd.results44 rfl (insW 2 f _) ?_
      apply Rn_st; (intro K0; simp only [go_sem]; exact ⟨id⟩)
      repeat' (first | (focus (intro K0; (try simp only [go_sem, *]); (first | exact ⟨id⟩ | (refine ⟨fun h => ?_⟩; (repeat' (first | exact h | refine And.intro ?_ ?_ | omega | rfl)); done)))) | (refine Rn_seq ?_) | (refine Rn_block ?_) | (apply Rn_region' lv44; (exact rfl)) | (refine Rn_region ?_) | (apply Rn_op'; (exact rfl)) | (refine Rn_o_nil ?_) | ((first | apply Rn_g | apply Rd_g); (exact rfl); (exact rfl); (focus (intro K0; (try simp only [lookT, ev, Nat.reduceEqDiff, ↓reduceIte]); exact ⟨id⟩))) | (with_reducible (first | apply RnG_yes | apply RdG_yes)) | ((with_reducible (first | apply RnG_t_no | apply RnG_f_no | apply RnG_un | apply RdG_t_no | apply RdG_f_no | apply RdG_un)); (exact rfl)) | ((first | apply RnG_never | apply RdG_never); (focus (intro K0; (try simp only [go_sem]); exact ⟨id⟩)); (exact rfl)) | ((first | apply RnG_lazy | apply RdG_lazy); (exact rfl); (focus (intro K0; (try simp only [go_sem]); exact ⟨id⟩)); (focus (first | (simp only [Nat.reduceLT]; done) | omega)); (focus (intro hw0; (try simp only [Bool.and_eq_true, Bool.not_eq_true', beq_true', beq_false'] at hw0); (focus (intro K0; (try simp only [go_sem, *]); (first | exact ⟨id⟩ | (refine ⟨fun h => ?_⟩; (repeat' (first | exact h | refine And.intro ?_ ?_ | omega | rfl)); done))))))) | (apply Rn_c; (focus (intro K0; (try simp only [lookT, ev, Nat.reduceEqDiff, ↓reduceIte]); exact ⟨id⟩))) | (with_reducible (first | refine RnC_t ?_ | refine RnC_f ?_)) | (refine Rn_skip ?_) | (refine Rn_exit rfl ?_) | (refine Rn_b ?_) | (apply Rn_draw' lv44; (exact rfl)) | (refine Rn_draw ?_) | (apply Rd_op'; (exact rfl)) | (refine Rd_nil (by kernel_rfl) ?_) | ((with_reducible (first | refine RnG_split (fun h => ?_) (fun h => ?_) | refine RdG_split (fun h => ?_) (fun h => ?_) | refine RnC_split (fun h => ?_) (fun h => ?_))) <;> (have h' := h) <;> (try simp only [decide_eq_true_eq, decide_eq_false_iff_not, Bool.not_eq_true', Bool.not_eq_false', Bool.and_eq_true, Bool.or_eq_true, Bool.or_eq_false_iff, beq_iff_eq, bne_iff_ne, ne_eq, Bool.not_true, Bool.not_false, not_false_eq_true, reduceCtorEq, beq_eq_false_iff_ne, bne_eq_false_iff_eq] at h') <;> (first | apply Rn_st | apply Rd_st)) | (refine Rn_out_ck rfl rfl ?_) | (first | refine Rn_ret_ck ?_ | refine Rn_ret ?_ | refine Rn_nil_then ?_) | (refine LoopN_step (T := [ct_come, ct_cloneTryP]) ?_) | (refine Rn_nil ?_))
      all_goals (try simp only [go_sem])
      all_goals (first | rfl | (repeat' (first | rfl | refine And.intro ?_ ?_)))
  have d31 : decide (op = 31) = false := by simpa using o31
  have hF : fromF f n W = comeF f (n + 1) l W := by unfold fromF; simp only [t1, e1, e2]; simp [o13, o14, o15, o28, o29, o30, o31]
  rw [hF]
  refine FCmb_of [ct_come, ct_cloneTryP] [(3, 2)] Tryd.func44 rfl Tryd.ntmps44 (by simp) Tryd.results44 rfl (insW 2 f _) ?_
  apply Rn_st; (intro K0; simp only [go_sem]; exact ⟨id⟩)
  repeat' (first | (focus (intro K0; (try simp only [go_sem, *]); (first | exact ⟨id⟩ | (refine ⟨fun h => ?_⟩; (repeat' (first | exact h | refine And.intro ?_ ?_ | omega | rfl)); done)))) | (refine Rn_seq ?_) | (refine Rn_block ?_) | (apply Rn_region' lv44; (exact rfl)) | (refine Rn_region ?_) | (apply Rn_op'; (exact rfl)) | (refine Rn_o_nil ?_) | ((first | apply Rn_g | apply Rd_g); (exact rfl); (exact rfl); (focus (intro K0; (try simp only [lookT, ev, Nat.reduceEqDiff, ↓reduceIte]); exact ⟨id⟩))) | (with_reducible (first | apply RnG_yes | apply RdG_yes)) | ((with_reducible (first | apply RnG_t_no | apply RnG_f_no | apply RnG_un | apply RdG_t_no | apply RdG_f_no | apply RdG_un)); (exact rfl)) | ((first | apply RnG_never | apply RdG_never); (focus (intro K0; (try simp only [go_sem]); exact ⟨id⟩)); (exact rfl)) | ((first | apply RnG_lazy | apply RdG_lazy); (exact rfl); (focus (intro K0; (try simp only [go_sem]); exact ⟨id⟩)); (focus (first | (simp only [Nat.reduceLT]; done) | omega)); (focus (intro hw0; (try simp only [Bool.and_eq_true, Bool.not_eq_true', beq_true', beq_false'] at hw0); (focus (intro K0; (try simp only [go_sem, *]); (first | exact ⟨id⟩ | (refine ⟨fun h => ?_⟩; (repeat' (first | exact h | refine And.intro ?_ ?_ | omega | rfl)); done))))))) | (apply Rn_c; (focus (intro K0; (try simp only [lookT, ev, Nat.reduceEqDiff, ↓reduceIte]); exact ⟨id⟩))) | (with_reducible (first | refine RnC_t ?_ | refine RnC_f ?_)) | (refine Rn_skip ?_) | (refine Rn_exit rfl ?_) | (refine Rn_b ?_) | (apply Rn_draw' lv44; (exact rfl)) | (refine Rn_draw ?_) | (apply Rd_op'; (exact rfl)) | (refine Rd_nil (by kernel_rfl) ?_) | ((with_reducible (first | refine RnG_split (fun h => ?_) (fun h => ?_) | refine RdG_split (fun h => ?_) (fun h => ?_) | refine RnC_split (fun h => ?_) (fun h => ?_))) <;> (have h' := h) <;> (try simp only [decide_eq_true_eq, decide_eq_false_iff_not, Bool.not_eq_true', Bool.not_eq_false', Bool.and_eq_true, Bool.or_eq_true, Bool.or_eq_false_iff, beq_iff_eq, bne_iff_ne, ne_eq, Bool.not_true, Bool.not_false, not_false_eq_true, reduceCtorEq, beq_eq_false_iff_ne, bne_eq_false_iff_eq] at h') <;> (first | apply Rn_st | apply Rd_st)) | (refine Rn_out_ck rfl rfl ?_) | (first | refine Rn_ret_ck ?_ | refine Rn_ret ?_ | refine Rn_nil_then ?_) | (refine LoopN_step (T := [ct_come, ct_cloneTryP]) ?_) | (refine Rn_nil ?_))
  all_goals (try simp only [go_sem])
  all_goals (first | rfl | (repeat' (first | rfl | refine And.intro ?_ ?_)))

end Go.Proofs.YtbhnmolmkembdaaDoor
