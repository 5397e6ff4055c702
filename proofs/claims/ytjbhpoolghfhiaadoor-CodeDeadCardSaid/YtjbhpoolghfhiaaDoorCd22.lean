/- CodeDead, run. No condition: the contract of the law's function. -/
import Derived.Test.YtjbhpoolghfhiaaDoorCd21
namespace Go.Proofs.YtjbhpoolghfhiaaDoor
set_option linter.unusedVariables false
set_option linter.unusedSimpArgs false
set_option maxHeartbeats 10000000
open Go
set_option maxRecDepth 10000



/-- How calls of this function are met. -/
def sp_codeLives (args : List AV) (K : AV → Prop) : Prop := match args with
  | [] => K (Bv true)
  | _ => False
theorem sp_codeLives_ok (args : List AV) (K : AV → Prop) (h : sp_codeLives args K) : ∃ r, CallOk Cx 19 args r ∧ K r := by
  unfold sp_codeLives at h
  split at h
  · exact ⟨_, CallOk_of (codeLives_c) en19 rfl rfl, h⟩
  · exact h.elim
noncomputable def ct_codeLives : Ct Cx := .pure 19 sp_codeLives sp_codeLives_ok
@[go_sem] theorem ct_codeLives_g : ct_codeLives.g = 19 := rfl
@[go_sem] theorem ct_codeLives_run (c : Call) (fop : Operand) (caps : List RV) (o : Oper) (st : St) (K : List Loc → List (Loc × Cont) → Prop) : ct_codeLives.run c fop caps o st K = callT Cx sp_codeLives c fop caps o st K := rfl
@[go_sem] theorem sp_codeLives_eq (args : List AV) (K : AV → Prop) : sp_codeLives args K = (match args with
    | [] => K (Bv true)
    | _ => False) := rfl
abbrev fnC (f : FnT) : List AV := [Iv f.params, Iv f.regs, Bv f.gen, intsV f.caught, inssV f.code]
abbrev insC (i : InsT) : List AV := [Iv i.op, Iv i.a, Iv i.b, Iv i.c, Iv i.line]
theorem flatFnC (l : List FnT) : ∀ row ∈ l.map fnC, withinL none0 row = true := fun row h => by
  obtain ⟨x, _, rfl⟩ := List.mem_map.1 h; rfl
@[go_sem] theorem okFnC : ∀ l : List FnT, okRows (l.map fnC) = true
  | [] => rfl
  | x :: l => okFnC l
@[go_sem] theorem roFnC (l : List FnT) : ((l.map fnR).map fun r => r.map AV.r) = l.map fnC := by rw [List.map_map]; rfl
theorem cloneFnP_rows (xs : List (List RV)) : ∀ row ∈ (fnsOf xs).map fnC, withinL none0 row = true := flatFnC _
theorem cloneFnP_c (xs : List (List RV)) (h : xs = (fnsOf xs).map fnR ∧ xs.length ≤ 1000000000) : FC Cx 22 [.r (.rs 5 xs)] [] (.os 0 1) [(0, 1, .sl 47 5 ((fnsOf xs).map fnC))] := by
  have hl : (fnsOf xs).length = xs.length := by simp [fnsOf]
  have hlenS : ∀ l : List FnT, (l.map fnC).length = l.length := fun l => List.length_map ..
  obtain ⟨h1, h2⟩ := h
  generalize fnsOf xs = l at h1 hl
  subst h1
  rw [← hl] at h2
  refine FCo_of [] (i := 0) [.os 0 1] Tryd.func22 rfl Tryd.ntmps22 (by simp) Tryd.results22 (flatFnC _) ?_
  apply Rn_st; (intro K0; simp only [go_sem]; exact ⟨id⟩)
  iterate 8 (any_goals (first | (focus (intro K0; (try simp only [go_sem, *]); (first | exact ⟨id⟩ | (refine ⟨fun h => ?_⟩; (repeat' (first | exact h | refine And.intro ?_ ?_ | omega | rfl)); done)))) | (refine Rn_seq ?_) | (refine Rn_block ?_) | (apply Rn_region' lv22; (exact rfl)) | (refine Rn_region ?_) | (apply Rn_op'; (exact rfl)) | (refine Rn_o_nil ?_) | ((first | apply Rn_g | apply Rd_g); (exact rfl); (exact rfl); (focus (intro K0; (try simp only [lookT, ev, Nat.reduceEqDiff, ↓reduceIte]); exact ⟨id⟩))) | (with_reducible (first | apply RnG_yes | apply RdG_yes)) | ((with_reducible (first | apply RnG_t_no | apply RnG_f_no | apply RnG_un | apply RdG_t_no | apply RdG_f_no | apply RdG_un)); (exact rfl)) | ((first | apply RnG_never | apply RdG_never); (focus (intro K0; (try simp only [go_sem]); exact ⟨id⟩)); (exact rfl)) | ((first | apply RnG_lazy | apply RdG_lazy); (exact rfl); (focus (intro K0; (try simp only [go_sem]); exact ⟨id⟩)); (focus (first | (simp only [Nat.reduceLT]; done) | omega)); (focus (intro hw0; (try simp only [Bool.and_eq_true, Bool.not_eq_true', beq_true', beq_false'] at hw0); (focus (intro K0; (try simp only [go_sem, *]); (first | exact ⟨id⟩ | (refine ⟨fun h => ?_⟩; (repeat' (first | exact h | refine And.intro ?_ ?_ | omega | rfl)); done))))))) | (apply Rn_c; (focus (intro K0; (try simp only [lookT, ev, Nat.reduceEqDiff, ↓reduceIte]); exact ⟨id⟩))) | (with_reducible (first | refine RnC_t ?_ | refine RnC_f ?_)) | (refine Rn_skip ?_) | (refine Rn_exit rfl ?_) | (refine Rn_b ?_) | (apply Rn_draw' lv22; (exact rfl)) | (refine Rn_draw ?_) | (apply Rd_op'; (exact rfl)) | (refine Rd_nil (by kernel_rfl) ?_) | ((with_reducible (first | refine RnG_split (fun h => ?_) (fun h => ?_) | refine RdG_split (fun h => ?_) (fun h => ?_) | refine RnC_split (fun h => ?_) (fun h => ?_))) <;> (have h' := h) <;> (try simp only [decide_eq_true_eq, decide_eq_false_iff_not, Bool.not_eq_true', Bool.not_eq_false', Bool.and_eq_true, Bool.or_eq_true, Bool.or_eq_false_iff, beq_iff_eq, bne_iff_ne, ne_eq, Bool.not_true, Bool.not_false, not_false_eq_true, reduceCtorEq, beq_eq_false_iff_ne, bne_eq_false_iff_eq] at h') <;> (first | apply Rn_st | apply Rd_st)) | (refine Rn_out_ck rfl rfl ?_) | (first | refine Rn_ret_ck ?_ | refine Rn_ret ?_ | refine Rn_nil_then ?_) | (refine LoopN_step (T := []) ?_) | (refine Rn_nil ?_)))
  · intro K0; (try simp only [go_sem]); exact ⟨id⟩
  refine Rn_isnil (sz := 5) rfl (.inl rfl) rfl rfl (Nat.le_of_ble_eq_true rfl) rfl rfl (by kernel_rfl) (fun q hq => ?_)
  apply Rn_o_st
  · intro K0; (try simp only [go_sem]); exact ⟨id⟩
  cases q with
  | true =>
    have h0 : l = [] := by have := hq rfl; simpa using this
    subst h0
    repeat' (first | (focus (intro K0; (try simp only [go_sem, *]); (first | exact ⟨id⟩ | (refine ⟨fun h => ?_⟩; (repeat' (first | exact h | refine And.intro ?_ ?_ | omega | rfl)); done)))) | (refine Rn_seq ?_) | (refine Rn_block ?_) | (apply Rn_region' lv22; (exact rfl)) | (refine Rn_region ?_) | (apply Rn_op'; (exact rfl)) | (refine Rn_o_nil ?_) | ((first | apply Rn_g | apply Rd_g); (exact rfl); (exact rfl); (focus (intro K0; (try simp only [lookT, ev, Nat.reduceEqDiff, ↓reduceIte]); exact ⟨id⟩))) | (with_reducible (first | apply RnG_yes | apply RdG_yes)) | ((with_reducible (first | apply RnG_t_no | apply RnG_f_no | apply RnG_un | apply RdG_t_no | apply RdG_f_no | apply RdG_un)); (exact rfl)) | ((first | apply RnG_never | apply RdG_never); (focus (intro K0; (try simp only [go_sem]); exact ⟨id⟩)); (exact rfl)) | ((first | apply RnG_lazy | apply RdG_lazy); (exact rfl); (focus (intro K0; (try simp only [go_sem]); exact ⟨id⟩)); (focus (first | (simp only [Nat.reduceLT]; done) | omega)); (focus (intro hw0; (try simp only [Bool.and_eq_true, Bool.not_eq_true', beq_true', beq_false'] at hw0); (focus (intro K0; (try simp only [go_sem, *]); (first | exact ⟨id⟩ | (refine ⟨fun h => ?_⟩; (repeat' (first | exact h | refine And.intro ?_ ?_ | omega | rfl)); done))))))) | (apply Rn_c; (focus (intro K0; (try simp only [lookT, ev, Nat.reduceEqDiff, ↓reduceIte]); exact ⟨id⟩))) | (with_reducible (first | refine RnC_t ?_ | refine RnC_f ?_)) | (refine Rn_skip ?_) | (refine Rn_exit rfl ?_) | (refine Rn_b ?_) | (apply Rn_draw' lv22; (exact rfl)) | (refine Rn_draw ?_) | (apply Rd_op'; (exact rfl)) | (refine Rd_nil (by kernel_rfl) ?_) | ((with_reducible (first | refine RnG_split (fun h => ?_) (fun h => ?_) | refine RdG_split (fun h => ?_) (fun h => ?_) | refine RnC_split (fun h => ?_) (fun h => ?_))) <;> (have h' := h) <;> (try simp only [decide_eq_true_eq, decide_eq_false_iff_not, Bool.not_eq_true', Bool.not_eq_false', Bool.and_eq_true, Bool.or_eq_true, Bool.or_eq_false_iff, beq_iff_eq, bne_iff_ne, ne_eq, Bool.not_true, Bool.not_false, not_false_eq_true, reduceCtorEq, beq_eq_false_iff_ne, bne_eq_false_iff_eq] at h') <;> (first | apply Rn_st | apply Rd_st)) | (refine Rn_out_ck rfl rfl ?_) | (first | refine Rn_ret_ck ?_ | refine Rn_ret ?_ | refine Rn_nil_then ?_) | (refine LoopN_step (T := []) ?_) | (refine Rn_nil ?_))
    all_goals (try simp only [go_sem])
  | false =>
    clear hq
    repeat' (first | (focus (intro K0; (try simp only [go_sem, *]); (first | exact ⟨id⟩ | (refine ⟨fun h => ?_⟩; (repeat' (first | exact h | refine And.intro ?_ ?_ | omega | rfl)); done)))) | (refine Rn_seq ?_) | (refine Rn_block ?_) | (apply Rn_region' lv22; (exact rfl)) | (refine Rn_region ?_) | (apply Rn_op'; (exact rfl)) | (refine Rn_o_nil ?_) | ((first | apply Rn_g | apply Rd_g); (exact rfl); (exact rfl); (focus (intro K0; (try simp only [lookT, ev, Nat.reduceEqDiff, ↓reduceIte]); exact ⟨id⟩))) | (with_reducible (first | apply RnG_yes | apply RdG_yes)) | ((with_reducible (first | apply RnG_t_no | apply RnG_f_no | apply RnG_un | apply RdG_t_no | apply RdG_f_no | apply RdG_un)); (exact rfl)) | ((first | apply RnG_never | apply RdG_never); (focus (intro K0; (try simp only [go_sem]); exact ⟨id⟩)); (exact rfl)) | ((first | apply RnG_lazy | apply RdG_lazy); (exact rfl); (focus (intro K0; (try simp only [go_sem]); exact ⟨id⟩)); (focus (first | (simp only [Nat.reduceLT]; done) | omega)); (focus (intro hw0; (try simp only [Bool.and_eq_true, Bool.not_eq_true', beq_true', beq_false'] at hw0); (focus (intro K0; (try simp only [go_sem, *]); (first | exact ⟨id⟩ | (refine ⟨fun h => ?_⟩; (repeat' (first | exact h | refine And.intro ?_ ?_ | omega | rfl)); done))))))) | (apply Rn_c; (focus (intro K0; (try simp only [lookT, ev, Nat.reduceEqDiff, ↓reduceIte]); exact ⟨id⟩))) | (with_reducible (first | refine RnC_t ?_ | refine RnC_f ?_)) | (refine Rn_skip ?_) | (refine Rn_exit rfl ?_) | (refine Rn_b ?_) | (apply Rn_draw' lv22; (exact rfl)) | (refine Rn_draw ?_) | (apply Rd_op'; (exact rfl)) | (refine Rd_nil (by kernel_rfl) ?_) | ((with_reducible (first | refine RnG_split (fun h => ?_) (fun h => ?_) | refine RdG_split (fun h => ?_) (fun h => ?_) | refine RnC_split (fun h => ?_) (fun h => ?_))) <;> (have h' := h) <;> (try simp only [decide_eq_true_eq, decide_eq_false_iff_not, Bool.not_eq_true', Bool.not_eq_false', Bool.and_eq_true, Bool.or_eq_true, Bool.or_eq_false_iff, beq_iff_eq, bne_iff_ne, ne_eq, Bool.not_true, Bool.not_false, not_false_eq_true, reduceCtorEq, beq_eq_false_iff_ne, bne_eq_false_iff_eq] at h') <;> (first | apply Rn_st | apply Rd_st)) | (refine Rn_out_ck rfl rfl ?_) | (first | refine Rn_ret_ck ?_ | refine Rn_ret ?_ | refine Rn_nil_then ?_) | (refine LoopN_step (T := []) ?_) | (refine Rn_nil ?_))
    all_goals (try simp only [go_sem])
/-- How calls of this function are met. -/
def sp_cloneFnP (st : St) (d : Nat) (args : List AV) (K : AV → List Loc → List (Loc × Cont) → Prop) : Prop := match args with
  | [.r (.rs 5 xs)] => (xs = (fnsOf xs).map fnR ∧ xs.length ≤ 1000000000) ∧ K (ren (fun _ => d) (fun _ => st.cur d) (.os 0 1)) [.R d] [(.R d, .s (1 + st.cur d) (.sl 47 5 ((fnsOf xs).map fnC)))]
  | _ => False
theorem sp_cloneFnP_ok (st : St) (d : Nat) (args : List AV) (K : AV → List Loc → List (Loc × Cont) → Prop) (h : sp_cloneFnP st d args K) : ∃ r ls outs, CallR Cx 22 st args r ls outs ∧ K r ls outs := by
  unfold sp_cloneFnP at h
  split at h
  · exact ⟨_, _, _, CallR.own (cloneFnP_c _ h.1) rfl (cloneFnP_rows _) rfl d, h.2⟩
  · exact h.elim
noncomputable def ct_cloneFnP : Ct Cx := .res 22 sp_cloneFnP en22 sp_cloneFnP_ok
@[go_sem] theorem ct_cloneFnP_g : ct_cloneFnP.g = 22 := rfl
@[go_sem] theorem ct_cloneFnP_run (c : Call) (fop : Operand) (caps : List RV) (o : Oper) (st : St) (K : List Loc → List (Loc × Cont) → Prop) : ct_cloneFnP.run c fop caps o st K = callG sp_cloneFnP c fop caps o st K := rfl
@[go_sem] theorem sp_cloneFnP_eq (st : St) (d : Nat) (args : List AV) (K : AV → List Loc → List (Loc × Cont) → Prop) : sp_cloneFnP st d args K = (match args with
    | [.r (.rs 5 xs)] => (xs = (fnsOf xs).map fnR ∧ xs.length ≤ 1000000000) ∧ K (ren (fun _ => d) (fun _ => st.cur d) (.os 0 1)) [.R d] [(.R d, .s (1 + st.cur d) (.sl 47 5 ((fnsOf xs).map fnC)))]
    | _ => False) := rfl
theorem cloneFn_c (xs : List (List RV)) (h : xs = (fnsOf xs).map fnR ∧ xs.length ≤ 1000000000) : FC Cx 22 [.r (.rs 5 xs)] [] (fnsV (fnsOf xs)) [] := (cloneFnP_c xs h).freeze1 (roFnC _).symm
/-- How calls of this function are met. -/
def sp_cloneFn (args : List AV) (K : AV → Prop) : Prop := match args with
  | [.r (.rs 5 xs)] => (xs = (fnsOf xs).map fnR ∧ xs.length ≤ 1000000000) ∧ K (fnsV (fnsOf xs))
  | _ => False
theorem sp_cloneFn_ok (args : List AV) (K : AV → Prop) (h : sp_cloneFn args K) : ∃ r, CallOk Cx 22 args r ∧ K r := by
  unfold sp_cloneFn at h
  split at h
  · exact ⟨_, CallOk_of (cloneFn_c _ h.1) en22 rfl rfl, h.2⟩
  · exact h.elim
noncomputable def ct_cloneFn : Ct Cx := .pure 22 sp_cloneFn sp_cloneFn_ok
@[go_sem] theorem ct_cloneFn_g : ct_cloneFn.g = 22 := rfl
@[go_sem] theorem ct_cloneFn_run (c : Call) (fop : Operand) (caps : List RV) (o : Oper) (st : St) (K : List Loc → List (Loc × Cont) → Prop) : ct_cloneFn.run c fop caps o st K = callT Cx sp_cloneFn c fop caps o st K := rfl
@[go_sem] theorem sp_cloneFn_eq (args : List AV) (K : AV → Prop) : sp_cloneFn args K = (match args with
    | [.r (.rs 5 xs)] => (xs = (fnsOf xs).map fnR ∧ xs.length ≤ 1000000000) ∧ K (fnsV (fnsOf xs))
    | _ => False) := rfl

theorem flatInsC (l : List InsT) : ∀ row ∈ l.map insC, withinL none0 row = true := fun row h => by
  obtain ⟨x, _, rfl⟩ := List.mem_map.1 h; rfl
@[go_sem] theorem okInsC : ∀ l : List InsT, okRows (l.map insC) = true
  | [] => rfl
  | x :: l => okInsC l
@[go_sem] theorem roInsC (l : List InsT) : ((l.map insR).map fun r => r.map AV.r) = l.map insC := by rw [List.map_map]; rfl
theorem cloneInsP_rows (xs : List (List RV)) : ∀ row ∈ (inssOf xs).map insC, withinL none0 row = true := flatInsC _
theorem cloneInsP_c (xs : List (List RV)) (h : xs = (inssOf xs).map insR ∧ xs.length ≤ 1000000000) : FC Cx 23 [.r (.rs 5 xs)] [] (.os 0 1) [(0, 1, .sl 43 5 ((inssOf xs).map insC))] := by
  have hl : (inssOf xs).length = xs.length := by simp [inssOf]
  have hlenS : ∀ l : List InsT, (l.map insC).length = l.length := fun l => List.length_map ..
  obtain ⟨h1, h2⟩ := h
  generalize inssOf xs = l at h1 hl
  subst h1
  rw [← hl] at h2
  refine FCo_of [] (i := 0) [.os 0 1] Tryd.func23 rfl Tryd.ntmps23 (by simp) Tryd.results23 (flatInsC _) ?_
  apply Rn_st; (intro K0; simp only [go_sem]; exact ⟨id⟩)
  iterate 8 (any_goals (first | (focus (intro K0; (try simp only [go_sem, *]); (first | exact ⟨id⟩ | (refine ⟨fun h => ?_⟩; (repeat' (first | exact h | refine And.intro ?_ ?_ | omega | rfl)); done)))) | (refine Rn_seq ?_) | (refine Rn_block ?_) | (apply Rn_region' lv23; (exact rfl)) | (refine Rn_region ?_) | (apply Rn_op'; (exact rfl)) | (refine Rn_o_nil ?_) | ((first | apply Rn_g | apply Rd_g); (exact rfl); (exact rfl); (focus (intro K0; (try simp only [lookT, ev, Nat.reduceEqDiff, ↓reduceIte]); exact ⟨id⟩))) | (with_reducible (first | apply RnG_yes | apply RdG_yes)) | ((with_reducible (first | apply RnG_t_no | apply RnG_f_no | apply RnG_un | apply RdG_t_no | apply RdG_f_no | apply RdG_un)); (exact rfl)) | ((first | apply RnG_never | apply RdG_never); (focus (intro K0; (try simp only [go_sem]); exact ⟨id⟩)); (exact rfl)) | ((first | apply RnG_lazy | apply RdG_lazy); (exact rfl); (focus (intro K0; (try simp only [go_sem]); exact ⟨id⟩)); (focus (first | (simp only [Nat.reduceLT]; done) | omega)); (focus (intro hw0; (try simp only [Bool.and_eq_true, Bool.not_eq_true', beq_true', beq_false'] at hw0); (focus (intro K0; (try simp only [go_sem, *]); (first | exact ⟨id⟩ | (refine ⟨fun h => ?_⟩; (repeat' (first | exact h | refine And.intro ?_ ?_ | omega | rfl)); done))))))) | (apply Rn_c; (focus (intro K0; (try simp only [lookT, ev, Nat.reduceEqDiff, ↓reduceIte]); exact ⟨id⟩))) | (with_reducible (first | refine RnC_t ?_ | refine RnC_f ?_)) | (refine Rn_skip ?_) | (refine Rn_exit rfl ?_) | (refine Rn_b ?_) | (apply Rn_draw' lv23; (exact rfl)) | (refine Rn_draw ?_) | (apply Rd_op'; (exact rfl)) | (refine Rd_nil (by kernel_rfl) ?_) | ((with_reducible (first | refine RnG_split (fun h => ?_) (fun h => ?_) | refine RdG_split (fun h => ?_) (fun h => ?_) | refine RnC_split (fun h => ?_) (fun h => ?_))) <;> (have h' := h) <;> (try simp only [decide_eq_true_eq, decide_eq_false_iff_not, Bool.not_eq_true', Bool.not_eq_false', Bool.and_eq_true, Bool.or_eq_true, Bool.or_eq_false_iff, beq_iff_eq, bne_iff_ne, ne_eq, Bool.not_true, Bool.not_false, not_false_eq_true, reduceCtorEq, beq_eq_false_iff_ne, bne_eq_false_iff_eq] at h') <;> (first | apply Rn_st | apply Rd_st)) | (refine Rn_out_ck rfl rfl ?_) | (first | refine Rn_ret_ck ?_ | refine Rn_ret ?_ | refine Rn_nil_then ?_) | (refine LoopN_step (T := []) ?_) | (refine Rn_nil ?_)))
  · intro K0; (try simp only [go_sem]); exact ⟨id⟩
  refine Rn_isnil (sz := 5) rfl (.inl rfl) rfl rfl (Nat.le_of_ble_eq_true rfl) rfl rfl (by kernel_rfl) (fun q hq => ?_)
  apply Rn_o_st
  · intro K0; (try simp only [go_sem]); exact ⟨id⟩
  cases q with
  | true =>
    have h0 : l = [] := by have := hq rfl; simpa using this
    subst h0
    repeat' (first | (focus (intro K0; (try simp only [go_sem, *]); (first | exact ⟨id⟩ | (refine ⟨fun h => ?_⟩; (repeat' (first | exact h | refine And.intro ?_ ?_ | omega | rfl)); done)))) | (refine Rn_seq ?_) | (refine Rn_block ?_) | (apply Rn_region' lv23; (exact rfl)) | (refine Rn_region ?_) | (apply Rn_op'; (exact rfl)) | (refine Rn_o_nil ?_) | ((first | apply Rn_g | apply Rd_g); (exact rfl); (exact rfl); (focus (intro K0; (try simp only [lookT, ev, Nat.reduceEqDiff, ↓reduceIte]); exact ⟨id⟩))) | (with_reducible (first | apply RnG_yes | apply RdG_yes)) | ((with_reducible (first | apply RnG_t_no | apply RnG_f_no | apply RnG_un | apply RdG_t_no | apply RdG_f_no | apply RdG_un)); (exact rfl)) | ((first | apply RnG_never | apply RdG_never); (focus (intro K0; (try simp only [go_sem]); exact ⟨id⟩)); (exact rfl)) | ((first | apply RnG_lazy | apply RdG_lazy); (exact rfl); (focus (intro K0; (try simp only [go_sem]); exact ⟨id⟩)); (focus (first | (simp only [Nat.reduceLT]; done) | omega)); (focus (intro hw0; (try simp only [Bool.and_eq_true, Bool.not_eq_true', beq_true', beq_false'] at hw0); (focus (intro K0; (try simp only [go_sem, *]); (first | exact ⟨id⟩ | (refine ⟨fun h => ?_⟩; (repeat' (first | exact h | refine And.intro ?_ ?_ | omega | rfl)); done))))))) | (apply Rn_c; (focus (intro K0; (try simp only [lookT, ev, Nat.reduceEqDiff, ↓reduceIte]); exact ⟨id⟩))) | (with_reducible (first | refine RnC_t ?_ | refine RnC_f ?_)) | (refine Rn_skip ?_) | (refine Rn_exit rfl ?_) | (refine Rn_b ?_) | (apply Rn_draw' lv23; (exact rfl)) | (refine Rn_draw ?_) | (apply Rd_op'; (exact rfl)) | (refine Rd_nil (by kernel_rfl) ?_) | ((with_reducible (first | refine RnG_split (fun h => ?_) (fun h => ?_) | refine RdG_split (fun h => ?_) (fun h => ?_) | refine RnC_split (fun h => ?_) (fun h => ?_))) <;> (have h' := h) <;> (try simp only [decide_eq_true_eq, decide_eq_false_iff_not, Bool.not_eq_true', Bool.not_eq_false', Bool.and_eq_true, Bool.or_eq_true, Bool.or_eq_false_iff, beq_iff_eq, bne_iff_ne, ne_eq, Bool.not_true, Bool.not_false, not_false_eq_true, reduceCtorEq, beq_eq_false_iff_ne, bne_eq_false_iff_eq] at h') <;> (first | apply Rn_st | apply Rd_st)) | (refine Rn_out_ck rfl rfl ?_) | (first | refine Rn_ret_ck ?_ | refine Rn_ret ?_ | refine Rn_nil_then ?_) | (refine LoopN_step (T := []) ?_) | (refine Rn_nil ?_))
    all_goals (try simp only [go_sem])
  | false =>
    clear hq
    repeat' (first | (focus (intro K0; (try simp only [go_sem, *]); (first | exact ⟨id⟩ | (refine ⟨fun h => ?_⟩; (repeat' (first | exact h | refine And.intro ?_ ?_ | omega | rfl)); done)))) | (refine Rn_seq ?_) | (refine Rn_block ?_) | (apply Rn_region' lv23; (exact rfl)) | (refine Rn_region ?_) | (apply Rn_op'; (exact rfl)) | (refine Rn_o_nil ?_) | ((first | apply Rn_g | apply Rd_g); (exact rfl); (exact rfl); (focus (intro K0; (try simp only [lookT, ev, Nat.reduceEqDiff, ↓reduceIte]); exact ⟨id⟩))) | (with_reducible (first | apply RnG_yes | apply RdG_yes)) | ((with_reducible (first | apply RnG_t_no | apply RnG_f_no | apply RnG_un | apply RdG_t_no | apply RdG_f_no | apply RdG_un)); (exact rfl)) | ((first | apply RnG_never | apply RdG_never); (focus (intro K0; (try simp only [go_sem]); exact ⟨id⟩)); (exact rfl)) | ((first | apply RnG_lazy | apply RdG_lazy); (exact rfl); (focus (intro K0; (try simp only [go_sem]); exact ⟨id⟩)); (focus (first | (simp only [Nat.reduceLT]; done) | omega)); (focus (intro hw0; (try simp only [Bool.and_eq_true, Bool.not_eq_true', beq_true', beq_false'] at hw0); (focus (intro K0; (try simp only [go_sem, *]); (first | exact ⟨id⟩ | (refine ⟨fun h => ?_⟩; (repeat' (first | exact h | refine And.intro ?_ ?_ | omega | rfl)); done))))))) | (apply Rn_c; (focus (intro K0; (try simp only [lookT, ev, Nat.reduceEqDiff, ↓reduceIte]); exact ⟨id⟩))) | (with_reducible (first | refine RnC_t ?_ | refine RnC_f ?_)) | (refine Rn_skip ?_) | (refine Rn_exit rfl ?_) | (refine Rn_b ?_) | (apply Rn_draw' lv23; (exact rfl)) | (refine Rn_draw ?_) | (apply Rd_op'; (exact rfl)) | (refine Rd_nil (by kernel_rfl) ?_) | ((with_reducible (first | refine RnG_split (fun h => ?_) (fun h => ?_) | refine RdG_split (fun h => ?_) (fun h => ?_) | refine RnC_split (fun h => ?_) (fun h => ?_))) <;> (have h' := h) <;> (try simp only [decide_eq_true_eq, decide_eq_false_iff_not, Bool.not_eq_true', Bool.not_eq_false', Bool.and_eq_true, Bool.or_eq_true, Bool.or_eq_false_iff, beq_iff_eq, bne_iff_ne, ne_eq, Bool.not_true, Bool.not_false, not_false_eq_true, reduceCtorEq, beq_eq_false_iff_ne, bne_eq_false_iff_eq] at h') <;> (first | apply Rn_st | apply Rd_st)) | (refine Rn_out_ck rfl rfl ?_) | (first | refine Rn_ret_ck ?_ | refine Rn_ret ?_ | refine Rn_nil_then ?_) | (refine LoopN_step (T := []) ?_) | (refine Rn_nil ?_))
    all_goals (try simp only [go_sem])
/-- How calls of this function are met. -/
def sp_cloneInsP (st : St) (d : Nat) (args : List AV) (K : AV → List Loc → List (Loc × Cont) → Prop) : Prop := match args with
  | [.r (.rs 5 xs)] => (xs = (inssOf xs).map insR ∧ xs.length ≤ 1000000000) ∧ K (ren (fun _ => d) (fun _ => st.cur d) (.os 0 1)) [.R d] [(.R d, .s (1 + st.cur d) (.sl 43 5 ((inssOf xs).map insC)))]
  | _ => False
theorem sp_cloneInsP_ok (st : St) (d : Nat) (args : List AV) (K : AV → List Loc → List (Loc × Cont) → Prop) (h : sp_cloneInsP st d args K) : ∃ r ls outs, CallR Cx 23 st args r ls outs ∧ K r ls outs := by
  unfold sp_cloneInsP at h
  split at h
  · exact ⟨_, _, _, CallR.own (cloneInsP_c _ h.1) rfl (cloneInsP_rows _) rfl d, h.2⟩
  · exact h.elim
noncomputable def ct_cloneInsP : Ct Cx := .res 23 sp_cloneInsP en23 sp_cloneInsP_ok
@[go_sem] theorem ct_cloneInsP_g : ct_cloneInsP.g = 23 := rfl
@[go_sem] theorem ct_cloneInsP_run (c : Call) (fop : Operand) (caps : List RV) (o : Oper) (st : St) (K : List Loc → List (Loc × Cont) → Prop) : ct_cloneInsP.run c fop caps o st K = callG sp_cloneInsP c fop caps o st K := rfl
@[go_sem] theorem sp_cloneInsP_eq (st : St) (d : Nat) (args : List AV) (K : AV → List Loc → List (Loc × Cont) → Prop) : sp_cloneInsP st d args K = (match args with
    | [.r (.rs 5 xs)] => (xs = (inssOf xs).map insR ∧ xs.length ≤ 1000000000) ∧ K (ren (fun _ => d) (fun _ => st.cur d) (.os 0 1)) [.R d] [(.R d, .s (1 + st.cur d) (.sl 43 5 ((inssOf xs).map insC)))]
    | _ => False) := rfl
theorem cloneIns_c (xs : List (List RV)) (h : xs = (inssOf xs).map insR ∧ xs.length ≤ 1000000000) : FC Cx 23 [.r (.rs 5 xs)] [] (inssV (inssOf xs)) [] := (cloneInsP_c xs h).freeze1 (roInsC _).symm
/-- How calls of this function are met. -/
def sp_cloneIns (args : List AV) (K : AV → Prop) : Prop := match args with
  | [.r (.rs 5 xs)] => (xs = (inssOf xs).map insR ∧ xs.length ≤ 1000000000) ∧ K (inssV (inssOf xs))
  | _ => False
theorem sp_cloneIns_ok (args : List AV) (K : AV → Prop) (h : sp_cloneIns args K) : ∃ r, CallOk Cx 23 args r ∧ K r := by
  unfold sp_cloneIns at h
  split at h
  · exact ⟨_, CallOk_of (cloneIns_c _ h.1) en23 rfl rfl, h.2⟩
  · exact h.elim
noncomputable def ct_cloneIns : Ct Cx := .pure 23 sp_cloneIns sp_cloneIns_ok
@[go_sem] theorem ct_cloneIns_g : ct_cloneIns.g = 23 := rfl
@[go_sem] theorem ct_cloneIns_run (c : Call) (fop : Operand) (caps : List RV) (o : Oper) (st : St) (K : List Loc → List (Loc × Cont) → Prop) : ct_cloneIns.run c fop caps o st K = callT Cx sp_cloneIns c fop caps o st K := rfl
@[go_sem] theorem sp_cloneIns_eq (args : List AV) (K : AV → Prop) : sp_cloneIns args K = (match args with
    | [.r (.rs 5 xs)] => (xs = (inssOf xs).map insR ∧ xs.length ≤ 1000000000) ∧ K (inssV (inssOf xs))
    | _ => False) := rfl

@[go_sem] theorem fnsOf_cons (k1 k2 : IntKind) (p g : Int) (b : Bool) (s s' : Nat) (cs is xs : List (List RV)) : fnsOf ([.v (.int k1 p), .v (.int k2 g), .v (.bool b), .rs s cs, .rs s' is] :: xs) = ⟨p, g, b, intsOf cs, inssOf is⟩ :: fnsOf xs := rfl
@[go_sem] theorem lendR_ins (n : Nat) (st : St) : ∀ (l : List InsT) (K : List Loc → List (List RV) → Prop), lendR (lendC n st) (l.map insC) K = K [] (l.map insR)
  | [], K => rfl
  | x :: l, K => by
    cases n <;> (simp only [List.map_cons, lendR, lendL, lendC]; rw [lendR_ins _ st l]; rfl)
@[go_sem] theorem lendR_fn (n : Nat) (st : St) : ∀ (l : List FnT) (K : List Loc → List (List RV) → Prop), lendR (lendC n st) (l.map fnC) K = K [] (l.map fnR)
  | [], K => rfl
  | x :: l, K => by
    cases n <;> (simp only [List.map_cons, lendR, lendL, lendC]; rw [lendR_fn _ st l]; rfl)

theorem dead_no (p : ProgT) (at' : Int) (hw : Pwf p) (e : Int) (hT : TriesF p 0 = ([], [], e)) (he : decide (e = 0) = false) : FC Cx 5 [progV p, Iv at'] [] (Bv true) [] := by
  refine FCp_of [ct_Tries', ct_codeLives] Tryd.func5 rfl Tryd.ntmps5 (by simp) Tryd.results5 rfl ?_
  apply Rn_st; (intro K0; simp only [go_sem]; exact ⟨id⟩)
  repeat' (first | (focus (intro K0; (try simp only [go_sem, *]); (first | exact ⟨id⟩ | (refine ⟨fun h => ?_⟩; (repeat' (first | exact h | refine And.intro ?_ ?_ | omega | rfl)); done)))) | (refine Rn_seq ?_) | (refine Rn_block ?_) | (apply Rn_region' lv5; (exact rfl)) | (refine Rn_region ?_) | (apply Rn_op'; (exact rfl)) | (refine Rn_o_nil ?_) | ((first | apply Rn_g | apply Rd_g); (exact rfl); (exact rfl); (focus (intro K0; (try simp only [lookT, ev, Nat.reduceEqDiff, ↓reduceIte]); exact ⟨id⟩))) | (with_reducible (first | apply RnG_yes | apply RdG_yes)) | ((with_reducible (first | apply RnG_t_no | apply RnG_f_no | apply RnG_un | apply RdG_t_no | apply RdG_f_no | apply RdG_un)); (exact rfl)) | ((first | apply RnG_never | apply RdG_never); (focus (intro K0; (try simp only [go_sem]); exact ⟨id⟩)); (exact rfl)) | ((first | apply RnG_lazy | apply RdG_lazy); (exact rfl); (focus (intro K0; (try simp only [go_sem]); exact ⟨id⟩)); (focus (first | (simp only [Nat.reduceLT]; done) | omega)); (focus (intro hw0; (try simp only [Bool.and_eq_true, Bool.not_eq_true', beq_true', beq_false'] at hw0); (focus (intro K0; (try simp only [go_sem, *]); (first | exact ⟨id⟩ | (refine ⟨fun h => ?_⟩; (repeat' (first | exact h | refine And.intro ?_ ?_ | omega | rfl)); done))))))) | (apply Rn_c; (focus (intro K0; (try simp only [lookT, ev, Nat.reduceEqDiff, ↓reduceIte]); exact ⟨id⟩))) | (with_reducible (first | refine RnC_t ?_ | refine RnC_f ?_)) | (refine Rn_skip ?_) | (refine Rn_exit rfl ?_) | (refine Rn_b ?_) | (apply Rn_draw' lv5; (exact rfl)) | (refine Rn_draw ?_) | (apply Rd_op'; (exact rfl)) | (refine Rd_nil (by kernel_rfl) ?_) | ((with_reducible (first | refine RnG_split (fun h => ?_) (fun h => ?_) | refine RdG_split (fun h => ?_) (fun h => ?_) | refine RnC_split (fun h => ?_) (fun h => ?_))) <;> (have h' := h) <;> (try simp only [decide_eq_true_eq, decide_eq_false_iff_not, Bool.not_eq_true', Bool.not_eq_false', Bool.and_eq_true, Bool.or_eq_true, Bool.or_eq_false_iff, beq_iff_eq, bne_iff_ne, ne_eq, Bool.not_true, Bool.not_false, not_false_eq_true, reduceCtorEq, beq_eq_false_iff_ne, bne_eq_false_iff_eq] at h') <;> (first | apply Rn_st | apply Rd_st)) | (refine Rn_out_ck rfl rfl ?_) | (first | refine Rn_ret_ck ?_ | refine Rn_ret ?_ | refine Rn_nil_then ?_) | (refine LoopN_step (T := [ct_Tries', ct_codeLives]) ?_) | (refine Rn_nil ?_))
  all_goals (try simp only [go_sem])

theorem dead_out (p : ProgT) (at' : Int) (hw : Pwf p) (W : WT) (hT : TriesF p 0 = (W.out, W.seen, 0)) (ha : at' < 0 ∨ (W.seen.length : Int) ≤ at') : FC Cx 5 [progV p, Iv at'] [] (Bv true) [] := by
  have ls : (W.seen.map boolR).length = W.seen.length := List.length_map ..
  by_cases h0 : at' < 0
  · have d0 : decide (at' < 0) = true := by simpa using h0
    refine FCp_of [ct_Tries', ct_codeLives] Tryd.func5 rfl Tryd.ntmps5 (by simp) Tryd.results5 rfl ?_
    apply Rn_st; (intro K0; simp only [go_sem]; exact ⟨id⟩)
    repeat' (first | (focus (intro K0; (try simp only [go_sem, *]); (first | exact ⟨id⟩ | (refine ⟨fun h => ?_⟩; (repeat' (first | exact h | refine And.intro ?_ ?_ | omega | rfl)); done)))) | (refine Rn_seq ?_) | (refine Rn_block ?_) | (apply Rn_region' lv5; (exact rfl)) | (refine Rn_region ?_) | (apply Rn_op'; (exact rfl)) | (refine Rn_o_nil ?_) | ((first | apply Rn_g | apply Rd_g); (exact rfl); (exact rfl); (focus (intro K0; (try simp only [lookT, ev, Nat.reduceEqDiff, ↓reduceIte]); exact ⟨id⟩))) | (with_reducible (first | apply RnG_yes | apply RdG_yes)) | ((with_reducible (first | apply RnG_t_no | apply RnG_f_no | apply RnG_un | apply RdG_t_no | apply RdG_f_no | apply RdG_un)); (exact rfl)) | ((first | apply RnG_never | apply RdG_never); (focus (intro K0; (try simp only [go_sem]); exact ⟨id⟩)); (exact rfl)) | ((first | apply RnG_lazy | apply RdG_lazy); (exact rfl); (focus (intro K0; (try simp only [go_sem]); exact ⟨id⟩)); (focus (first | (simp only [Nat.reduceLT]; done) | omega)); (focus (intro hw0; (try simp only [Bool.and_eq_true, Bool.not_eq_true', beq_true', beq_false'] at hw0); (focus (intro K0; (try simp only [go_sem, *]); (first | exact ⟨id⟩ | (refine ⟨fun h => ?_⟩; (repeat' (first | exact h | refine And.intro ?_ ?_ | omega | rfl)); done))))))) | (apply Rn_c; (focus (intro K0; (try simp only [lookT, ev, Nat.reduceEqDiff, ↓reduceIte]); exact ⟨id⟩))) | (with_reducible (first | refine RnC_t ?_ | refine RnC_f ?_)) | (refine Rn_skip ?_) | (refine Rn_exit rfl ?_) | (refine Rn_b ?_) | (apply Rn_draw' lv5; (exact rfl)) | (refine Rn_draw ?_) | (apply Rd_op'; (exact rfl)) | (refine Rd_nil (by kernel_rfl) ?_) | ((with_reducible (first | refine RnG_split (fun h => ?_) (fun h => ?_) | refine RdG_split (fun h => ?_) (fun h => ?_) | refine RnC_split (fun h => ?_) (fun h => ?_))) <;> (have h' := h) <;> (try simp only [decide_eq_true_eq, decide_eq_false_iff_not, Bool.not_eq_true', Bool.not_eq_false', Bool.and_eq_true, Bool.or_eq_true, Bool.or_eq_false_iff, beq_iff_eq, bne_iff_ne, ne_eq, Bool.not_true, Bool.not_false, not_false_eq_true, reduceCtorEq, beq_eq_false_iff_ne, bne_eq_false_iff_eq] at h') <;> (first | apply Rn_st | apply Rd_st)) | (refine Rn_out_ck rfl rfl ?_) | (first | refine Rn_ret_ck ?_ | refine Rn_ret ?_ | refine Rn_nil_then ?_) | (refine LoopN_step (T := [ct_Tries', ct_codeLives]) ?_) | (refine Rn_nil ?_))
    all_goals (try simp only [go_sem])
  · have d0 : decide (at' < 0) = false := by simpa using h0
    have d1 : decide ((W.seen.length : Int) ≤ at') = true := by rw [decide_eq_true_eq]; omega
    refine FCp_of [ct_Tries', ct_codeLives] Tryd.func5 rfl Tryd.ntmps5 (by simp) Tryd.results5 rfl ?_
    apply Rn_st; (intro K0; simp only [go_sem]; exact ⟨id⟩)
    repeat' (first | (focus (intro K0; (try simp only [go_sem, *]); (first | exact ⟨id⟩ | (refine ⟨fun h => ?_⟩; (repeat' (first | exact h | refine And.intro ?_ ?_ | omega | rfl)); done)))) | (refine Rn_seq ?_) | (refine Rn_block ?_) | (apply Rn_region' lv5; (exact rfl)) | (refine Rn_region ?_) | (apply Rn_op'; (exact rfl)) | (refine Rn_o_nil ?_) | ((first | apply Rn_g | apply Rd_g); (exact rfl); (exact rfl); (focus (intro K0; (try simp only [lookT, ev, Nat.reduceEqDiff, ↓reduceIte]); exact ⟨id⟩))) | (with_reducible (first | apply RnG_yes | apply RdG_yes)) | ((with_reducible (first | apply RnG_t_no | apply RnG_f_no | apply RnG_un | apply RdG_t_no | apply RdG_f_no | apply RdG_un)); (exact rfl)) | ((first | apply RnG_never | apply RdG_never); (focus (intro K0; (try simp only [go_sem]); exact ⟨id⟩)); (exact rfl)) | ((first | apply RnG_lazy | apply RdG_lazy); (exact rfl); (focus (intro K0; (try simp only [go_sem]); exact ⟨id⟩)); (focus (first | (simp only [Nat.reduceLT]; done) | omega)); (focus (intro hw0; (try simp only [Bool.and_eq_true, Bool.not_eq_true', beq_true', beq_false'] at hw0); (focus (intro K0; (try simp only [go_sem, *]); (first | exact ⟨id⟩ | (refine ⟨fun h => ?_⟩; (repeat' (first | exact h | refine And.intro ?_ ?_ | omega | rfl)); done))))))) | (apply Rn_c; (focus (intro K0; (try simp only [lookT, ev, Nat.reduceEqDiff, ↓reduceIte]); exact ⟨id⟩))) | (with_reducible (first | refine RnC_t ?_ | refine RnC_f ?_)) | (refine Rn_skip ?_) | (refine Rn_exit rfl ?_) | (refine Rn_b ?_) | (apply Rn_draw' lv5; (exact rfl)) | (refine Rn_draw ?_) | (apply Rd_op'; (exact rfl)) | (refine Rd_nil (by kernel_rfl) ?_) | ((with_reducible (first | refine RnG_split (fun h => ?_) (fun h => ?_) | refine RdG_split (fun h => ?_) (fun h => ?_) | refine RnC_split (fun h => ?_) (fun h => ?_))) <;> (have h' := h) <;> (try simp only [decide_eq_true_eq, decide_eq_false_iff_not, Bool.not_eq_true', Bool.not_eq_false', Bool.and_eq_true, Bool.or_eq_true, Bool.or_eq_false_iff, beq_iff_eq, bne_iff_ne, ne_eq, Bool.not_true, Bool.not_false, not_false_eq_true, reduceCtorEq, beq_eq_false_iff_ne, bne_eq_false_iff_eq] at h') <;> (first | apply Rn_st | apply Rd_st)) | (refine Rn_out_ck rfl rfl ?_) | (first | refine Rn_ret_ck ?_ | refine Rn_ret ?_ | refine Rn_nil_then ?_) | (refine LoopN_step (T := [ct_Tries', ct_codeLives]) ?_) | (refine Rn_nil ?_))
    all_goals (try simp only [go_sem])

theorem dead_yes (p : ProgT) (k : Nat) (hw : Pwf p) (W : WT) (hT : TriesF p 0 = (W.out, W.seen, 0)) (hk : k < W.seen.length) (hs : W.seen.getD k false = true) : FC Cx 5 [progV p, Iv k] [] (Bv true) [] := by
  have ls : (W.seen.map boolR).length = W.seen.length := List.length_map ..
  have t1 : Int.toNat (k : Int) = k := by omega
  have d0 : decide ((k : Int) < 0) = false := by rw [decide_eq_false_iff_not]; omega
  have d1 : decide ((W.seen.length : Int) ≤ (k : Int)) = false := by rw [decide_eq_false_iff_not]; omega
  have e1 : W.seen[k]? = some W.seen[k] := List.getElem?_eq_getElem hk
  have g1 : (W.seen.map boolR).getD k [] = boolR true := by
    rw [getD_map boolR e1]; simp [List.getD, e1] at hs; rw [hs]
  refine FCp_of [ct_Tries', ct_codeLives] Tryd.func5 rfl Tryd.ntmps5 (by simp) Tryd.results5 rfl ?_
  apply Rn_st; (intro K0; simp only [go_sem]; exact ⟨id⟩)
  repeat' (first | (focus (intro K0; (try simp only [go_sem, *]); (first | exact ⟨id⟩ | (refine ⟨fun h => ?_⟩; (repeat' (first | exact h | refine And.intro ?_ ?_ | omega | rfl)); done)))) | (refine Rn_seq ?_) | (refine Rn_block ?_) | (apply Rn_region' lv5; (exact rfl)) | (refine Rn_region ?_) | (apply Rn_op'; (exact rfl)) | (refine Rn_o_nil ?_) | ((first | apply Rn_g | apply Rd_g); (exact rfl); (exact rfl); (focus (intro K0; (try simp only [lookT, ev, Nat.reduceEqDiff, ↓reduceIte]); exact ⟨id⟩))) | (with_reducible (first | apply RnG_yes | apply RdG_yes)) | ((with_reducible (first | apply RnG_t_no | apply RnG_f_no | apply RnG_un | apply RdG_t_no | apply RdG_f_no | apply RdG_un)); (exact rfl)) | ((first | apply RnG_never | apply RdG_never); (focus (intro K0; (try simp only [go_sem]); exact ⟨id⟩)); (exact rfl)) | ((first | apply RnG_lazy | apply RdG_lazy); (exact rfl); (focus (intro K0; (try simp only [go_sem]); exact ⟨id⟩)); (focus (first | (simp only [Nat.reduceLT]; done) | omega)); (focus (intro hw0; (try simp only [Bool.and_eq_true, Bool.not_eq_true', beq_true', beq_false'] at hw0); (focus (intro K0; (try simp only [go_sem, *]); (first | exact ⟨id⟩ | (refine ⟨fun h => ?_⟩; (repeat' (first | exact h | refine And.intro ?_ ?_ | omega | rfl)); done))))))) | (apply Rn_c; (focus (intro K0; (try simp only [lookT, ev, Nat.reduceEqDiff, ↓reduceIte]); exact ⟨id⟩))) | (with_reducible (first | refine RnC_t ?_ | refine RnC_f ?_)) | (refine Rn_skip ?_) | (refine Rn_exit rfl ?_) | (refine Rn_b ?_) | (apply Rn_draw' lv5; (exact rfl)) | (refine Rn_draw ?_) | (apply Rd_op'; (exact rfl)) | (refine Rd_nil (by kernel_rfl) ?_) | ((with_reducible (first | refine RnG_split (fun h => ?_) (fun h => ?_) | refine RdG_split (fun h => ?_) (fun h => ?_) | refine RnC_split (fun h => ?_) (fun h => ?_))) <;> (have h' := h) <;> (try simp only [decide_eq_true_eq, decide_eq_false_iff_not, Bool.not_eq_true', Bool.not_eq_false', Bool.and_eq_true, Bool.or_eq_true, Bool.or_eq_false_iff, beq_iff_eq, bne_iff_ne, ne_eq, Bool.not_true, Bool.not_false, not_false_eq_true, reduceCtorEq, beq_eq_false_iff_ne, bne_eq_false_iff_eq] at h') <;> (first | apply Rn_st | apply Rd_st)) | (refine Rn_out_ck rfl rfl ?_) | (first | refine Rn_ret_ck ?_ | refine Rn_ret ?_ | refine Rn_nil_then ?_) | (refine LoopN_step (T := [ct_Tries', ct_codeLives]) ?_) | (refine Rn_nil ?_))
  all_goals (try simp only [go_sem])

theorem dead_go (f0 : FnT) (rest : List FnT) (cs : List (Int × Int)) (ts : List ByteArray) (k : Nat) (W : WT) (hw : Pwf ⟨f0 :: rest, cs, ts⟩) (hw' : Pwf ⟨⟨f0.params, f0.regs, f0.gen, f0.caught, f0.code.set k endI⟩ :: rest, cs, ts⟩)
    (hT : TriesF ⟨f0 :: rest, cs, ts⟩ 0 = (W.out, W.seen, 0)) (hk : k < f0.code.length) (hls : W.seen.length = f0.code.length) (hn60 : rest.length + 1 ≤ 60) (hn600 : f0.code.length ≤ 600) (hs : W.seen.getD k false = false) (hc : checkF ⟨⟨f0.params, f0.regs, f0.gen, f0.caught, f0.code.set k endI⟩ :: rest, cs, ts⟩ = 0) :
    FC Cx 5 [progV ⟨f0 :: rest, cs, ts⟩, Iv k] [] (Bv true) [] := by
  have ls : (W.seen.map boolR).length = f0.code.length := by rw [List.length_map, hls]
  have ls' : W.seen.length = f0.code.length := hls
  have lr : (rest.map fnR).length = rest.length := List.length_map ..
  have lr' : (rest.map fnC).length = rest.length := List.length_map ..
  have li : (f0.code.map insR).length = f0.code.length := List.length_map ..
  have li' : (f0.code.map insC).length = f0.code.length := List.length_map ..
  have t1 : Int.toNat (k : Int) = k := by omega
  have d0 : decide ((k : Int) < 0) = false := by rw [decide_eq_false_iff_not]; omega
  have d1 : decide ((f0.code.length : Int) ≤ (k : Int)) = false := by rw [decide_eq_false_iff_not]; omega
  have e1 : W.seen[k]? = some (W.seen[k]'(by omega)) := List.getElem?_eq_getElem (by omega)
  have g1 : (W.seen.map boolR).getD k [] = boolR false := by
    rw [getD_map boolR e1]; simp [List.getD, e1] at hs; rw [hs]
  have s1 : (f0.code.map insC).set k [Iv 31, Iv 0, Iv 0, Iv 0, Iv 0] = (f0.code.set k endI).map insC := set_map insC f0.code k endI
  have bk : (k : Int) < (f0.code.length : Int) := by omega
  have sp1 : splice ((f0.code.map insC).getD k []) 0 [Iv 31, Iv 0, Iv 0, Iv 0, Iv 0] = [Iv 31, Iv 0, Iv 0, Iv 0, Iv 0] := by
    rw [List.getD, List.getElem?_map, List.getElem?_eq_getElem hk]; rfl
  have s2 : ([.v (.int .i64 f0.params), .v (.int .i64 f0.regs), .v (.bool f0.gen), .rs 1 (f0.caught.map intR), .rs 5 ((f0.code.set k endI).map insR)] :: rest.map fnR : List (List RV)) = fnR ⟨f0.params, f0.regs, f0.gen, f0.caught, f0.code.set k endI⟩ :: rest.map fnR := rfl
  clear e1 hls
  refine FCp_of [ct_Tries', ct_codeLives, ct_cloneFnP, ct_cloneInsP, ct_check'] Tryd.func5 rfl Tryd.ntmps5 (by simp) Tryd.results5 rfl ?_
  apply Rn_st; (intro K0; simp only [go_sem]; exact ⟨id⟩)
  repeat' (first | (focus (intro K0; (try simp only [go_sem, *]); (first | exact ⟨id⟩ | (refine ⟨fun h => ?_⟩; (repeat' (first | exact h | refine And.intro ?_ ?_ | omega | rfl)); done)))) | (refine Rn_seq ?_) | (refine Rn_block ?_) | (apply Rn_region' lv5; (exact rfl)) | (refine Rn_region ?_) | (apply Rn_op'; (exact rfl)) | (refine Rn_o_nil ?_) | ((first | apply Rn_g | apply Rd_g); (exact rfl); (exact rfl); (focus (intro K0; (try simp only [lookT, ev, Nat.reduceEqDiff, ↓reduceIte]); exact ⟨id⟩))) | (with_reducible (first | apply RnG_yes | apply RdG_yes)) | ((with_reducible (first | apply RnG_t_no | apply RnG_f_no | apply RnG_un | apply RdG_t_no | apply RdG_f_no | apply RdG_un)); (exact rfl)) | ((first | apply RnG_never | apply RdG_never); (focus (intro K0; (try simp only [go_sem]); exact ⟨id⟩)); (exact rfl)) | ((first | apply RnG_lazy | apply RdG_lazy); (exact rfl); (focus (intro K0; (try simp only [go_sem]); exact ⟨id⟩)); (focus (first | (simp only [Nat.reduceLT]; done) | omega)); (focus (intro hw0; (try simp only [Bool.and_eq_true, Bool.not_eq_true', beq_true', beq_false'] at hw0); (focus (intro K0; (try simp only [go_sem, *]); (first | exact ⟨id⟩ | (refine ⟨fun h => ?_⟩; (repeat' (first | exact h | refine And.intro ?_ ?_ | omega | rfl)); done))))))) | (apply Rn_c; (focus (intro K0; (try simp only [lookT, ev, Nat.reduceEqDiff, ↓reduceIte]); exact ⟨id⟩))) | (with_reducible (first | refine RnC_t ?_ | refine RnC_f ?_)) | (refine Rn_skip ?_) | (refine Rn_exit rfl ?_) | (refine Rn_b ?_) | (apply Rn_draw' lv5; (exact rfl)) | (refine Rn_draw ?_) | (apply Rd_op'; (exact rfl)) | (refine Rd_nil (by kernel_rfl) ?_) | ((with_reducible (first | refine RnG_split (fun h => ?_) (fun h => ?_) | refine RdG_split (fun h => ?_) (fun h => ?_) | refine RnC_split (fun h => ?_) (fun h => ?_))) <;> (have h' := h) <;> (try simp only [decide_eq_true_eq, decide_eq_false_iff_not, Bool.not_eq_true', Bool.not_eq_false', Bool.and_eq_true, Bool.or_eq_true, Bool.or_eq_false_iff, beq_iff_eq, bne_iff_ne, ne_eq, Bool.not_true, Bool.not_false, not_false_eq_true, reduceCtorEq, beq_eq_false_iff_ne, bne_eq_false_iff_eq] at h') <;> (first | apply Rn_st | apply Rd_st)) | (refine Rn_out_ck rfl rfl ?_) | (first | refine Rn_ret_ck ?_ | refine Rn_ret ?_ | refine Rn_nil_then ?_) | (refine LoopN_step (T := [ct_Tries', ct_codeLives, ct_cloneFnP, ct_cloneInsP, ct_check']) ?_) | (refine Rn_nil ?_))
  all_goals (try simp only [go_sem])

end Go.Proofs.YtjbhpoolghfhiaaDoor
