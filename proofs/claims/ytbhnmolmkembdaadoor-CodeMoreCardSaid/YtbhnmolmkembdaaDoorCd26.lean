/- The library's clones and search for CodeMore (not beside Cd22: the same names). No condition: contracts. -/
import Derived.Test.YtbhnmolmkembdaaDoorCd25
namespace Go.Proofs.YtbhnmolmkembdaaDoor
set_option linter.unusedVariables false
set_option linter.unusedSimpArgs false
set_option maxHeartbeats 10000000
open Go
set_option maxRecDepth 10000



/-- How calls of this function are met. -/
def sp_codeLives (args : List AV) (K : AV → Prop) : Prop := match args with
  | [] => K (Bv true)
  | _ => False
theorem sp_codeLives_ok (args : List AV) (K : AV → Prop) (h : sp_codeLives args K) : ∃ r, CallOk Cx 5 args r ∧ K r := by
  unfold sp_codeLives at h
  split at h
  · exact ⟨_, CallOk_of (codeLives_c) en5 rfl rfl, h⟩
  · exact h.elim
noncomputable def ct_codeLives : Ct Cx := .pure 5 sp_codeLives sp_codeLives_ok
@[go_sem] theorem ct_codeLives_g : ct_codeLives.g = 5 := rfl
@[go_sem] theorem ct_codeLives_run (c : Call) (fop : Operand) (caps : List RV) (o : Oper) (st : St) (K : List Loc → List (Loc × Cont) → Prop) : ct_codeLives.run c fop caps o st K = callT Cx sp_codeLives c fop caps o st K := rfl
@[go_sem] theorem sp_codeLives_eq (args : List AV) (K : AV → Prop) : sp_codeLives args K = (match args with
    | [] => K (Bv true)
    | _ => False) := rfl
abbrev fnC (f : FnT) : List AV := [Iv f.params, Iv f.regs, Bv f.gen, intsV f.caught, inssV f.code]
abbrev valC (v : Int × Int) : List AV := [Iv v.1, Iv v.2]
abbrev strC (s : ByteArray) : List AV := [Sv s]
theorem flatFnC (l : List FnT) : ∀ row ∈ l.map fnC, withinL none0 row = true := fun row h => by
  obtain ⟨x, _, rfl⟩ := List.mem_map.1 h; rfl
@[go_sem] theorem okFnC : ∀ l : List FnT, okRows (l.map fnC) = true
  | [] => rfl
  | x :: l => okFnC l
@[go_sem] theorem roFnC (l : List FnT) : ((l.map fnR).map fun r => r.map AV.r) = l.map fnC := by rw [List.map_map]; rfl
theorem cloneFnP_rows (xs : List (List RV)) : ∀ row ∈ (fnsOf xs).map fnC, withinL none0 row = true := flatFnC _
theorem cloneFnP_c (xs : List (List RV)) (h : xs = (fnsOf xs).map fnR ∧ xs.length ≤ 1000000000) : FC Cx 6 [.r (.rs 5 xs)] [] (.os 0 1) [(0, 1, .sl 33 5 ((fnsOf xs).map fnC))] := by
  have hl : (fnsOf xs).length = xs.length := by simp [fnsOf]
  have hlenS : ∀ l : List FnT, (l.map fnC).length = l.length := fun l => List.length_map ..
  obtain ⟨h1, h2⟩ := h
  generalize fnsOf xs = l at h1 hl
  subst h1
  rw [← hl] at h2
  refine FCo_of [] (i := 0) [.os 0 1] Tryd.func6 rfl Tryd.ntmps6 (by simp) Tryd.results6 (flatFnC _) ?_
  apply Rn_st; (intro K0; simp only [go_sem]; exact ⟨id⟩)
  iterate 8 (any_goals (first | (focus (intro K0; (try simp only [go_sem, *]); (first | exact ⟨id⟩ | (refine ⟨fun h => ?_⟩; (repeat' (first | exact h | refine And.intro ?_ ?_ | omega | rfl)); done)))) | (refine Rn_seq ?_) | (refine Rn_block ?_) | (apply Rn_region' lv6; (exact rfl)) | (refine Rn_region ?_) | (apply Rn_op'; (exact rfl)) | (refine Rn_o_nil ?_) | ((first | apply Rn_g | apply Rd_g); (exact rfl); (exact rfl); (focus (intro K0; (try simp only [lookT, ev, Nat.reduceEqDiff, ↓reduceIte]); exact ⟨id⟩))) | (with_reducible (first | apply RnG_yes | apply RdG_yes)) | ((with_reducible (first | apply RnG_t_no | apply RnG_f_no | apply RnG_un | apply RdG_t_no | apply RdG_f_no | apply RdG_un)); (exact rfl)) | ((first | apply RnG_never | apply RdG_never); (focus (intro K0; (try simp only [go_sem]); exact ⟨id⟩)); (exact rfl)) | ((first | apply RnG_lazy | apply RdG_lazy); (exact rfl); (focus (intro K0; (try simp only [go_sem]); exact ⟨id⟩)); (focus (first | (simp only [Nat.reduceLT]; done) | omega)); (focus (intro hw0; (try simp only [Bool.and_eq_true, Bool.not_eq_true', beq_true', beq_false'] at hw0); (focus (intro K0; (try simp only [go_sem, *]); (first | exact ⟨id⟩ | (refine ⟨fun h => ?_⟩; (repeat' (first | exact h | refine And.intro ?_ ?_ | omega | rfl)); done))))))) | (apply Rn_c; (focus (intro K0; (try simp only [lookT, ev, Nat.reduceEqDiff, ↓reduceIte]); exact ⟨id⟩))) | (with_reducible (first | refine RnC_t ?_ | refine RnC_f ?_)) | (refine Rn_skip ?_) | (refine Rn_exit rfl ?_) | (refine Rn_b ?_) | (apply Rn_draw' lv6; (exact rfl)) | (refine Rn_draw ?_) | (apply Rd_op'; (exact rfl)) | (refine Rd_nil (by kernel_rfl) ?_) | ((with_reducible (first | refine RnG_split (fun h => ?_) (fun h => ?_) | refine RdG_split (fun h => ?_) (fun h => ?_) | refine RnC_split (fun h => ?_) (fun h => ?_))) <;> (have h' := h) <;> (try simp only [decide_eq_true_eq, decide_eq_false_iff_not, Bool.not_eq_true', Bool.not_eq_false', Bool.and_eq_true, Bool.or_eq_true, Bool.or_eq_false_iff, beq_iff_eq, bne_iff_ne, ne_eq, Bool.not_true, Bool.not_false, not_false_eq_true, reduceCtorEq, beq_eq_false_iff_ne, bne_eq_false_iff_eq] at h') <;> (first | apply Rn_st | apply Rd_st)) | (refine Rn_out_ck rfl rfl ?_) | (first | refine Rn_ret_ck ?_ | refine Rn_ret ?_ | refine Rn_nil_then ?_) | (refine LoopN_step (T := []) ?_) | (refine Rn_nil ?_)))
  · intro K0; (try simp only [go_sem]); exact ⟨id⟩
  refine Rn_isnil (sz := 5) rfl (.inl rfl) rfl rfl (Nat.le_of_ble_eq_true rfl) rfl rfl (by kernel_rfl) (fun q hq => ?_)
  apply Rn_o_st
  · intro K0; (try simp only [go_sem]); exact ⟨id⟩
  cases q with
  | true =>
    have h0 : l = [] := by have := hq rfl; simpa using this
    subst h0
    repeat' (first | (focus (intro K0; (try simp only [go_sem, *]); (first | exact ⟨id⟩ | (refine ⟨fun h => ?_⟩; (repeat' (first | exact h | refine And.intro ?_ ?_ | omega | rfl)); done)))) | (refine Rn_seq ?_) | (refine Rn_block ?_) | (apply Rn_region' lv6; (exact rfl)) | (refine Rn_region ?_) | (apply Rn_op'; (exact rfl)) | (refine Rn_o_nil ?_) | ((first | apply Rn_g | apply Rd_g); (exact rfl); (exact rfl); (focus (intro K0; (try simp only [lookT, ev, Nat.reduceEqDiff, ↓reduceIte]); exact ⟨id⟩))) | (with_reducible (first | apply RnG_yes | apply RdG_yes)) | ((with_reducible (first | apply RnG_t_no | apply RnG_f_no | apply RnG_un | apply RdG_t_no | apply RdG_f_no | apply RdG_un)); (exact rfl)) | ((first | apply RnG_never | apply RdG_never); (focus (intro K0; (try simp only [go_sem]); exact ⟨id⟩)); (exact rfl)) | ((first | apply RnG_lazy | apply RdG_lazy); (exact rfl); (focus (intro K0; (try simp only [go_sem]); exact ⟨id⟩)); (focus (first | (simp only [Nat.reduceLT]; done) | omega)); (focus (intro hw0; (try simp only [Bool.and_eq_true, Bool.not_eq_true', beq_true', beq_false'] at hw0); (focus (intro K0; (try simp only [go_sem, *]); (first | exact ⟨id⟩ | (refine ⟨fun h => ?_⟩; (repeat' (first | exact h | refine And.intro ?_ ?_ | omega | rfl)); done))))))) | (apply Rn_c; (focus (intro K0; (try simp only [lookT, ev, Nat.reduceEqDiff, ↓reduceIte]); exact ⟨id⟩))) | (with_reducible (first | refine RnC_t ?_ | refine RnC_f ?_)) | (refine Rn_skip ?_) | (refine Rn_exit rfl ?_) | (refine Rn_b ?_) | (apply Rn_draw' lv6; (exact rfl)) | (refine Rn_draw ?_) | (apply Rd_op'; (exact rfl)) | (refine Rd_nil (by kernel_rfl) ?_) | ((with_reducible (first | refine RnG_split (fun h => ?_) (fun h => ?_) | refine RdG_split (fun h => ?_) (fun h => ?_) | refine RnC_split (fun h => ?_) (fun h => ?_))) <;> (have h' := h) <;> (try simp only [decide_eq_true_eq, decide_eq_false_iff_not, Bool.not_eq_true', Bool.not_eq_false', Bool.and_eq_true, Bool.or_eq_true, Bool.or_eq_false_iff, beq_iff_eq, bne_iff_ne, ne_eq, Bool.not_true, Bool.not_false, not_false_eq_true, reduceCtorEq, beq_eq_false_iff_ne, bne_eq_false_iff_eq] at h') <;> (first | apply Rn_st | apply Rd_st)) | (refine Rn_out_ck rfl rfl ?_) | (first | refine Rn_ret_ck ?_ | refine Rn_ret ?_ | refine Rn_nil_then ?_) | (refine LoopN_step (T := []) ?_) | (refine Rn_nil ?_))
    all_goals (try simp only [go_sem])
  | false =>
    clear hq
    repeat' (first | (focus (intro K0; (try simp only [go_sem, *]); (first | exact ⟨id⟩ | (refine ⟨fun h => ?_⟩; (repeat' (first | exact h | refine And.intro ?_ ?_ | omega | rfl)); done)))) | (refine Rn_seq ?_) | (refine Rn_block ?_) | (apply Rn_region' lv6; (exact rfl)) | (refine Rn_region ?_) | (apply Rn_op'; (exact rfl)) | (refine Rn_o_nil ?_) | ((first | apply Rn_g | apply Rd_g); (exact rfl); (exact rfl); (focus (intro K0; (try simp only [lookT, ev, Nat.reduceEqDiff, ↓reduceIte]); exact ⟨id⟩))) | (with_reducible (first | apply RnG_yes | apply RdG_yes)) | ((with_reducible (first | apply RnG_t_no | apply RnG_f_no | apply RnG_un | apply RdG_t_no | apply RdG_f_no | apply RdG_un)); (exact rfl)) | ((first | apply RnG_never | apply RdG_never); (focus (intro K0; (try simp only [go_sem]); exact ⟨id⟩)); (exact rfl)) | ((first | apply RnG_lazy | apply RdG_lazy); (exact rfl); (focus (intro K0; (try simp only [go_sem]); exact ⟨id⟩)); (focus (first | (simp only [Nat.reduceLT]; done) | omega)); (focus (intro hw0; (try simp only [Bool.and_eq_true, Bool.not_eq_true', beq_true', beq_false'] at hw0); (focus (intro K0; (try simp only [go_sem, *]); (first | exact ⟨id⟩ | (refine ⟨fun h => ?_⟩; (repeat' (first | exact h | refine And.intro ?_ ?_ | omega | rfl)); done))))))) | (apply Rn_c; (focus (intro K0; (try simp only [lookT, ev, Nat.reduceEqDiff, ↓reduceIte]); exact ⟨id⟩))) | (with_reducible (first | refine RnC_t ?_ | refine RnC_f ?_)) | (refine Rn_skip ?_) | (refine Rn_exit rfl ?_) | (refine Rn_b ?_) | (apply Rn_draw' lv6; (exact rfl)) | (refine Rn_draw ?_) | (apply Rd_op'; (exact rfl)) | (refine Rd_nil (by kernel_rfl) ?_) | ((with_reducible (first | refine RnG_split (fun h => ?_) (fun h => ?_) | refine RdG_split (fun h => ?_) (fun h => ?_) | refine RnC_split (fun h => ?_) (fun h => ?_))) <;> (have h' := h) <;> (try simp only [decide_eq_true_eq, decide_eq_false_iff_not, Bool.not_eq_true', Bool.not_eq_false', Bool.and_eq_true, Bool.or_eq_true, Bool.or_eq_false_iff, beq_iff_eq, bne_iff_ne, ne_eq, Bool.not_true, Bool.not_false, not_false_eq_true, reduceCtorEq, beq_eq_false_iff_ne, bne_eq_false_iff_eq] at h') <;> (first | apply Rn_st | apply Rd_st)) | (refine Rn_out_ck rfl rfl ?_) | (first | refine Rn_ret_ck ?_ | refine Rn_ret ?_ | refine Rn_nil_then ?_) | (refine LoopN_step (T := []) ?_) | (refine Rn_nil ?_))
    all_goals (try simp only [go_sem])
/-- How calls of this function are met. -/
def sp_cloneFnP (st : St) (d : Nat) (args : List AV) (K : AV → List Loc → List (Loc × Cont) → Prop) : Prop := match args with
  | [.r (.rs 5 xs)] => (xs = (fnsOf xs).map fnR ∧ xs.length ≤ 1000000000) ∧ K (ren (fun _ => d) (fun _ => st.cur d) (.os 0 1)) [.R d] [(.R d, .s (1 + st.cur d) (.sl 33 5 ((fnsOf xs).map fnC)))]
  | _ => False
theorem sp_cloneFnP_ok (st : St) (d : Nat) (args : List AV) (K : AV → List Loc → List (Loc × Cont) → Prop) (h : sp_cloneFnP st d args K) : ∃ r ls outs, CallR Cx 6 st args r ls outs ∧ K r ls outs := by
  unfold sp_cloneFnP at h
  split at h
  · exact ⟨_, _, _, CallR.own (cloneFnP_c _ h.1) rfl (cloneFnP_rows _) rfl d, h.2⟩
  · exact h.elim
noncomputable def ct_cloneFnP : Ct Cx := .res 6 sp_cloneFnP en6 sp_cloneFnP_ok
@[go_sem] theorem ct_cloneFnP_g : ct_cloneFnP.g = 6 := rfl
@[go_sem] theorem ct_cloneFnP_run (c : Call) (fop : Operand) (caps : List RV) (o : Oper) (st : St) (K : List Loc → List (Loc × Cont) → Prop) : ct_cloneFnP.run c fop caps o st K = callG sp_cloneFnP c fop caps o st K := rfl
@[go_sem] theorem sp_cloneFnP_eq (st : St) (d : Nat) (args : List AV) (K : AV → List Loc → List (Loc × Cont) → Prop) : sp_cloneFnP st d args K = (match args with
    | [.r (.rs 5 xs)] => (xs = (fnsOf xs).map fnR ∧ xs.length ≤ 1000000000) ∧ K (ren (fun _ => d) (fun _ => st.cur d) (.os 0 1)) [.R d] [(.R d, .s (1 + st.cur d) (.sl 33 5 ((fnsOf xs).map fnC)))]
    | _ => False) := rfl
theorem cloneFn_c (xs : List (List RV)) (h : xs = (fnsOf xs).map fnR ∧ xs.length ≤ 1000000000) : FC Cx 6 [.r (.rs 5 xs)] [] (fnsV (fnsOf xs)) [] := (cloneFnP_c xs h).freeze1 (roFnC _).symm
/-- How calls of this function are met. -/
def sp_cloneFn (args : List AV) (K : AV → Prop) : Prop := match args with
  | [.r (.rs 5 xs)] => (xs = (fnsOf xs).map fnR ∧ xs.length ≤ 1000000000) ∧ K (fnsV (fnsOf xs))
  | _ => False
theorem sp_cloneFn_ok (args : List AV) (K : AV → Prop) (h : sp_cloneFn args K) : ∃ r, CallOk Cx 6 args r ∧ K r := by
  unfold sp_cloneFn at h
  split at h
  · exact ⟨_, CallOk_of (cloneFn_c _ h.1) en6 rfl rfl, h.2⟩
  · exact h.elim
noncomputable def ct_cloneFn : Ct Cx := .pure 6 sp_cloneFn sp_cloneFn_ok
@[go_sem] theorem ct_cloneFn_g : ct_cloneFn.g = 6 := rfl
@[go_sem] theorem ct_cloneFn_run (c : Call) (fop : Operand) (caps : List RV) (o : Oper) (st : St) (K : List Loc → List (Loc × Cont) → Prop) : ct_cloneFn.run c fop caps o st K = callT Cx sp_cloneFn c fop caps o st K := rfl
@[go_sem] theorem sp_cloneFn_eq (args : List AV) (K : AV → Prop) : sp_cloneFn args K = (match args with
    | [.r (.rs 5 xs)] => (xs = (fnsOf xs).map fnR ∧ xs.length ≤ 1000000000) ∧ K (fnsV (fnsOf xs))
    | _ => False) := rfl

theorem flatValC (l : List (Int × Int)) : ∀ row ∈ l.map valC, withinL none0 row = true := fun row h => by
  obtain ⟨x, _, rfl⟩ := List.mem_map.1 h; rfl
@[go_sem] theorem okValC : ∀ l : List (Int × Int), okRows (l.map valC) = true
  | [] => rfl
  | x :: l => okValC l
@[go_sem] theorem roValC (l : List (Int × Int)) : ((l.map valR).map fun r => r.map AV.r) = l.map valC := by rw [List.map_map]; rfl
theorem cloneValP_rows (xs : List (List RV)) : ∀ row ∈ (valsOf xs).map valC, withinL none0 row = true := flatValC _
theorem cloneValP_c (xs : List (List RV)) (h : xs = (valsOf xs).map valR ∧ xs.length ≤ 1000000000) : FC Cx 7 [.r (.rs 2 xs)] [] (.os 0 1) [(0, 1, .sl 38 2 ((valsOf xs).map valC))] := by
  have hl : (valsOf xs).length = xs.length := by simp [valsOf]
  have hlenS : ∀ l : List (Int × Int), (l.map valC).length = l.length := fun l => List.length_map ..
  obtain ⟨h1, h2⟩ := h
  generalize valsOf xs = l at h1 hl
  subst h1
  rw [← hl] at h2
  refine FCo_of [] (i := 0) [.os 0 1] Tryd.func7 rfl Tryd.ntmps7 (by simp) Tryd.results7 (flatValC _) ?_
  apply Rn_st; (intro K0; simp only [go_sem]; exact ⟨id⟩)
  iterate 8 (any_goals (first | (focus (intro K0; (try simp only [go_sem, *]); (first | exact ⟨id⟩ | (refine ⟨fun h => ?_⟩; (repeat' (first | exact h | refine And.intro ?_ ?_ | omega | rfl)); done)))) | (refine Rn_seq ?_) | (refine Rn_block ?_) | (apply Rn_region' lv7; (exact rfl)) | (refine Rn_region ?_) | (apply Rn_op'; (exact rfl)) | (refine Rn_o_nil ?_) | ((first | apply Rn_g | apply Rd_g); (exact rfl); (exact rfl); (focus (intro K0; (try simp only [lookT, ev, Nat.reduceEqDiff, ↓reduceIte]); exact ⟨id⟩))) | (with_reducible (first | apply RnG_yes | apply RdG_yes)) | ((with_reducible (first | apply RnG_t_no | apply RnG_f_no | apply RnG_un | apply RdG_t_no | apply RdG_f_no | apply RdG_un)); (exact rfl)) | ((first | apply RnG_never | apply RdG_never); (focus (intro K0; (try simp only [go_sem]); exact ⟨id⟩)); (exact rfl)) | ((first | apply RnG_lazy | apply RdG_lazy); (exact rfl); (focus (intro K0; (try simp only [go_sem]); exact ⟨id⟩)); (focus (first | (simp only [Nat.reduceLT]; done) | omega)); (focus (intro hw0; (try simp only [Bool.and_eq_true, Bool.not_eq_true', beq_true', beq_false'] at hw0); (focus (intro K0; (try simp only [go_sem, *]); (first | exact ⟨id⟩ | (refine ⟨fun h => ?_⟩; (repeat' (first | exact h | refine And.intro ?_ ?_ | omega | rfl)); done))))))) | (apply Rn_c; (focus (intro K0; (try simp only [lookT, ev, Nat.reduceEqDiff, ↓reduceIte]); exact ⟨id⟩))) | (with_reducible (first | refine RnC_t ?_ | refine RnC_f ?_)) | (refine Rn_skip ?_) | (refine Rn_exit rfl ?_) | (refine Rn_b ?_) | (apply Rn_draw' lv7; (exact rfl)) | (refine Rn_draw ?_) | (apply Rd_op'; (exact rfl)) | (refine Rd_nil (by kernel_rfl) ?_) | ((with_reducible (first | refine RnG_split (fun h => ?_) (fun h => ?_) | refine RdG_split (fun h => ?_) (fun h => ?_) | refine RnC_split (fun h => ?_) (fun h => ?_))) <;> (have h' := h) <;> (try simp only [decide_eq_true_eq, decide_eq_false_iff_not, Bool.not_eq_true', Bool.not_eq_false', Bool.and_eq_true, Bool.or_eq_true, Bool.or_eq_false_iff, beq_iff_eq, bne_iff_ne, ne_eq, Bool.not_true, Bool.not_false, not_false_eq_true, reduceCtorEq, beq_eq_false_iff_ne, bne_eq_false_iff_eq] at h') <;> (first | apply Rn_st | apply Rd_st)) | (refine Rn_out_ck rfl rfl ?_) | (first | refine Rn_ret_ck ?_ | refine Rn_ret ?_ | refine Rn_nil_then ?_) | (refine LoopN_step (T := []) ?_) | (refine Rn_nil ?_)))
  · intro K0; (try simp only [go_sem]); exact ⟨id⟩
  refine Rn_isnil (sz := 2) rfl (.inl rfl) rfl rfl (Nat.le_of_ble_eq_true rfl) rfl rfl (by kernel_rfl) (fun q hq => ?_)
  apply Rn_o_st
  · intro K0; (try simp only [go_sem]); exact ⟨id⟩
  cases q with
  | true =>
    have h0 : l = [] := by have := hq rfl; simpa using this
    subst h0
    repeat' (first | (focus (intro K0; (try simp only [go_sem, *]); (first | exact ⟨id⟩ | (refine ⟨fun h => ?_⟩; (repeat' (first | exact h | refine And.intro ?_ ?_ | omega | rfl)); done)))) | (refine Rn_seq ?_) | (refine Rn_block ?_) | (apply Rn_region' lv7; (exact rfl)) | (refine Rn_region ?_) | (apply Rn_op'; (exact rfl)) | (refine Rn_o_nil ?_) | ((first | apply Rn_g | apply Rd_g); (exact rfl); (exact rfl); (focus (intro K0; (try simp only [lookT, ev, Nat.reduceEqDiff, ↓reduceIte]); exact ⟨id⟩))) | (with_reducible (first | apply RnG_yes | apply RdG_yes)) | ((with_reducible (first | apply RnG_t_no | apply RnG_f_no | apply RnG_un | apply RdG_t_no | apply RdG_f_no | apply RdG_un)); (exact rfl)) | ((first | apply RnG_never | apply RdG_never); (focus (intro K0; (try simp only [go_sem]); exact ⟨id⟩)); (exact rfl)) | ((first | apply RnG_lazy | apply RdG_lazy); (exact rfl); (focus (intro K0; (try simp only [go_sem]); exact ⟨id⟩)); (focus (first | (simp only [Nat.reduceLT]; done) | omega)); (focus (intro hw0; (try simp only [Bool.and_eq_true, Bool.not_eq_true', beq_true', beq_false'] at hw0); (focus (intro K0; (try simp only [go_sem, *]); (first | exact ⟨id⟩ | (refine ⟨fun h => ?_⟩; (repeat' (first | exact h | refine And.intro ?_ ?_ | omega | rfl)); done))))))) | (apply Rn_c; (focus (intro K0; (try simp only [lookT, ev, Nat.reduceEqDiff, ↓reduceIte]); exact ⟨id⟩))) | (with_reducible (first | refine RnC_t ?_ | refine RnC_f ?_)) | (refine Rn_skip ?_) | (refine Rn_exit rfl ?_) | (refine Rn_b ?_) | (apply Rn_draw' lv7; (exact rfl)) | (refine Rn_draw ?_) | (apply Rd_op'; (exact rfl)) | (refine Rd_nil (by kernel_rfl) ?_) | ((with_reducible (first | refine RnG_split (fun h => ?_) (fun h => ?_) | refine RdG_split (fun h => ?_) (fun h => ?_) | refine RnC_split (fun h => ?_) (fun h => ?_))) <;> (have h' := h) <;> (try simp only [decide_eq_true_eq, decide_eq_false_iff_not, Bool.not_eq_true', Bool.not_eq_false', Bool.and_eq_true, Bool.or_eq_true, Bool.or_eq_false_iff, beq_iff_eq, bne_iff_ne, ne_eq, Bool.not_true, Bool.not_false, not_false_eq_true, reduceCtorEq, beq_eq_false_iff_ne, bne_eq_false_iff_eq] at h') <;> (first | apply Rn_st | apply Rd_st)) | (refine Rn_out_ck rfl rfl ?_) | (first | refine Rn_ret_ck ?_ | refine Rn_ret ?_ | refine Rn_nil_then ?_) | (refine LoopN_step (T := []) ?_) | (refine Rn_nil ?_))
    all_goals (try simp only [go_sem])
  | false =>
    clear hq
    repeat' (first | (focus (intro K0; (try simp only [go_sem, *]); (first | exact ⟨id⟩ | (refine ⟨fun h => ?_⟩; (repeat' (first | exact h | refine And.intro ?_ ?_ | omega | rfl)); done)))) | (refine Rn_seq ?_) | (refine Rn_block ?_) | (apply Rn_region' lv7; (exact rfl)) | (refine Rn_region ?_) | (apply Rn_op'; (exact rfl)) | (refine Rn_o_nil ?_) | ((first | apply Rn_g | apply Rd_g); (exact rfl); (exact rfl); (focus (intro K0; (try simp only [lookT, ev, Nat.reduceEqDiff, ↓reduceIte]); exact ⟨id⟩))) | (with_reducible (first | apply RnG_yes | apply RdG_yes)) | ((with_reducible (first | apply RnG_t_no | apply RnG_f_no | apply RnG_un | apply RdG_t_no | apply RdG_f_no | apply RdG_un)); (exact rfl)) | ((first | apply RnG_never | apply RdG_never); (focus (intro K0; (try simp only [go_sem]); exact ⟨id⟩)); (exact rfl)) | ((first | apply RnG_lazy | apply RdG_lazy); (exact rfl); (focus (intro K0; (try simp only [go_sem]); exact ⟨id⟩)); (focus (first | (simp only [Nat.reduceLT]; done) | omega)); (focus (intro hw0; (try simp only [Bool.and_eq_true, Bool.not_eq_true', beq_true', beq_false'] at hw0); (focus (intro K0; (try simp only [go_sem, *]); (first | exact ⟨id⟩ | (refine ⟨fun h => ?_⟩; (repeat' (first | exact h | refine And.intro ?_ ?_ | omega | rfl)); done))))))) | (apply Rn_c; (focus (intro K0; (try simp only [lookT, ev, Nat.reduceEqDiff, ↓reduceIte]); exact ⟨id⟩))) | (with_reducible (first | refine RnC_t ?_ | refine RnC_f ?_)) | (refine Rn_skip ?_) | (refine Rn_exit rfl ?_) | (refine Rn_b ?_) | (apply Rn_draw' lv7; (exact rfl)) | (refine Rn_draw ?_) | (apply Rd_op'; (exact rfl)) | (refine Rd_nil (by kernel_rfl) ?_) | ((with_reducible (first | refine RnG_split (fun h => ?_) (fun h => ?_) | refine RdG_split (fun h => ?_) (fun h => ?_) | refine RnC_split (fun h => ?_) (fun h => ?_))) <;> (have h' := h) <;> (try simp only [decide_eq_true_eq, decide_eq_false_iff_not, Bool.not_eq_true', Bool.not_eq_false', Bool.and_eq_true, Bool.or_eq_true, Bool.or_eq_false_iff, beq_iff_eq, bne_iff_ne, ne_eq, Bool.not_true, Bool.not_false, not_false_eq_true, reduceCtorEq, beq_eq_false_iff_ne, bne_eq_false_iff_eq] at h') <;> (first | apply Rn_st | apply Rd_st)) | (refine Rn_out_ck rfl rfl ?_) | (first | refine Rn_ret_ck ?_ | refine Rn_ret ?_ | refine Rn_nil_then ?_) | (refine LoopN_step (T := []) ?_) | (refine Rn_nil ?_))
    all_goals (try simp only [go_sem])
/-- How calls of this function are met. -/
def sp_cloneValP (st : St) (d : Nat) (args : List AV) (K : AV → List Loc → List (Loc × Cont) → Prop) : Prop := match args with
  | [.r (.rs 2 xs)] => (xs = (valsOf xs).map valR ∧ xs.length ≤ 1000000000) ∧ K (ren (fun _ => d) (fun _ => st.cur d) (.os 0 1)) [.R d] [(.R d, .s (1 + st.cur d) (.sl 38 2 ((valsOf xs).map valC)))]
  | _ => False
theorem sp_cloneValP_ok (st : St) (d : Nat) (args : List AV) (K : AV → List Loc → List (Loc × Cont) → Prop) (h : sp_cloneValP st d args K) : ∃ r ls outs, CallR Cx 7 st args r ls outs ∧ K r ls outs := by
  unfold sp_cloneValP at h
  split at h
  · exact ⟨_, _, _, CallR.own (cloneValP_c _ h.1) rfl (cloneValP_rows _) rfl d, h.2⟩
  · exact h.elim
noncomputable def ct_cloneValP : Ct Cx := .res 7 sp_cloneValP en7 sp_cloneValP_ok
@[go_sem] theorem ct_cloneValP_g : ct_cloneValP.g = 7 := rfl
@[go_sem] theorem ct_cloneValP_run (c : Call) (fop : Operand) (caps : List RV) (o : Oper) (st : St) (K : List Loc → List (Loc × Cont) → Prop) : ct_cloneValP.run c fop caps o st K = callG sp_cloneValP c fop caps o st K := rfl
@[go_sem] theorem sp_cloneValP_eq (st : St) (d : Nat) (args : List AV) (K : AV → List Loc → List (Loc × Cont) → Prop) : sp_cloneValP st d args K = (match args with
    | [.r (.rs 2 xs)] => (xs = (valsOf xs).map valR ∧ xs.length ≤ 1000000000) ∧ K (ren (fun _ => d) (fun _ => st.cur d) (.os 0 1)) [.R d] [(.R d, .s (1 + st.cur d) (.sl 38 2 ((valsOf xs).map valC)))]
    | _ => False) := rfl
theorem cloneVal_c (xs : List (List RV)) (h : xs = (valsOf xs).map valR ∧ xs.length ≤ 1000000000) : FC Cx 7 [.r (.rs 2 xs)] [] (valsV (valsOf xs)) [] := (cloneValP_c xs h).freeze1 (roValC _).symm
/-- How calls of this function are met. -/
def sp_cloneVal (args : List AV) (K : AV → Prop) : Prop := match args with
  | [.r (.rs 2 xs)] => (xs = (valsOf xs).map valR ∧ xs.length ≤ 1000000000) ∧ K (valsV (valsOf xs))
  | _ => False
theorem sp_cloneVal_ok (args : List AV) (K : AV → Prop) (h : sp_cloneVal args K) : ∃ r, CallOk Cx 7 args r ∧ K r := by
  unfold sp_cloneVal at h
  split at h
  · exact ⟨_, CallOk_of (cloneVal_c _ h.1) en7 rfl rfl, h.2⟩
  · exact h.elim
noncomputable def ct_cloneVal : Ct Cx := .pure 7 sp_cloneVal sp_cloneVal_ok
@[go_sem] theorem ct_cloneVal_g : ct_cloneVal.g = 7 := rfl
@[go_sem] theorem ct_cloneVal_run (c : Call) (fop : Operand) (caps : List RV) (o : Oper) (st : St) (K : List Loc → List (Loc × Cont) → Prop) : ct_cloneVal.run c fop caps o st K = callT Cx sp_cloneVal c fop caps o st K := rfl
@[go_sem] theorem sp_cloneVal_eq (args : List AV) (K : AV → Prop) : sp_cloneVal args K = (match args with
    | [.r (.rs 2 xs)] => (xs = (valsOf xs).map valR ∧ xs.length ≤ 1000000000) ∧ K (valsV (valsOf xs))
    | _ => False) := rfl

theorem flatStrC (l : List ByteArray) : ∀ row ∈ l.map strC, withinL none0 row = true := fun row h => by
  obtain ⟨x, _, rfl⟩ := List.mem_map.1 h; rfl
@[go_sem] theorem okStrC : ∀ l : List ByteArray, okRows (l.map strC) = true
  | [] => rfl
  | x :: l => okStrC l
@[go_sem] theorem roStrC (l : List ByteArray) : ((l.map strR).map fun r => r.map AV.r) = l.map strC := by rw [List.map_map]; rfl
theorem cloneStrP_rows (xs : List (List RV)) : ∀ row ∈ (strsOf xs).map strC, withinL none0 row = true := flatStrC _
theorem cloneStrP_c (xs : List (List RV)) (h : xs = (strsOf xs).map strR ∧ xs.length ≤ 1000000000) : FC Cx 9 [.r (.rs 1 xs)] [] (.os 0 1) [(0, 1, .sl 9 1 ((strsOf xs).map strC))] := by
  have hl : (strsOf xs).length = xs.length := by simp [strsOf]
  have hlenS : ∀ l : List ByteArray, (l.map strC).length = l.length := fun l => List.length_map ..
  obtain ⟨h1, h2⟩ := h
  generalize strsOf xs = l at h1 hl
  subst h1
  rw [← hl] at h2
  refine FCo_of [] (i := 0) [.os 0 1] Tryd.func9 rfl Tryd.ntmps9 (by simp) Tryd.results9 (flatStrC _) ?_
  apply Rn_st; (intro K0; simp only [go_sem]; exact ⟨id⟩)
  iterate 8 (any_goals (first | (focus (intro K0; (try simp only [go_sem, *]); (first | exact ⟨id⟩ | (refine ⟨fun h => ?_⟩; (repeat' (first | exact h | refine And.intro ?_ ?_ | omega | rfl)); done)))) | (refine Rn_seq ?_) | (refine Rn_block ?_) | (apply Rn_region' lv9; (exact rfl)) | (refine Rn_region ?_) | (apply Rn_op'; (exact rfl)) | (refine Rn_o_nil ?_) | ((first | apply Rn_g | apply Rd_g); (exact rfl); (exact rfl); (focus (intro K0; (try simp only [lookT, ev, Nat.reduceEqDiff, ↓reduceIte]); exact ⟨id⟩))) | (with_reducible (first | apply RnG_yes | apply RdG_yes)) | ((with_reducible (first | apply RnG_t_no | apply RnG_f_no | apply RnG_un | apply RdG_t_no | apply RdG_f_no | apply RdG_un)); (exact rfl)) | ((first | apply RnG_never | apply RdG_never); (focus (intro K0; (try simp only [go_sem]); exact ⟨id⟩)); (exact rfl)) | ((first | apply RnG_lazy | apply RdG_lazy); (exact rfl); (focus (intro K0; (try simp only [go_sem]); exact ⟨id⟩)); (focus (first | (simp only [Nat.reduceLT]; done) | omega)); (focus (intro hw0; (try simp only [Bool.and_eq_true, Bool.not_eq_true', beq_true', beq_false'] at hw0); (focus (intro K0; (try simp only [go_sem, *]); (first | exact ⟨id⟩ | (refine ⟨fun h => ?_⟩; (repeat' (first | exact h | refine And.intro ?_ ?_ | omega | rfl)); done))))))) | (apply Rn_c; (focus (intro K0; (try simp only [lookT, ev, Nat.reduceEqDiff, ↓reduceIte]); exact ⟨id⟩))) | (with_reducible (first | refine RnC_t ?_ | refine RnC_f ?_)) | (refine Rn_skip ?_) | (refine Rn_exit rfl ?_) | (refine Rn_b ?_) | (apply Rn_draw' lv9; (exact rfl)) | (refine Rn_draw ?_) | (apply Rd_op'; (exact rfl)) | (refine Rd_nil (by kernel_rfl) ?_) | ((with_reducible (first | refine RnG_split (fun h => ?_) (fun h => ?_) | refine RdG_split (fun h => ?_) (fun h => ?_) | refine RnC_split (fun h => ?_) (fun h => ?_))) <;> (have h' := h) <;> (try simp only [decide_eq_true_eq, decide_eq_false_iff_not, Bool.not_eq_true', Bool.not_eq_false', Bool.and_eq_true, Bool.or_eq_true, Bool.or_eq_false_iff, beq_iff_eq, bne_iff_ne, ne_eq, Bool.not_true, Bool.not_false, not_false_eq_true, reduceCtorEq, beq_eq_false_iff_ne, bne_eq_false_iff_eq] at h') <;> (first | apply Rn_st | apply Rd_st)) | (refine Rn_out_ck rfl rfl ?_) | (first | refine Rn_ret_ck ?_ | refine Rn_ret ?_ | refine Rn_nil_then ?_) | (refine LoopN_step (T := []) ?_) | (refine Rn_nil ?_)))
  · intro K0; (try simp only [go_sem]); exact ⟨id⟩
  refine Rn_isnil (sz := 1) rfl (.inl rfl) rfl rfl (Nat.le_of_ble_eq_true rfl) rfl rfl (by kernel_rfl) (fun q hq => ?_)
  apply Rn_o_st
  · intro K0; (try simp only [go_sem]); exact ⟨id⟩
  cases q with
  | true =>
    have h0 : l = [] := by have := hq rfl; simpa using this
    subst h0
    repeat' (first | (focus (intro K0; (try simp only [go_sem, *]); (first | exact ⟨id⟩ | (refine ⟨fun h => ?_⟩; (repeat' (first | exact h | refine And.intro ?_ ?_ | omega | rfl)); done)))) | (refine Rn_seq ?_) | (refine Rn_block ?_) | (apply Rn_region' lv9; (exact rfl)) | (refine Rn_region ?_) | (apply Rn_op'; (exact rfl)) | (refine Rn_o_nil ?_) | ((first | apply Rn_g | apply Rd_g); (exact rfl); (exact rfl); (focus (intro K0; (try simp only [lookT, ev, Nat.reduceEqDiff, ↓reduceIte]); exact ⟨id⟩))) | (with_reducible (first | apply RnG_yes | apply RdG_yes)) | ((with_reducible (first | apply RnG_t_no | apply RnG_f_no | apply RnG_un | apply RdG_t_no | apply RdG_f_no | apply RdG_un)); (exact rfl)) | ((first | apply RnG_never | apply RdG_never); (focus (intro K0; (try simp only [go_sem]); exact ⟨id⟩)); (exact rfl)) | ((first | apply RnG_lazy | apply RdG_lazy); (exact rfl); (focus (intro K0; (try simp only [go_sem]); exact ⟨id⟩)); (focus (first | (simp only [Nat.reduceLT]; done) | omega)); (focus (intro hw0; (try simp only [Bool.and_eq_true, Bool.not_eq_true', beq_true', beq_false'] at hw0); (focus (intro K0; (try simp only [go_sem, *]); (first | exact ⟨id⟩ | (refine ⟨fun h => ?_⟩; (repeat' (first | exact h | refine And.intro ?_ ?_ | omega | rfl)); done))))))) | (apply Rn_c; (focus (intro K0; (try simp only [lookT, ev, Nat.reduceEqDiff, ↓reduceIte]); exact ⟨id⟩))) | (with_reducible (first | refine RnC_t ?_ | refine RnC_f ?_)) | (refine Rn_skip ?_) | (refine Rn_exit rfl ?_) | (refine Rn_b ?_) | (apply Rn_draw' lv9; (exact rfl)) | (refine Rn_draw ?_) | (apply Rd_op'; (exact rfl)) | (refine Rd_nil (by kernel_rfl) ?_) | ((with_reducible (first | refine RnG_split (fun h => ?_) (fun h => ?_) | refine RdG_split (fun h => ?_) (fun h => ?_) | refine RnC_split (fun h => ?_) (fun h => ?_))) <;> (have h' := h) <;> (try simp only [decide_eq_true_eq, decide_eq_false_iff_not, Bool.not_eq_true', Bool.not_eq_false', Bool.and_eq_true, Bool.or_eq_true, Bool.or_eq_false_iff, beq_iff_eq, bne_iff_ne, ne_eq, Bool.not_true, Bool.not_false, not_false_eq_true, reduceCtorEq, beq_eq_false_iff_ne, bne_eq_false_iff_eq] at h') <;> (first | apply Rn_st | apply Rd_st)) | (refine Rn_out_ck rfl rfl ?_) | (first | refine Rn_ret_ck ?_ | refine Rn_ret ?_ | refine Rn_nil_then ?_) | (refine LoopN_step (T := []) ?_) | (refine Rn_nil ?_))
    all_goals (try simp only [go_sem])
  | false =>
    clear hq
    repeat' (first | (focus (intro K0; (try simp only [go_sem, *]); (first | exact ⟨id⟩ | (refine ⟨fun h => ?_⟩; (repeat' (first | exact h | refine And.intro ?_ ?_ | omega | rfl)); done)))) | (refine Rn_seq ?_) | (refine Rn_block ?_) | (apply Rn_region' lv9; (exact rfl)) | (refine Rn_region ?_) | (apply Rn_op'; (exact rfl)) | (refine Rn_o_nil ?_) | ((first | apply Rn_g | apply Rd_g); (exact rfl); (exact rfl); (focus (intro K0; (try simp only [lookT, ev, Nat.reduceEqDiff, ↓reduceIte]); exact ⟨id⟩))) | (with_reducible (first | apply RnG_yes | apply RdG_yes)) | ((with_reducible (first | apply RnG_t_no | apply RnG_f_no | apply RnG_un | apply RdG_t_no | apply RdG_f_no | apply RdG_un)); (exact rfl)) | ((first | apply RnG_never | apply RdG_never); (focus (intro K0; (try simp only [go_sem]); exact ⟨id⟩)); (exact rfl)) | ((first | apply RnG_lazy | apply RdG_lazy); (exact rfl); (focus (intro K0; (try simp only [go_sem]); exact ⟨id⟩)); (focus (first | (simp only [Nat.reduceLT]; done) | omega)); (focus (intro hw0; (try simp only [Bool.and_eq_true, Bool.not_eq_true', beq_true', beq_false'] at hw0); (focus (intro K0; (try simp only [go_sem, *]); (first | exact ⟨id⟩ | (refine ⟨fun h => ?_⟩; (repeat' (first | exact h | refine And.intro ?_ ?_ | omega | rfl)); done))))))) | (apply Rn_c; (focus (intro K0; (try simp only [lookT, ev, Nat.reduceEqDiff, ↓reduceIte]); exact ⟨id⟩))) | (with_reducible (first | refine RnC_t ?_ | refine RnC_f ?_)) | (refine Rn_skip ?_) | (refine Rn_exit rfl ?_) | (refine Rn_b ?_) | (apply Rn_draw' lv9; (exact rfl)) | (refine Rn_draw ?_) | (apply Rd_op'; (exact rfl)) | (refine Rd_nil (by kernel_rfl) ?_) | ((with_reducible (first | refine RnG_split (fun h => ?_) (fun h => ?_) | refine RdG_split (fun h => ?_) (fun h => ?_) | refine RnC_split (fun h => ?_) (fun h => ?_))) <;> (have h' := h) <;> (try simp only [decide_eq_true_eq, decide_eq_false_iff_not, Bool.not_eq_true', Bool.not_eq_false', Bool.and_eq_true, Bool.or_eq_true, Bool.or_eq_false_iff, beq_iff_eq, bne_iff_ne, ne_eq, Bool.not_true, Bool.not_false, not_false_eq_true, reduceCtorEq, beq_eq_false_iff_ne, bne_eq_false_iff_eq] at h') <;> (first | apply Rn_st | apply Rd_st)) | (refine Rn_out_ck rfl rfl ?_) | (first | refine Rn_ret_ck ?_ | refine Rn_ret ?_ | refine Rn_nil_then ?_) | (refine LoopN_step (T := []) ?_) | (refine Rn_nil ?_))
    all_goals (try simp only [go_sem])
/-- How calls of this function are met. -/
def sp_cloneStrP (st : St) (d : Nat) (args : List AV) (K : AV → List Loc → List (Loc × Cont) → Prop) : Prop := match args with
  | [.r (.rs 1 xs)] => (xs = (strsOf xs).map strR ∧ xs.length ≤ 1000000000) ∧ K (ren (fun _ => d) (fun _ => st.cur d) (.os 0 1)) [.R d] [(.R d, .s (1 + st.cur d) (.sl 9 1 ((strsOf xs).map strC)))]
  | _ => False
theorem sp_cloneStrP_ok (st : St) (d : Nat) (args : List AV) (K : AV → List Loc → List (Loc × Cont) → Prop) (h : sp_cloneStrP st d args K) : ∃ r ls outs, CallR Cx 9 st args r ls outs ∧ K r ls outs := by
  unfold sp_cloneStrP at h
  split at h
  · exact ⟨_, _, _, CallR.own (cloneStrP_c _ h.1) rfl (cloneStrP_rows _) rfl d, h.2⟩
  · exact h.elim
noncomputable def ct_cloneStrP : Ct Cx := .res 9 sp_cloneStrP en9 sp_cloneStrP_ok
@[go_sem] theorem ct_cloneStrP_g : ct_cloneStrP.g = 9 := rfl
@[go_sem] theorem ct_cloneStrP_run (c : Call) (fop : Operand) (caps : List RV) (o : Oper) (st : St) (K : List Loc → List (Loc × Cont) → Prop) : ct_cloneStrP.run c fop caps o st K = callG sp_cloneStrP c fop caps o st K := rfl
@[go_sem] theorem sp_cloneStrP_eq (st : St) (d : Nat) (args : List AV) (K : AV → List Loc → List (Loc × Cont) → Prop) : sp_cloneStrP st d args K = (match args with
    | [.r (.rs 1 xs)] => (xs = (strsOf xs).map strR ∧ xs.length ≤ 1000000000) ∧ K (ren (fun _ => d) (fun _ => st.cur d) (.os 0 1)) [.R d] [(.R d, .s (1 + st.cur d) (.sl 9 1 ((strsOf xs).map strC)))]
    | _ => False) := rfl
theorem cloneStr_c (xs : List (List RV)) (h : xs = (strsOf xs).map strR ∧ xs.length ≤ 1000000000) : FC Cx 9 [.r (.rs 1 xs)] [] (strsV (strsOf xs)) [] := (cloneStrP_c xs h).freeze1 (roStrC _).symm
/-- How calls of this function are met. -/
def sp_cloneStr (args : List AV) (K : AV → Prop) : Prop := match args with
  | [.r (.rs 1 xs)] => (xs = (strsOf xs).map strR ∧ xs.length ≤ 1000000000) ∧ K (strsV (strsOf xs))
  | _ => False
theorem sp_cloneStr_ok (args : List AV) (K : AV → Prop) (h : sp_cloneStr args K) : ∃ r, CallOk Cx 9 args r ∧ K r := by
  unfold sp_cloneStr at h
  split at h
  · exact ⟨_, CallOk_of (cloneStr_c _ h.1) en9 rfl rfl, h.2⟩
  · exact h.elim
noncomputable def ct_cloneStr : Ct Cx := .pure 9 sp_cloneStr sp_cloneStr_ok
@[go_sem] theorem ct_cloneStr_g : ct_cloneStr.g = 9 := rfl
@[go_sem] theorem ct_cloneStr_run (c : Call) (fop : Operand) (caps : List RV) (o : Oper) (st : St) (K : List Loc → List (Loc × Cont) → Prop) : ct_cloneStr.run c fop caps o st K = callT Cx sp_cloneStr c fop caps o st K := rfl
@[go_sem] theorem sp_cloneStr_eq (args : List AV) (K : AV → Prop) : sp_cloneStr args K = (match args with
    | [.r (.rs 1 xs)] => (xs = (strsOf xs).map strR ∧ xs.length ≤ 1000000000) ∧ K (strsV (strsOf xs))
    | _ => False) := rfl

@[go_sem] theorem fnsOf_cons (k1 k2 : IntKind) (p g : Int) (b : Bool) (s s' : Nat) (cs is xs : List (List RV)) : fnsOf ([.v (.int k1 p), .v (.int k2 g), .v (.bool b), .rs s cs, .rs s' is] :: xs) = ⟨p, g, b, intsOf cs, inssOf is⟩ :: fnsOf xs := rfl
@[go_sem] theorem lendR_fn (n : Nat) (st : St) : ∀ (l : List FnT) (K : List Loc → List (List RV) → Prop), lendR (lendC n st) (l.map fnC) K = K [] (l.map fnR)
  | [], K => rfl
  | x :: l, K => by
    cases n <;> (simp only [List.map_cons, lendR, lendL, lendC]; rw [lendR_fn _ st l]; rfl)
@[go_sem] theorem lendR_val (n : Nat) (st : St) : ∀ (l : List (Int × Int)) (K : List Loc → List (List RV) → Prop), lendR (lendC n st) (l.map valC) K = K [] (l.map valR)
  | [], K => rfl
  | x :: l, K => by
    cases n <;> (simp only [List.map_cons, lendR, lendL, lendC]; rw [lendR_val _ st l]; rfl)
@[go_sem] theorem lendR_str (n : Nat) (st : St) : ∀ (l : List ByteArray) (K : List Loc → List (List RV) → Prop), lendR (lendC n st) (l.map strC) K = K [] (l.map strR)
  | [], K => rfl
  | x :: l, K => by
    cases n <;> (simp only [List.map_cons, lendR, lendL, lendC]; rw [lendR_str _ st l]; rfl)

theorem idxStr_c (l : List ByteArray) (s : ByteArray) (hl : l.length ≤ 9223372036854775807) : FC Cx 20 [strsV l, Sv s] [] (Iv (fidx (fun x => decide (s = x)) l)) [] := by
  have hlen : (l.map strR).length = l.length := List.length_map ..
  refine FCp_of [] Tryd.func20 rfl Tryd.ntmps20 (by simp) Tryd.results20 rfl ?_
  apply Rn_st; (intro K0; simp only [go_sem]; exact ⟨id⟩)
  repeat' (first | (focus (intro K0; (try simp only [go_sem, *]); (first | exact ⟨id⟩ | (refine ⟨fun h => ?_⟩; (repeat' (first | exact h | refine And.intro ?_ ?_ | omega | rfl)); done)))) | (refine Rn_seq ?_) | (refine Rn_block ?_) | (apply Rn_region' lv20; (exact rfl)) | (refine Rn_region ?_) | (apply Rn_op'; (exact rfl)) | (refine Rn_o_nil ?_) | ((first | apply Rn_g | apply Rd_g); (exact rfl); (exact rfl); (focus (intro K0; (try simp only [lookT, ev, Nat.reduceEqDiff, ↓reduceIte]); exact ⟨id⟩))) | (with_reducible (first | apply RnG_yes | apply RdG_yes)) | ((with_reducible (first | apply RnG_t_no | apply RnG_f_no | apply RnG_un | apply RdG_t_no | apply RdG_f_no | apply RdG_un)); (exact rfl)) | ((first | apply RnG_never | apply RdG_never); (focus (intro K0; (try simp only [go_sem]); exact ⟨id⟩)); (exact rfl)) | ((first | apply RnG_lazy | apply RdG_lazy); (exact rfl); (focus (intro K0; (try simp only [go_sem]); exact ⟨id⟩)); (focus (first | (simp only [Nat.reduceLT]; done) | omega)); (focus (intro hw0; (try simp only [Bool.and_eq_true, Bool.not_eq_true', beq_true', beq_false'] at hw0); (focus (intro K0; (try simp only [go_sem, *]); (first | exact ⟨id⟩ | (refine ⟨fun h => ?_⟩; (repeat' (first | exact h | refine And.intro ?_ ?_ | omega | rfl)); done))))))) | (apply Rn_c; (focus (intro K0; (try simp only [lookT, ev, Nat.reduceEqDiff, ↓reduceIte]); exact ⟨id⟩))) | (with_reducible (first | refine RnC_t ?_ | refine RnC_f ?_)) | (refine Rn_skip ?_) | (refine Rn_exit rfl ?_) | (refine Rn_b ?_) | (apply Rn_draw' lv20; (exact rfl)) | (refine Rn_draw ?_) | (apply Rd_op'; (exact rfl)) | (refine Rd_nil (by kernel_rfl) ?_) | ((with_reducible (first | refine RnG_split (fun h => ?_) (fun h => ?_) | refine RdG_split (fun h => ?_) (fun h => ?_) | refine RnC_split (fun h => ?_) (fun h => ?_))) <;> (have h' := h) <;> (try simp only [decide_eq_true_eq, decide_eq_false_iff_not, Bool.not_eq_true', Bool.not_eq_false', Bool.and_eq_true, Bool.or_eq_true, Bool.or_eq_false_iff, beq_iff_eq, bne_iff_ne, ne_eq, Bool.not_true, Bool.not_false, not_false_eq_true, reduceCtorEq, beq_eq_false_iff_ne, bne_eq_false_iff_eq] at h') <;> (first | apply Rn_st | apply Rd_st)) | (refine Rn_out_ck rfl rfl ?_) | (first | refine Rn_ret_ck ?_ | refine Rn_ret ?_ | refine Rn_nil_then ?_) | (refine LoopN_step (T := []) ?_) | (refine Rn_nil ?_))
  refine Rn_loopT [0, 1, 7, 8] (fun i => i ≤ l.length ∧ ∀ j x, j < i → l[j]? = some x → decide (s = x) = false) (fun (i : Nat) => ⟨19, [(0, strsV l), (1, Sv s), (7, Iv l.length), (8, Iv i)], []⟩) (fun i => l.length - i) 0 rfl (by rw [← hlen]; rfl) rfl ⟨Nat.zero_le _, fun j x hj => by omega⟩ ?_
  rintro i ⟨hi, hno⟩
  by_cases hlt : i < l.length
  · obtain ⟨x, hx⟩ : ∃ x, l[i]? = some x := ⟨l[i], List.getElem?_eq_getElem hlt⟩
    have hg := getD_map strR hx ([] : List RV)
    have hw : IntKind.i64.wrap ((i : Int) + 1) = ((i + 1 : Nat) : Int) := by rw [wrap_id] <;> omega
    have h1 : decide ((i : Int) < (l.length : Int)) = true := by rw [decide_eq_true_eq]; omega
    have h2 : Int.toNat (i : Int) = i := by omega
    cases hp : decide (s = x) with
    | true =>
      repeat' (first | (focus (intro K0; (try simp only [go_sem, *]); (first | exact ⟨id⟩ | (refine ⟨fun h => ?_⟩; (repeat' (first | exact h | refine And.intro ?_ ?_ | omega | rfl)); done)))) | (refine Rn_seq ?_) | (refine Rn_block ?_) | (apply Rn_region' lv20; (exact rfl)) | (refine Rn_region ?_) | (apply Rn_op'; (exact rfl)) | (refine Rn_o_nil ?_) | ((first | apply Rn_g | apply Rd_g); (exact rfl); (exact rfl); (focus (intro K0; (try simp only [lookT, ev, Nat.reduceEqDiff, ↓reduceIte]); exact ⟨id⟩))) | (with_reducible (first | apply RnG_yes | apply RdG_yes)) | ((with_reducible (first | apply RnG_t_no | apply RnG_f_no | apply RnG_un | apply RdG_t_no | apply RdG_f_no | apply RdG_un)); (exact rfl)) | ((first | apply RnG_never | apply RdG_never); (focus (intro K0; (try simp only [go_sem]); exact ⟨id⟩)); (exact rfl)) | ((first | apply RnG_lazy | apply RdG_lazy); (exact rfl); (focus (intro K0; (try simp only [go_sem]); exact ⟨id⟩)); (focus (first | (simp only [Nat.reduceLT]; done) | omega)); (focus (intro hw0; (try simp only [Bool.and_eq_true, Bool.not_eq_true', beq_true', beq_false'] at hw0); (focus (intro K0; (try simp only [go_sem, *]); (first | exact ⟨id⟩ | (refine ⟨fun h => ?_⟩; (repeat' (first | exact h | refine And.intro ?_ ?_ | omega | rfl)); done))))))) | (apply Rn_c; (focus (intro K0; (try simp only [lookT, ev, Nat.reduceEqDiff, ↓reduceIte]); exact ⟨id⟩))) | (with_reducible (first | refine RnC_t ?_ | refine RnC_f ?_)) | (refine Rn_skip ?_) | (refine Rn_exit rfl ?_) | (refine Rn_b ?_) | (apply Rn_draw' lv20; (exact rfl)) | (refine Rn_draw ?_) | (apply Rd_op'; (exact rfl)) | (refine Rd_nil (by kernel_rfl) ?_) | ((with_reducible (first | refine RnG_split (fun h => ?_) (fun h => ?_) | refine RdG_split (fun h => ?_) (fun h => ?_) | refine RnC_split (fun h => ?_) (fun h => ?_))) <;> (have h' := h) <;> (try simp only [decide_eq_true_eq, decide_eq_false_iff_not, Bool.not_eq_true', Bool.not_eq_false', Bool.and_eq_true, Bool.or_eq_true, Bool.or_eq_false_iff, beq_iff_eq, bne_iff_ne, ne_eq, Bool.not_true, Bool.not_false, not_false_eq_true, reduceCtorEq, beq_eq_false_iff_ne, bne_eq_false_iff_eq] at h') <;> (first | apply Rn_st | apply Rd_st)) | (refine Rn_out_ck rfl rfl ?_) | (first | refine Rn_ret_ck ?_ | refine Rn_ret ?_ | refine Rn_nil_then ?_) | (refine LoopN_step (T := []) ?_) | (refine Rn_nil ?_))
      all_goals (try simp only [go_sem])
      rw [fidx_hit hx hp fun j y hj hy => hno j y hj hy]
    | false =>
      repeat' (first | (focus (intro K0; (try simp only [go_sem, *]); (first | exact ⟨id⟩ | (refine ⟨fun h => ?_⟩; (repeat' (first | exact h | refine And.intro ?_ ?_ | omega | rfl)); done)))) | (refine Rn_seq ?_) | (refine Rn_block ?_) | (apply Rn_region' lv20; (exact rfl)) | (refine Rn_region ?_) | (apply Rn_op'; (exact rfl)) | (refine Rn_o_nil ?_) | ((first | apply Rn_g | apply Rd_g); (exact rfl); (exact rfl); (focus (intro K0; (try simp only [lookT, ev, Nat.reduceEqDiff, ↓reduceIte]); exact ⟨id⟩))) | (with_reducible (first | apply RnG_yes | apply RdG_yes)) | ((with_reducible (first | apply RnG_t_no | apply RnG_f_no | apply RnG_un | apply RdG_t_no | apply RdG_f_no | apply RdG_un)); (exact rfl)) | ((first | apply RnG_never | apply RdG_never); (focus (intro K0; (try simp only [go_sem]); exact ⟨id⟩)); (exact rfl)) | ((first | apply RnG_lazy | apply RdG_lazy); (exact rfl); (focus (intro K0; (try simp only [go_sem]); exact ⟨id⟩)); (focus (first | (simp only [Nat.reduceLT]; done) | omega)); (focus (intro hw0; (try simp only [Bool.and_eq_true, Bool.not_eq_true', beq_true', beq_false'] at hw0); (focus (intro K0; (try simp only [go_sem, *]); (first | exact ⟨id⟩ | (refine ⟨fun h => ?_⟩; (repeat' (first | exact h | refine And.intro ?_ ?_ | omega | rfl)); done))))))) | (apply Rn_c; (focus (intro K0; (try simp only [lookT, ev, Nat.reduceEqDiff, ↓reduceIte]); exact ⟨id⟩))) | (with_reducible (first | refine RnC_t ?_ | refine RnC_f ?_)) | (refine Rn_skip ?_) | (refine Rn_exit rfl ?_) | (refine Rn_b ?_) | (apply Rn_draw' lv20; (exact rfl)) | (refine Rn_draw ?_) | (apply Rd_op'; (exact rfl)) | (refine Rd_nil (by kernel_rfl) ?_) | ((with_reducible (first | refine RnG_split (fun h => ?_) (fun h => ?_) | refine RdG_split (fun h => ?_) (fun h => ?_) | refine RnC_split (fun h => ?_) (fun h => ?_))) <;> (have h' := h) <;> (try simp only [decide_eq_true_eq, decide_eq_false_iff_not, Bool.not_eq_true', Bool.not_eq_false', Bool.and_eq_true, Bool.or_eq_true, Bool.or_eq_false_iff, beq_iff_eq, bne_iff_ne, ne_eq, Bool.not_true, Bool.not_false, not_false_eq_true, reduceCtorEq, beq_eq_false_iff_ne, bne_eq_false_iff_eq] at h') <;> (first | apply Rn_st | apply Rd_st)) | (refine Rn_out_ck rfl rfl ?_) | (first | refine Rn_ret_ck ?_ | refine Rn_ret ?_ | refine Rn_nil_then ?_) | (refine LoopN_step (T := []) ?_) | (refine Rn_nil ?_))
      all_goals (try simp only [go_sem])
      refine ⟨i + 1, ⟨by omega, fun j y hj hy => ?_⟩, by omega, Le_keep [0, 1, 7, 8] rfl rfl rfl⟩
      rcases Nat.lt_succ_iff_lt_or_eq.1 hj with h3 | h3
      · exact hno j y h3 hy
      · subst h3; rw [hx] at hy; cases hy; exact hp
  · have h1 : decide ((i : Int) < (l.length : Int)) = false := by rw [decide_eq_false_iff_not]; omega
    repeat' (first | (focus (intro K0; (try simp only [go_sem, *]); (first | exact ⟨id⟩ | (refine ⟨fun h => ?_⟩; (repeat' (first | exact h | refine And.intro ?_ ?_ | omega | rfl)); done)))) | (refine Rn_seq ?_) | (refine Rn_block ?_) | (apply Rn_region' lv20; (exact rfl)) | (refine Rn_region ?_) | (apply Rn_op'; (exact rfl)) | (refine Rn_o_nil ?_) | ((first | apply Rn_g | apply Rd_g); (exact rfl); (exact rfl); (focus (intro K0; (try simp only [lookT, ev, Nat.reduceEqDiff, ↓reduceIte]); exact ⟨id⟩))) | (with_reducible (first | apply RnG_yes | apply RdG_yes)) | ((with_reducible (first | apply RnG_t_no | apply RnG_f_no | apply RnG_un | apply RdG_t_no | apply RdG_f_no | apply RdG_un)); (exact rfl)) | ((first | apply RnG_never | apply RdG_never); (focus (intro K0; (try simp only [go_sem]); exact ⟨id⟩)); (exact rfl)) | ((first | apply RnG_lazy | apply RdG_lazy); (exact rfl); (focus (intro K0; (try simp only [go_sem]); exact ⟨id⟩)); (focus (first | (simp only [Nat.reduceLT]; done) | omega)); (focus (intro hw0; (try simp only [Bool.and_eq_true, Bool.not_eq_true', beq_true', beq_false'] at hw0); (focus (intro K0; (try simp only [go_sem, *]); (first | exact ⟨id⟩ | (refine ⟨fun h => ?_⟩; (repeat' (first | exact h | refine And.intro ?_ ?_ | omega | rfl)); done))))))) | (apply Rn_c; (focus (intro K0; (try simp only [lookT, ev, Nat.reduceEqDiff, ↓reduceIte]); exact ⟨id⟩))) | (with_reducible (first | refine RnC_t ?_ | refine RnC_f ?_)) | (refine Rn_skip ?_) | (refine Rn_exit rfl ?_) | (refine Rn_b ?_) | (apply Rn_draw' lv20; (exact rfl)) | (refine Rn_draw ?_) | (apply Rd_op'; (exact rfl)) | (refine Rd_nil (by kernel_rfl) ?_) | ((with_reducible (first | refine RnG_split (fun h => ?_) (fun h => ?_) | refine RdG_split (fun h => ?_) (fun h => ?_) | refine RnC_split (fun h => ?_) (fun h => ?_))) <;> (have h' := h) <;> (try simp only [decide_eq_true_eq, decide_eq_false_iff_not, Bool.not_eq_true', Bool.not_eq_false', Bool.and_eq_true, Bool.or_eq_true, Bool.or_eq_false_iff, beq_iff_eq, bne_iff_ne, ne_eq, Bool.not_true, Bool.not_false, not_false_eq_true, reduceCtorEq, beq_eq_false_iff_ne, bne_eq_false_iff_eq] at h') <;> (first | apply Rn_st | apply Rd_st)) | (refine Rn_out_ck rfl rfl ?_) | (first | refine Rn_ret_ck ?_ | refine Rn_ret ?_ | refine Rn_nil_then ?_) | (refine LoopN_step (T := []) ?_) | (refine Rn_nil ?_))
    all_goals (try simp only [go_sem])
    rw [fidx_none fun j y hy => hno j y (by have := (List.getElem?_eq_some_iff.1 hy).1; omega) hy]
theorem hasStr {l : List ByteArray} {s : ByteArray} : (l.any fun x => decide (s = x)) = false ↔ s ∉ l := by
  rw [List.any_eq_false]
  simp only [decide_eq_true_eq]
  exact ⟨fun h hs => h s hs rfl, fun h x hx e => h (e ▸ hx)⟩
theorem hasStr_c (xs : List (List RV)) (s : ByteArray) (h : xs = (strsOf xs).map strR ∧ xs.length ≤ 1000000000) : FC Cx 10 [.r (.rs 1 xs), Sv s] [] (Bv ((strsOf xs).any fun x => decide (s = x))) [] := by
  have hl : (strsOf xs).length = xs.length := by simp [strsOf]
  obtain ⟨h1, h2⟩ := h
  generalize strsOf xs = l at h1 hl
  subst h1
  rw [← hl] at h2
  have hA : ∀ y, y = [strsV l, Sv s] → CallOk Cx 20 y (Iv (fidx (fun x => decide (s = x)) l)) := fun y hy => by
    subst hy; exact CallOk_of (idxStr_c l s (by omega)) en20 rfl rfl
  refine FCp_of [ctE 20 [strsV l, Sv s] (Iv (fidx (fun x => decide (s = x)) l)) hA] Tryd.func10 rfl Tryd.ntmps10 (by simp) Tryd.results10 rfl ?_
  apply Rn_st; (intro K0; simp only [go_sem]; exact ⟨id⟩)
  repeat' (first | (focus (intro K0; (try simp only [go_sem, *]); (first | exact ⟨id⟩ | (refine ⟨fun h => ?_⟩; (repeat' (first | exact h | refine And.intro ?_ ?_ | omega | rfl)); done)))) | (refine Rn_seq ?_) | (refine Rn_block ?_) | (apply Rn_region' lv10; (exact rfl)) | (refine Rn_region ?_) | (apply Rn_op'; (exact rfl)) | (refine Rn_o_nil ?_) | ((first | apply Rn_g | apply Rd_g); (exact rfl); (exact rfl); (focus (intro K0; (try simp only [lookT, ev, Nat.reduceEqDiff, ↓reduceIte]); exact ⟨id⟩))) | (with_reducible (first | apply RnG_yes | apply RdG_yes)) | ((with_reducible (first | apply RnG_t_no | apply RnG_f_no | apply RnG_un | apply RdG_t_no | apply RdG_f_no | apply RdG_un)); (exact rfl)) | ((first | apply RnG_never | apply RdG_never); (focus (intro K0; (try simp only [go_sem]); exact ⟨id⟩)); (exact rfl)) | ((first | apply RnG_lazy | apply RdG_lazy); (exact rfl); (focus (intro K0; (try simp only [go_sem]); exact ⟨id⟩)); (focus (first | (simp only [Nat.reduceLT]; done) | omega)); (focus (intro hw0; (try simp only [Bool.and_eq_true, Bool.not_eq_true', beq_true', beq_false'] at hw0); (focus (intro K0; (try simp only [go_sem, *]); (first | exact ⟨id⟩ | (refine ⟨fun h => ?_⟩; (repeat' (first | exact h | refine And.intro ?_ ?_ | omega | rfl)); done))))))) | (apply Rn_c; (focus (intro K0; (try simp only [lookT, ev, Nat.reduceEqDiff, ↓reduceIte]); exact ⟨id⟩))) | (with_reducible (first | refine RnC_t ?_ | refine RnC_f ?_)) | (refine Rn_skip ?_) | (refine Rn_exit rfl ?_) | (refine Rn_b ?_) | (apply Rn_draw' lv10; (exact rfl)) | (refine Rn_draw ?_) | (apply Rd_op'; (exact rfl)) | (refine Rd_nil (by kernel_rfl) ?_) | ((with_reducible (first | refine RnG_split (fun h => ?_) (fun h => ?_) | refine RdG_split (fun h => ?_) (fun h => ?_) | refine RnC_split (fun h => ?_) (fun h => ?_))) <;> (have h' := h) <;> (try simp only [decide_eq_true_eq, decide_eq_false_iff_not, Bool.not_eq_true', Bool.not_eq_false', Bool.and_eq_true, Bool.or_eq_true, Bool.or_eq_false_iff, beq_iff_eq, bne_iff_ne, ne_eq, Bool.not_true, Bool.not_false, not_false_eq_true, reduceCtorEq, beq_eq_false_iff_ne, bne_eq_false_iff_eq] at h') <;> (first | apply Rn_st | apply Rd_st)) | (refine Rn_out_ck rfl rfl ?_) | (first | refine Rn_ret_ck ?_ | refine Rn_ret ?_ | refine Rn_nil_then ?_) | (refine LoopN_step (T := [ctE 20 [strsV l, Sv s] (Iv (fidx (fun x => decide (s = x)) l)) hA]) ?_) | (refine Rn_nil ?_))
  all_goals (try simp only [go_sem])
/-- How calls of this function are met. -/
def sp_hasStr (args : List AV) (K : AV → Prop) : Prop := match args with
  | [.r (.rs 1 xs), .r (.v (.string s))] => (xs = (strsOf xs).map strR ∧ xs.length ≤ 1000000000) ∧ K (Bv ((strsOf xs).any fun x => decide (s = x)))
  | _ => False
theorem sp_hasStr_ok (args : List AV) (K : AV → Prop) (h : sp_hasStr args K) : ∃ r, CallOk Cx 10 args r ∧ K r := by
  unfold sp_hasStr at h
  split at h
  · exact ⟨_, CallOk_of (hasStr_c _ _ h.1) en10 rfl rfl, h.2⟩
  · exact h.elim
noncomputable def ct_hasStr : Ct Cx := .pure 10 sp_hasStr sp_hasStr_ok
@[go_sem] theorem ct_hasStr_g : ct_hasStr.g = 10 := rfl
@[go_sem] theorem ct_hasStr_run (c : Call) (fop : Operand) (caps : List RV) (o : Oper) (st : St) (K : List Loc → List (Loc × Cont) → Prop) : ct_hasStr.run c fop caps o st K = callT Cx sp_hasStr c fop caps o st K := rfl
@[go_sem] theorem sp_hasStr_eq (args : List AV) (K : AV → Prop) : sp_hasStr args K = (match args with
    | [.r (.rs 1 xs), .r (.v (.string s))] => (xs = (strsOf xs).map strR ∧ xs.length ≤ 1000000000) ∧ K (Bv ((strsOf xs).any fun x => decide (s = x)))
    | _ => False) := rfl

end Go.Proofs.YtbhnmolmkembdaaDoor
