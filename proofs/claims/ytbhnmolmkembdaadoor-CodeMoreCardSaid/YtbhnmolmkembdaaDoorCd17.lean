/- Small programs; that the checks live. No condition: contracts of the laws' functions. -/
import Derived.Test.YtbhnmolmkembdaaDoorCd16
namespace Go.Proofs.YtbhnmolmkembdaaDoor
set_option linter.unusedVariables false
set_option linter.unusedSimpArgs false
set_option maxHeartbeats 10000000
open Go
set_option maxRecDepth 10000



/-- nil told as a slice without rows, wherever it stands. -/
inductive NilD : RV → RV → Prop
  | same (x : RV) : NilD x x
  | nil (sz : Nat) : NilD (.v (.slice none 0 0)) (.rs sz [])
  | rs (sz : Nat) (rows rows' : List (List RV)) (hl : rows'.length = rows.length) (hr : ∀ (i : Nat) (row row' : List RV), rows[i]? = some row → rows'[i]? = some row' → row'.length = row.length)
      (h : ∀ (i j : Nat) (row row' : List RV) (x y : RV), rows[i]? = some row → rows'[i]? = some row' → row[j]? = some x → row'[j]? = some y → NilD x y) : NilD (.rs sz rows) (.rs sz rows')

theorem RR.nilD {w : World} {N : Nat → Prop} {x y : RV} (h : NilD x y) : ∀ {v : Value}, RR w N x v → RR w N y v := by
  induction h with
  | same x => exact fun h => h
  | nil sz => intro v h; cases h; exact .nil sz
  | rs sz rows rows' hl hr _ ih =>
    intro v hv
    cases hv with
    | nil =>
      have : rows' = [] := List.length_eq_zero_iff.1 hl
      subst this; exact .nil sz
    | rs _ _ a cap c hb hcap hw hc hrr =>
      have hget : ∀ (i : Nat) (row' : List RV), rows'[i]? = some row' → ∃ row, rows[i]? = some row := fun i row' hi => by
        have := (List.getElem?_eq_some_iff.1 hi).1
        exact ⟨_, List.getElem?_eq_getElem (by omega)⟩
      rw [← hl]
      refine .rs sz rows' a cap c (fun hne => hb fun h0 => hne (by subst h0; exact List.length_eq_zero_iff.1 hl)) (by omega) (fun row' hrow' => ?_) (fun i j hi hj => hc i j (by omega) hj) (fun i j row' y hi hj => ?_)
      · obtain ⟨i, hi⟩ := List.mem_iff_getElem?.1 hrow'
        obtain ⟨row, h1⟩ := hget i row' hi
        rw [hr i row row' h1 hi]; exact hw row (List.mem_of_getElem? h1)
      · obtain ⟨row, h1⟩ := hget i row' hi
        have h2 := hr i row row' h1 hi
        have hlt := (List.getElem?_eq_some_iff.1 hj).1
        have hx : row[j]? = some (row[j]'(by omega)) := List.getElem?_eq_getElem (by omega)
        exact ih i j row row' _ y h1 hi hx hj (hrr i j row _ h1 hx)

theorem AR.nilD {cur : Nat → Nat} {g : Gh} {w : World} {N : Nat → Prop} {xs ys : List RV} {v : Value} (hl : ys.length = xs.length) (h : ∀ (j : Nat) (x y : RV), xs[j]? = some x → ys[j]? = some y → NilD x y) (hv : AR cur g w N (.agg (xs.map .r)) v) : AR cur g w N (.agg (ys.map .r)) v := by
  cases hv with
  | agg _ us hs hu =>
    refine .agg _ us (by simp at hs ⊢; omega) fun j y u hy hju => ?_
    rw [List.getElem?_map] at hy
    cases hyj : ys[j]? with
    | none => simp [hyj] at hy
    | some z =>
      simp [hyj] at hy; subst hy
      have hlt := (List.getElem?_eq_some_iff.1 hyj).1
      have hx : xs[j]? = some (xs[j]'(by omega)) := List.getElem?_eq_getElem (by omega)
      have := hu j (.r (xs[j]'(by omega))) u (by rw [List.getElem?_map, hx]; rfl) hju
      cases this with | r this => exact .r (RR.nilD (h j _ z hx hyj) this)

theorem FC_res {C : Ctx} {f : Nat} {args : List AV} {rs0 : List (Nat × Nat × Res)} {r r' : AV} (hf : FC C f args rs0 r []) (h : ∀ cur g w N v, AR cur g w N r v → AR cur g w N r' v) : FC C f args rs0 r' [] := by
  refine ⟨fun e g w vs hok hs hvs => (hf.run e g w vs hok hs hvs).mono ?_⟩
  rintro x w' ⟨v, g', rfl, hs', hv, hk⟩
  exact ⟨v, g', rfl, hs', h _ _ _ _ _ hv, hk⟩

theorem num_c (n : Int) : FC Cx 8 [Iv n] [] (VV 2 n) [] := by
  refine FCp_of [] Tryd.func8 rfl Tryd.ntmps8 (by simp) Tryd.results8 rfl ?_
  apply Rn_st; (intro K0; simp only [go_sem]; exact ⟨id⟩)
  repeat' (first | (focus (intro K0; (try simp only [go_sem, *]); (first | exact ⟨id⟩ | (refine ⟨fun h => ?_⟩; (repeat' (first | exact h | refine And.intro ?_ ?_ | omega | rfl)); done)))) | (refine Rn_seq ?_) | (refine Rn_block ?_) | (apply Rn_region' lv8; (exact rfl)) | (refine Rn_region ?_) | (apply Rn_op'; (exact rfl)) | (refine Rn_o_nil ?_) | ((first | apply Rn_g | apply Rd_g); (exact rfl); (exact rfl); (focus (intro K0; (try simp only [lookT, ev, Nat.reduceEqDiff, ↓reduceIte]); exact ⟨id⟩))) | (with_reducible (first | apply RnG_yes | apply RdG_yes)) | ((with_reducible (first | apply RnG_t_no | apply RnG_f_no | apply RnG_un | apply RdG_t_no | apply RdG_f_no | apply RdG_un)); (exact rfl)) | ((first | apply RnG_never | apply RdG_never); (focus (intro K0; (try simp only [go_sem]); exact ⟨id⟩)); (exact rfl)) | ((first | apply RnG_lazy | apply RdG_lazy); (exact rfl); (focus (intro K0; (try simp only [go_sem]); exact ⟨id⟩)); (focus (first | (simp only [Nat.reduceLT]; done) | omega)); (focus (intro hw0; (try simp only [Bool.and_eq_true, Bool.not_eq_true', beq_true', beq_false'] at hw0); (focus (intro K0; (try simp only [go_sem, *]); (first | exact ⟨id⟩ | (refine ⟨fun h => ?_⟩; (repeat' (first | exact h | refine And.intro ?_ ?_ | omega | rfl)); done))))))) | (apply Rn_c; (focus (intro K0; (try simp only [lookT, ev, Nat.reduceEqDiff, ↓reduceIte]); exact ⟨id⟩))) | (with_reducible (first | refine RnC_t ?_ | refine RnC_f ?_)) | (refine Rn_skip ?_) | (refine Rn_exit rfl ?_) | (refine Rn_b ?_) | (apply Rn_draw' lv8; (exact rfl)) | (refine Rn_draw ?_) | (apply Rd_op'; (exact rfl)) | (refine Rd_nil (by kernel_rfl) ?_) | ((with_reducible (first | refine RnG_split (fun h => ?_) (fun h => ?_) | refine RdG_split (fun h => ?_) (fun h => ?_) | refine RnC_split (fun h => ?_) (fun h => ?_))) <;> (have h' := h) <;> (try simp only [decide_eq_true_eq, decide_eq_false_iff_not, Bool.not_eq_true', Bool.not_eq_false', Bool.and_eq_true, Bool.or_eq_true, Bool.or_eq_false_iff, beq_iff_eq, bne_iff_ne, ne_eq, Bool.not_true, Bool.not_false, not_false_eq_true, reduceCtorEq, beq_eq_false_iff_ne, bne_eq_false_iff_eq] at h') <;> (first | apply Rn_st | apply Rd_st)) | (refine Rn_out_ck rfl rfl ?_) | (first | refine Rn_ret_ck ?_ | refine Rn_ret ?_ | refine Rn_nil_then ?_) | (refine LoopN_step (T := []) ?_) | (refine Rn_nil ?_))
  all_goals (try simp only [go_sem])
/-- How calls of this function are met. -/
def sp_num (args : List AV) (K : AV → Prop) : Prop := match args with
  | [.r (.v (.int .i64 n))] => K (VV 2 n)
  | _ => False
theorem sp_num_ok (args : List AV) (K : AV → Prop) (h : sp_num args K) : ∃ r, CallOk Cx 8 args r ∧ K r := by
  unfold sp_num at h
  split at h
  · exact ⟨_, CallOk_of (num_c _) en8 rfl rfl, h⟩
  · exact h.elim
noncomputable def ct_num : Ct Cx := .pure 8 sp_num sp_num_ok
@[go_sem] theorem ct_num_g : ct_num.g = 8 := rfl
@[go_sem] theorem ct_num_run (c : Call) (fop : Operand) (caps : List RV) (o : Oper) (st : St) (K : List Loc → List (Loc × Cont) → Prop) : ct_num.run c fop caps o st K = callT Cx sp_num c fop caps o st K := rfl
@[go_sem] theorem sp_num_eq (args : List AV) (K : AV → Prop) : sp_num args K = (match args with
    | [.r (.v (.int .i64 n))] => K (VV 2 n)
    | _ => False) := rfl

/-- What rows hold, read-only. -/
def roLL : List (List AV) → Option (List (List RV))
  | [] => some []
  | x :: l => match roL x, roLL l with
    | some r, some rs => some (r :: rs)
    | _, _ => none
theorem roLL_ok : ∀ {rows : List (List AV)} {rowsR : List (List RV)}, roLL rows = some rowsR → rows = rowsR.map fun r => r.map .r
  | [], rowsR, h => by cases h; rfl
  | x :: l, rowsR, h => by
    unfold roLL at h
    split at h
    · rename_i r rs h1 h2
      cases h
      rw [roL_ok h1, roLL_ok h2]; rfl
    · cases h
/-- A slice of given things that nobody turns. -/
theorem Rn_frzL {C : Ctx} {T : List (Ct C)} {r : List It} {st st' : St} {K : Exit → St → Prop} (k : Nat) {ver el sz : Nat} {rows : List (List AV)} {rowsR : List (List RV)} (hk : lookR k st.rs = (ver, .sl el sz rows)) (hc : roLL rows = some rowsR) (hr : hasC r = true) (hst : ∀ K0 : St → Prop, Imp (K0 st') (K0 (frzSt k ver (.rs sz rowsR) st))) (hk2 : Rn C T r st' K) : Rn C T r st K :=
  Rn_frzS k rowsR hk (roLL_ok hc) hr hst hk2

/-- A small program. -/
def smallP (l : List InsT) : ProgT := ⟨[⟨0, 3, false, [], l⟩], [(2, 1)], wordsL⟩

theorem small0_c (l : List InsT) : FC Cx 17 [inssV l] [] (.agg [.r (.rs 5 [[.v (.int .i64 0), .v (.int .i64 3), .v (.bool false), .v (.slice none 0 0), .rs 5 (l.map insR)]]), .r (.rs 2 [[.v (.int .i64 2), .v (.int .i64 1)]]), strsV wordsL]) [] := by
  refine FCf_of [ct_num, ct_words] Tryd.func17 rfl Tryd.ntmps17 (by simp) Tryd.results17 rfl ?_
  apply Rn_st; (intro K0; simp only [go_sem]; exact ⟨id⟩)
  repeat' (first | (focus (intro K0; (try simp only [go_sem, *]); (first | exact ⟨id⟩ | (refine ⟨fun h => ?_⟩; (repeat' (first | exact h | refine And.intro ?_ ?_ | omega | rfl)); done)))) | (refine Rn_seq ?_) | (refine Rn_block ?_) | (apply Rn_region' lv17; (exact rfl)) | (refine Rn_region ?_) | (apply Rn_op'; (exact rfl)) | (refine Rn_o_nil ?_) | ((first | apply Rn_g | apply Rd_g); (exact rfl); (exact rfl); (focus (intro K0; (try simp only [lookT, ev, Nat.reduceEqDiff, ↓reduceIte]); exact ⟨id⟩))) | (with_reducible (first | apply RnG_yes | apply RdG_yes)) | ((with_reducible (first | apply RnG_t_no | apply RnG_f_no | apply RnG_un | apply RdG_t_no | apply RdG_f_no | apply RdG_un)); (exact rfl)) | ((first | apply RnG_never | apply RdG_never); (focus (intro K0; (try simp only [go_sem]); exact ⟨id⟩)); (exact rfl)) | ((first | apply RnG_lazy | apply RdG_lazy); (exact rfl); (focus (intro K0; (try simp only [go_sem]); exact ⟨id⟩)); (focus (first | (simp only [Nat.reduceLT]; done) | omega)); (focus (intro hw0; (try simp only [Bool.and_eq_true, Bool.not_eq_true', beq_true', beq_false'] at hw0); (focus (intro K0; (try simp only [go_sem, *]); (first | exact ⟨id⟩ | (refine ⟨fun h => ?_⟩; (repeat' (first | exact h | refine And.intro ?_ ?_ | omega | rfl)); done))))))) | (apply Rn_c; (focus (intro K0; (try simp only [lookT, ev, Nat.reduceEqDiff, ↓reduceIte]); exact ⟨id⟩))) | (with_reducible (first | refine RnC_t ?_ | refine RnC_f ?_)) | (refine Rn_skip ?_) | (refine Rn_exit rfl ?_) | (refine Rn_b ?_) | (apply Rn_draw' lv17; (exact rfl)) | (refine Rn_draw ?_) | (apply Rd_op'; (exact rfl)) | (refine Rd_nil (by kernel_rfl) ?_) | ((with_reducible (first | refine RnG_split (fun h => ?_) (fun h => ?_) | refine RdG_split (fun h => ?_) (fun h => ?_) | refine RnC_split (fun h => ?_) (fun h => ?_))) <;> (have h' := h) <;> (try simp only [decide_eq_true_eq, decide_eq_false_iff_not, Bool.not_eq_true', Bool.not_eq_false', Bool.and_eq_true, Bool.or_eq_true, Bool.or_eq_false_iff, beq_iff_eq, bne_iff_ne, ne_eq, Bool.not_true, Bool.not_false, not_false_eq_true, reduceCtorEq, beq_eq_false_iff_ne, bne_eq_false_iff_eq] at h') <;> (first | apply Rn_st | apply Rd_st)) | (refine Rn_out_ck rfl rfl ?_) | (first | refine Rn_ret_ck ?_ | refine Rn_ret ?_ | refine Rn_nil_then ?_) | (refine LoopN_step (T := [ct_num, ct_words]) ?_) | (refine Rn_nil ?_))
  all_goals (try simp only [go_sem])
theorem small_c (l : List InsT) : FC Cx 17 [inssV l] [] (progV (smallP l)) [] := by
  refine FC_res (small0_c l) fun cur g w N v hv => ?_
  refine AR.nilD (xs := [.rs 5 [[.v (.int .i64 0), .v (.int .i64 3), .v (.bool false), .v (.slice none 0 0), .rs 5 (l.map insR)]], .rs 2 [[.v (.int .i64 2), .v (.int .i64 1)]], .rs 1 (wordsL.map strR)]) (ys := progR (smallP l)) rfl (fun j x y hx hy => ?_) hv
  match j with
  | 0 =>
    simp at hx hy; subst hx; subst hy
    refine .rs 5 _ _ rfl (fun i row row' h1 h2 => ?_) fun i j row row' x y h1 h2 h3 h4 => ?_
    · match i with
      | 0 => simp [smallP] at h1 h2; subst h1; subst h2; rfl
      | i + 1 => simp at h1
    · match i with
      | 0 =>
        simp [smallP] at h1 h2; subst h1; subst h2
        match j with
        | 0 => simp at h3 h4; subst h3; subst h4; exact .same _
        | 1 => simp at h3 h4; subst h3; subst h4; exact .same _
        | 2 => simp at h3 h4; subst h3; subst h4; exact .same _
        | 3 => simp at h3 h4; subst h3; subst h4; exact .nil 1
        | 4 => simp at h3 h4; subst h3; subst h4; exact .same _
        | j + 5 => simp at h3
      | i + 1 => simp at h1
  | 1 => simp at hx hy; subst hx; subst hy; exact .same _
  | 2 => simp at hx hy; subst hx; subst hy; exact .same _
  | j + 3 => simp at hx
theorem small'_c (vs : List (List RV)) (h : vs = (inssOf vs).map insR) : FC Cx 17 [.r (.rs 5 vs)] [] (progV (smallP (inssOf vs))) [] := by
  have := small_c (inssOf vs)
  rwa [inssOf_at h] at this
/-- How calls of this function are met. -/
def sp_small' (args : List AV) (K : AV → Prop) : Prop := match args with
  | [.r (.rs 5 vs)] => (vs = (inssOf vs).map insR) ∧ K (progV (smallP (inssOf vs)))
  | _ => False
theorem sp_small'_ok (args : List AV) (K : AV → Prop) (h : sp_small' args K) : ∃ r, CallOk Cx 17 args r ∧ K r := by
  unfold sp_small' at h
  split at h
  · exact ⟨_, CallOk_of (small'_c _ h.1) en17 rfl rfl, h.2⟩
  · exact h.elim
noncomputable def ct_small' : Ct Cx := .pure 17 sp_small' sp_small'_ok
@[go_sem] theorem ct_small'_g : ct_small'.g = 17 := rfl
@[go_sem] theorem ct_small'_run (c : Call) (fop : Operand) (caps : List RV) (o : Oper) (st : St) (K : List Loc → List (Loc × Cont) → Prop) : ct_small'.run c fop caps o st K = callT Cx sp_small' c fop caps o st K := rfl
@[go_sem] theorem sp_small'_eq (args : List AV) (K : AV → Prop) : sp_small' args K = (match args with
    | [.r (.rs 5 vs)] => (vs = (inssOf vs).map insR) ∧ K (progV (smallP (inssOf vs)))
    | _ => False) := rfl
@[go_sem] theorem inssOf_cons (k1 k2 k3 k4 k5 : IntKind) (o a b c l : Int) (xs : List (List RV)) : inssOf ([.v (.int k1 o), .v (.int k2 a), .v (.int k3 b), .v (.int k4 c), .v (.int k5 l)] :: xs) = ⟨o, a, b, c, l⟩ :: inssOf xs := rfl
@[go_sem] theorem inssOf_nil : inssOf [] = [] := rfl

def liveL : List InsT := [⟨30, 1, 3, 0, 0⟩, ⟨31, 0, 0, 0, 0⟩, ⟨28, 0, 0, 0, 0⟩, ⟨29, 1, 0, 0, 0⟩, ⟨28, 0, 0, 0, 0⟩]
theorem small_wf (l : List InsT) (hl : l.length ≤ 100) : Pwf (smallP l) := ⟨⟨by simp [smallP], by simp [smallP], by simp [smallP, wordsL]⟩, fun f hf => by simp [smallP] at hf; subst hf; simp; omega⟩
theorem lives_Tries : TriesF (smallP liveL) 0 = ([[], [(1, 3)], [], [], []], [true, true, true, true, false], 0) := by kernel_rfl
theorem lives_Check : checkF (smallP [⟨2, 0, 0, 0, 0⟩]) = 3 := by kernel_rfl

theorem codeLives_c : FC Cx 5 [] [] (Bv true) [] := by
  have w1 := small_wf liveL (by decide)
  have w2 := small_wf [⟨2, 0, 0, 0, 0⟩] (by decide)
  have hT := lives_Tries
  have hC := lives_Check
  simp only [liveL] at w1 hT
  refine FCp_of [ct_small', ct_Tries', ct_check', ct_eqBool', ct_eqTry'] Tryd.func5 rfl Tryd.ntmps5 (by simp) Tryd.results5 rfl ?_
  apply Rn_st; (intro K0; simp only [go_sem]; exact ⟨id⟩)
  repeat' (first | (apply Rn_frzL 10; (exact rfl); (exact rfl); (exact rfl); (intro K0; (try simp only [go_sem]); exact ⟨id⟩)) | (apply Rn_frzL 40; (exact rfl); (exact rfl); (exact rfl); (intro K0; (try simp only [go_sem]); exact ⟨id⟩)) | (focus (intro K0; (try simp only [go_sem, *]); (first | exact ⟨id⟩ | (refine ⟨fun h => ?_⟩; (repeat' (first | exact h | refine And.intro ?_ ?_ | omega | rfl)); done)))) | (refine Rn_seq ?_) | (refine Rn_block ?_) | (apply Rn_region' lv5; (exact rfl)) | (refine Rn_region ?_) | (apply Rn_op'; (exact rfl)) | (refine Rn_o_nil ?_) | ((first | apply Rn_g | apply Rd_g); (exact rfl); (exact rfl); (focus (intro K0; (try simp only [lookT, ev, Nat.reduceEqDiff, ↓reduceIte]); exact ⟨id⟩))) | (with_reducible (first | apply RnG_yes | apply RdG_yes)) | ((with_reducible (first | apply RnG_t_no | apply RnG_f_no | apply RnG_un | apply RdG_t_no | apply RdG_f_no | apply RdG_un)); (exact rfl)) | ((first | apply RnG_never | apply RdG_never); (focus (intro K0; (try simp only [go_sem]); exact ⟨id⟩)); (exact rfl)) | ((first | apply RnG_lazy | apply RdG_lazy); (exact rfl); (focus (intro K0; (try simp only [go_sem]); exact ⟨id⟩)); (focus (first | (simp only [Nat.reduceLT]; done) | omega)); (focus (intro hw0; (try simp only [Bool.and_eq_true, Bool.not_eq_true', beq_true', beq_false'] at hw0); (focus (intro K0; (try simp only [go_sem, *]); (first | exact ⟨id⟩ | (refine ⟨fun h => ?_⟩; (repeat' (first | exact h | refine And.intro ?_ ?_ | omega | rfl)); done))))))) | (apply Rn_c; (focus (intro K0; (try simp only [lookT, ev, Nat.reduceEqDiff, ↓reduceIte]); exact ⟨id⟩))) | (with_reducible (first | refine RnC_t ?_ | refine RnC_f ?_)) | (refine Rn_skip ?_) | (refine Rn_exit rfl ?_) | (refine Rn_b ?_) | (apply Rn_draw' lv5; (exact rfl)) | (refine Rn_draw ?_) | (apply Rd_op'; (exact rfl)) | (refine Rd_nil (by kernel_rfl) ?_) | ((with_reducible (first | refine RnG_split (fun h => ?_) (fun h => ?_) | refine RdG_split (fun h => ?_) (fun h => ?_) | refine RnC_split (fun h => ?_) (fun h => ?_))) <;> (have h' := h) <;> (try simp only [decide_eq_true_eq, decide_eq_false_iff_not, Bool.not_eq_true', Bool.not_eq_false', Bool.and_eq_true, Bool.or_eq_true, Bool.or_eq_false_iff, beq_iff_eq, bne_iff_ne, ne_eq, Bool.not_true, Bool.not_false, not_false_eq_true, reduceCtorEq, beq_eq_false_iff_ne, bne_eq_false_iff_eq] at h') <;> (first | apply Rn_st | apply Rd_st)) | (refine Rn_out_ck rfl rfl ?_) | (first | refine Rn_ret_ck ?_ | refine Rn_ret ?_ | refine Rn_nil_then ?_) | (refine LoopN_step (T := [ct_small', ct_Tries', ct_check', ct_eqBool', ct_eqTry']) ?_) | (refine Rn_nil ?_))
  all_goals (try simp only [go_sem])



end Go.Proofs.YtbhnmolmkembdaaDoor
