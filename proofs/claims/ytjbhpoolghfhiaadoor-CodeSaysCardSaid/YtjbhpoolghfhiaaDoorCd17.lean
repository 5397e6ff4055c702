/- Small programs; that the checks live. No condition: contracts of the laws' functions. -/
import Derived.Test.YtjbhpoolghfhiaaDoorCd16
namespace Go.Proofs.YtjbhpoolghfhiaaDoor
set_option linter.unusedVariables false
set_option linter.unusedSimpArgs false
set_option maxHeartbeats 10000000
open Go
set_option maxRecDepth 10000



/-- nil told as a slice without rows, wherever it stands. -/
inductive NilD : RV → RV → Prop
  | same (x : RV) : NilD x x
  | nil (sz : Nat) : NilD (.v (.slice none 0 0)) (.rs sz [])
  | rs (sz : Nat) (rows rows' : List (List RV)) (hl : rows'.length = rows.length) (hr : ∀ (i : Nat) (row row' : List RV), rows[i]? = some row → rows'[i]? = some row' → row'.length = row.length)
      (h : ∀ (i j : Nat) (row row' : List RV) (x y : RV), rows[i]? = some row → rows'[i]? = some row' → row[j]? = some x → row'[j]? = some y → NilD x y) : NilD (.rs sz rows) (.rs sz rows')

theorem RR.nilD {w : World} {N : Nat → Prop} {x y : RV} (h : NilD x y) : ∀ {v : Value}, RR w N x v → RR w N y v := by
  induction h with
  | same x => exact fun h => h
  | nil sz => intro v h; cases h; exact .nil sz
  | rs sz rows rows' hl hr _ ih =>
    intro v hv
    cases hv with
    | nil =>
      have : rows' = [] := List.length_eq_zero_iff.1 hl
      subst this; exact .nil sz
    | rs _ _ a cap c hb hcap hw hc hrr =>
      have hget : ∀ (i : Nat) (row' : List RV), rows'[i]? = some row' → ∃ row, rows[i]? = some row := fun i row' hi => by
        have := (List.getElem?_eq_some_iff.1 hi).1
        exact ⟨_, List.getElem?_eq_getElem (by omega)⟩
      rw [← hl]
      refine .rs sz rows' a cap c (fun hne => hb fun h0 => hne (by subst h0; exact List.length_eq_zero_iff.1 hl)) (by omega) (fun row' hrow' => ?_) (fun i j hi hj => hc i j (by omega) hj) (fun i j row' y hi hj => ?_)
      · obtain ⟨i, hi⟩ := List.mem_iff_getElem?.1 hrow'
        obtain ⟨row, h1⟩ := hget i row' hi
        rw [hr i row row' h1 hi]; exact hw row (List.mem_of_getElem? h1)
      · obtain ⟨row, h1⟩ := hget i row' hi
        have h2 := hr i row row' h1 hi
        have hlt := (List.getElem?_eq_some_iff.1 hj).1
        have hx : row[j]? = some (row[j]'(by omega)) := List.getElem?_eq_getElem (by omega)
        exact ih i j row row' _ y h1 hi hx hj (hrr i j row _ h1 hx)

theorem AR.nilD {cur : Nat → Nat} {g : Gh} {w : World} {N : Nat → Prop} {xs ys : List RV} {v : Value} (hl : ys.length = xs.length) (h : ∀ (j : Nat) (x y : RV), xs[j]? = some x → ys[j]? = some y → NilD x y) (hv : AR cur g w N (.agg (xs.map .r)) v) : AR cur g w N (.agg (ys.map .r)) v := by
  cases hv with
  | agg _ us hs hu =>
    refine .agg _ us (by simp at hs ⊢; omega) fun j y u hy hju => ?_
    rw [List.getElem?_map] at hy
    cases hyj : ys[j]? with
    | none => simp [hyj] at hy
    | some z =>
      simp [hyj] at hy; subst hy
      have hlt := (List.getElem?_eq_some_iff.1 hyj).1
      have hx : xs[j]? = some (xs[j]'(by omega)) := List.getElem?_eq_getElem (by omega)
      have := hu j (.r (xs[j]'(by omega))) u (by rw [List.getElem?_map, hx]; rfl) hju
      cases this with | r this => exact .r (RR.nilD (h j _ z hx hyj) this)

theorem FC_res {C : Ctx} {f : Nat} {args : List AV} {rs0 : List (Nat × Nat × Res)} {r r' : AV} (hf : FC C f args rs0 r []) (h : ∀ cur g w N v, AR cur g w N r v → AR cur g w N r' v) : FC C f args rs0 r' [] := by
  refine ⟨fun e g w vs hok hs hvs => (hf.run e g w vs hok hs hvs).mono ?_⟩
  rintro x w' ⟨v, g', rfl, hs', hv, hk⟩
  exact ⟨v, g', rfl, hs', h _ _ _ _ _ hv, hk⟩

theorem num_c (n : Int) : FC Cx 62 [Iv n] [] (VV 2 n) [] := by
  refine FCp_of [] Tryd.func62 rfl Tryd.ntmps62 (by simp) Tryd.results62 rfl ?_
  apply Rn_st; (intro K0; simp only [go_sem]; exact ⟨id⟩)
  (any_goals refine go lv62 0 ?_)
  repeat' (first | (refine Br.go (fun h h' => ?_) (fun h h' => ?_)) | (refine Br.mk (fun h => ?_) (fun h => ?_)))
  all_goals (try simp only [go_sem])
/-- How calls of this function are met. -/
def sp_num (args : List AV) (K : AV → Prop) : Prop := match args with
  | [.r (.v (.int .i64 n))] => K (VV 2 n)
  | _ => False
theorem sp_num_ok (args : List AV) (K : AV → Prop) (h : sp_num args K) : ∃ r, CallOk Cx 62 args r ∧ K r := by
  unfold sp_num at h
  split at h
  · exact ⟨_, CallOk_of (num_c _) en62 rfl rfl, h⟩
  · exact h.elim
noncomputable def ct_num : Ct Cx := .pure 62 sp_num sp_num_ok
@[go_sem] theorem ct_num_g : ct_num.g = 62 := rfl
@[go_sem] theorem ct_num_run (c : Call) (fop : Operand) (caps : List RV) (o : Oper) (st : St) (K : List Loc → List (Loc × Cont) → Prop) : ct_num.run c fop caps o st K = callT Cx sp_num c fop caps o st K := rfl
@[go_sem] theorem sp_num_eq (args : List AV) (K : AV → Prop) : sp_num args K = (match args with
    | [.r (.v (.int .i64 n))] => K (VV 2 n)
    | _ => False) := rfl

/-- A small program. -/
def smallP (l : List InsT) : ProgT := ⟨[⟨0, 3, false, [], l⟩], [(2, 1)], wordsL⟩

theorem small0_c (l : List InsT) : FC Cx 45 [inssV l] [] (.agg [.r (.rs 5 [[.v (.int .i64 0), .v (.int .i64 3), .v (.bool false), .v (.slice none 0 0), .rs 5 (l.map insR)]]), .r (.rs 2 [[.v (.int .i64 2), .v (.int .i64 1)]]), strsV wordsL]) [] := by
  refine FCf_of [ct_num, ct_words] Tryd.func45 rfl Tryd.ntmps45 (by simp) Tryd.results45 rfl ?_
  apply Rn_st; (intro K0; simp only [go_sem]; exact ⟨id⟩)
  (any_goals refine go lv45 0 ?_)
  repeat' (first | (refine Br.go (fun h h' => ?_) (fun h h' => ?_)) | (refine Br.mk (fun h => ?_) (fun h => ?_)))
  all_goals (try simp only [go_sem])
theorem small_c (l : List InsT) : FC Cx 45 [inssV l] [] (progV (smallP l)) [] := by
  refine FC_res (small0_c l) fun cur g w N v hv => ?_
  refine AR.nilD (xs := [.rs 5 [[.v (.int .i64 0), .v (.int .i64 3), .v (.bool false), .v (.slice none 0 0), .rs 5 (l.map insR)]], .rs 2 [[.v (.int .i64 2), .v (.int .i64 1)]], .rs 1 (wordsL.map strR)]) (ys := progR (smallP l)) rfl (fun j x y hx hy => ?_) hv
  match j with
  | 0 =>
    simp at hx hy; subst hx; subst hy
    refine .rs 5 _ _ rfl (fun i row row' h1 h2 => ?_) fun i j row row' x y h1 h2 h3 h4 => ?_
    · match i with
      | 0 => simp [smallP] at h1 h2; subst h1; subst h2; rfl
      | i + 1 => simp at h1
    · match i with
      | 0 =>
        simp [smallP] at h1 h2; subst h1; subst h2
        match j with
        | 0 => simp at h3 h4; subst h3; subst h4; exact .same _
        | 1 => simp at h3 h4; subst h3; subst h4; exact .same _
        | 2 => simp at h3 h4; subst h3; subst h4; exact .same _
        | 3 => simp at h3 h4; subst h3; subst h4; exact .nil 1
        | 4 => simp at h3 h4; subst h3; subst h4; exact .same _
        | j + 5 => simp at h3
      | i + 1 => simp at h1
  | 1 => simp at hx hy; subst hx; subst hy; exact .same _
  | 2 => simp at hx hy; subst hx; subst hy; exact .same _
  | j + 3 => simp at hx
theorem small'_c (vs : List (List RV)) (h : vs = (inssOf vs).map insR) : FC Cx 45 [.r (.rs 5 vs)] [] (progV (smallP (inssOf vs))) [] := by
  have := small_c (inssOf vs)
  rwa [inssOf_at h] at this
/-- How calls of this function are met. -/
def sp_small' (args : List AV) (K : AV → Prop) : Prop := match args with
  | [.r (.rs 5 vs)] => (vs = (inssOf vs).map insR) ∧ K (progV (smallP (inssOf vs)))
  | _ => False
theorem sp_small'_ok (args : List AV) (K : AV → Prop) (h : sp_small' args K) : ∃ r, CallOk Cx 45 args r ∧ K r := by
  unfold sp_small' at h
  split at h
  · exact ⟨_, CallOk_of (small'_c _ h.1) en45 rfl rfl, h.2⟩
  · exact h.elim
noncomputable def ct_small' : Ct Cx := .pure 45 sp_small' sp_small'_ok
@[go_sem] theorem ct_small'_g : ct_small'.g = 45 := rfl
@[go_sem] theorem ct_small'_run (c : Call) (fop : Operand) (caps : List RV) (o : Oper) (st : St) (K : List Loc → List (Loc × Cont) → Prop) : ct_small'.run c fop caps o st K = callT Cx sp_small' c fop caps o st K := rfl
@[go_sem] theorem sp_small'_eq (args : List AV) (K : AV → Prop) : sp_small' args K = (match args with
    | [.r (.rs 5 vs)] => (vs = (inssOf vs).map insR) ∧ K (progV (smallP (inssOf vs)))
    | _ => False) := rfl
@[go_sem] theorem inssOf_cons (k1 k2 k3 k4 k5 : IntKind) (o a b c l : Int) (xs : List (List RV)) : inssOf ([.v (.int k1 o), .v (.int k2 a), .v (.int k3 b), .v (.int k4 c), .v (.int k5 l)] :: xs) = ⟨o, a, b, c, l⟩ :: inssOf xs := rfl
@[go_sem] theorem inssOf_nil : inssOf [] = [] := rfl

def liveL : List InsT := [⟨30, 1, 3, 0, 0⟩, ⟨31, 0, 0, 0, 0⟩, ⟨28, 0, 0, 0, 0⟩, ⟨29, 1, 0, 0, 0⟩, ⟨28, 0, 0, 0, 0⟩]
theorem small_wf (l : List InsT) (hl : l.length ≤ 100) : Pwf (smallP l) := ⟨⟨by simp [smallP], by simp [smallP], by simp [smallP, wordsL]⟩, fun f hf => by simp [smallP] at hf; subst hf; simp; omega⟩
theorem lives_Tries : TriesF (smallP liveL) 0 = ([[], [(1, 3)], [], [], []], [true, true, true, true, false], 0) := by kernel_rfl
theorem lives_Check : checkF (smallP [⟨2, 0, 0, 0, 0⟩]) = 3 := by kernel_rfl

theorem codeLives_c : FC Cx 19 [] [] (Bv true) [] := by
  have w1 := small_wf liveL (by decide)
  have w2 := small_wf [⟨2, 0, 0, 0, 0⟩] (by decide)
  have hT := lives_Tries
  have hC := lives_Check
  simp only [liveL] at w1 hT
  refine FCp_of [ct_small', ct_Tries', ct_check', ct_eqBool', ct_eqTry'] Tryd.func19 rfl Tryd.ntmps19 (by simp) Tryd.results19 rfl ?_
  apply Rn_st; (intro K0; simp only [go_sem]; exact ⟨id⟩)
  (any_goals refine goF ((1000000, [10, 40]) :: lv19) 0 ?_)
  repeat' (first | (refine Br.go (fun h h' => ?_) (fun h h' => ?_)) | (refine Br.mk (fun h => ?_) (fun h => ?_)))
  all_goals (try simp only [go_sem])



end Go.Proofs.YtjbhpoolghfhiaaDoor
