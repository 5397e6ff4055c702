/- Lists of tries copied; coming to an order, as its callers meet it. No condition: contracts of the program's functions. -/
import Derived.Test.YtjbhpoolghfhiaaDoorCd7
namespace Go.Proofs.YtjbhpoolghfhiaaDoor
set_option linter.unusedVariables false
set_option linter.unusedSimpArgs false
set_option maxHeartbeats 10000000
open Go
set_option maxRecDepth 10000



abbrev tryC (p : Int × Int) : List AV := [Iv p.1, Iv p.2]
theorem flatTryC (l : List (Int × Int)) : ∀ row ∈ l.map tryC, withinL none0 row = true := fun row h => by
  obtain ⟨x, _, rfl⟩ := List.mem_map.1 h; rfl
@[go_sem] theorem okTryC : ∀ l : List (Int × Int), okRows (l.map tryC) = true
  | [] => rfl
  | x :: l => okTryC l
@[go_sem] theorem roTryC (l : List (Int × Int)) : ((l.map tryR).map fun r => r.map AV.r) = l.map tryC := by rw [List.map_map]; rfl
theorem cloneTryP_rows (xs : List (List RV)) : ∀ row ∈ (triesOf xs).map tryC, withinL none0 row = true := flatTryC _
theorem cloneTryP_c (xs : List (List RV)) (h : xs = (triesOf xs).map tryR ∧ xs.length ≤ 1000000000) : FC Cx 21 [.r (.rs 2 xs)] [] (.os 0 1) [(0, 1, .sl 51 2 ((triesOf xs).map tryC))] := by
  have hl : (triesOf xs).length = xs.length := by simp [triesOf]
  have hlenS : ∀ l : List (Int × Int), (l.map tryC).length = l.length := fun l => List.length_map ..
  obtain ⟨h1, h2⟩ := h
  generalize triesOf xs = l at h1 hl
  subst h1
  rw [← hl] at h2
  refine FCo_of [] (i := 0) [.os 0 1] Tryd.func21 rfl Tryd.ntmps21 (by simp) Tryd.results21 (flatTryC _) ?_
  apply Rn_st; (intro K0; simp only [go_sem]; exact ⟨id⟩)
  iterate 8 (any_goals (first | (focus (intro K0; (try simp only [go_sem, *]); (first | exact ⟨id⟩ | (refine ⟨fun h => ?_⟩; (repeat' (first | exact h | refine And.intro ?_ ?_ | omega | rfl)); done)))) | (refine Rn_seq ?_) | (refine Rn_block ?_) | (apply Rn_region' lv21; (exact rfl)) | (refine Rn_region ?_) | (apply Rn_op'; (exact rfl)) | (refine Rn_o_nil ?_) | ((first | apply Rn_g | apply Rd_g); (exact rfl); (exact rfl); (focus (intro K0; (try simp only [lookT, ev, Nat.reduceEqDiff, ↓reduceIte]); exact ⟨id⟩))) | (with_reducible (first | apply RnG_yes | apply RdG_yes)) | ((with_reducible (first | apply RnG_t_no | apply RnG_f_no | apply RnG_un | apply RdG_t_no | apply RdG_f_no | apply RdG_un)); (exact rfl)) | ((first | apply RnG_never | apply RdG_never); (focus (intro K0; (try simp only [go_sem]); exact ⟨id⟩)); (exact rfl)) | ((first | apply RnG_lazy | apply RdG_lazy); (exact rfl); (focus (intro K0; (try simp only [go_sem]); exact ⟨id⟩)); (focus (first | (simp only [Nat.reduceLT]; done) | omega)); (focus (intro hw0; (try simp only [Bool.and_eq_true, Bool.not_eq_true', beq_true', beq_false'] at hw0); (focus (intro K0; (try simp only [go_sem, *]); (first | exact ⟨id⟩ | (refine ⟨fun h => ?_⟩; (repeat' (first | exact h | refine And.intro ?_ ?_ | omega | rfl)); done))))))) | (apply Rn_c; (focus (intro K0; (try simp only [lookT, ev, Nat.reduceEqDiff, ↓reduceIte]); exact ⟨id⟩))) | (with_reducible (first | refine RnC_t ?_ | refine RnC_f ?_)) | (refine Rn_skip ?_) | (refine Rn_exit rfl ?_) | (refine Rn_b ?_) | (apply Rn_draw' lv21; (exact rfl)) | (refine Rn_draw ?_) | (apply Rd_op'; (exact rfl)) | (refine Rd_nil (by kernel_rfl) ?_) | ((with_reducible (first | refine RnG_split (fun h => ?_) (fun h => ?_) | refine RdG_split (fun h => ?_) (fun h => ?_) | refine RnC_split (fun h => ?_) (fun h => ?_))) <;> (have h' := h) <;> (try simp only [decide_eq_true_eq, decide_eq_false_iff_not, Bool.not_eq_true', Bool.not_eq_false', Bool.and_eq_true, Bool.or_eq_true, Bool.or_eq_false_iff, beq_iff_eq, bne_iff_ne, ne_eq, Bool.not_true, Bool.not_false, not_false_eq_true, reduceCtorEq, beq_eq_false_iff_ne, bne_eq_false_iff_eq] at h') <;> (first | apply Rn_st | apply Rd_st)) | (refine Rn_out_ck rfl rfl ?_) | (first | refine Rn_ret_ck ?_ | refine Rn_ret ?_ | refine Rn_nil_then ?_) | (refine LoopN_step (T := []) ?_) | (refine Rn_nil ?_)))
  · intro K0; (try simp only [go_sem]); exact ⟨id⟩
  refine Rn_isnil (sz := 2) rfl (.inl rfl) rfl rfl (Nat.le_of_ble_eq_true rfl) rfl rfl (by kernel_rfl) (fun q hq => ?_)
  apply Rn_o_st
  · intro K0; (try simp only [go_sem]); exact ⟨id⟩
  cases q with
  | true =>
    have h0 : l = [] := by have := hq rfl; simpa using this
    subst h0
    (any_goals refine go lv21 0 ?_)
    repeat' (first | (refine Br.go (fun h h' => ?_) (fun h h' => ?_)) | (refine Br.mk (fun h => ?_) (fun h => ?_)))
    all_goals (try simp only [go_sem])
  | false =>
    clear hq
    (any_goals refine go lv21 0 ?_)
    repeat' (first | (refine Br.go (fun h h' => ?_) (fun h h' => ?_)) | (refine Br.mk (fun h => ?_) (fun h => ?_)))
    all_goals (try simp only [go_sem])
/-- How calls of this function are met. -/
def sp_cloneTryP (st : St) (d : Nat) (args : List AV) (K : AV → List Loc → List (Loc × Cont) → Prop) : Prop := match args with
  | [.r (.rs 2 xs)] => (xs = (triesOf xs).map tryR ∧ xs.length ≤ 1000000000) ∧ K (ren (fun _ => d) (fun _ => st.cur d) (.os 0 1)) [.R d] [(.R d, .s (1 + st.cur d) (.sl 51 2 ((triesOf xs).map tryC)))]
  | _ => False
theorem sp_cloneTryP_ok (st : St) (d : Nat) (args : List AV) (K : AV → List Loc → List (Loc × Cont) → Prop) (h : sp_cloneTryP st d args K) : ∃ r ls outs, CallR Cx 21 st args r ls outs ∧ K r ls outs := by
  unfold sp_cloneTryP at h
  split at h
  · exact ⟨_, _, _, CallR.own (cloneTryP_c _ h.1) rfl (cloneTryP_rows _) rfl d, h.2⟩
  · exact h.elim
noncomputable def ct_cloneTryP : Ct Cx := .res 21 sp_cloneTryP en21 sp_cloneTryP_ok
@[go_sem] theorem ct_cloneTryP_g : ct_cloneTryP.g = 21 := rfl
@[go_sem] theorem ct_cloneTryP_run (c : Call) (fop : Operand) (caps : List RV) (o : Oper) (st : St) (K : List Loc → List (Loc × Cont) → Prop) : ct_cloneTryP.run c fop caps o st K = callG sp_cloneTryP c fop caps o st K := rfl
@[go_sem] theorem sp_cloneTryP_eq (st : St) (d : Nat) (args : List AV) (K : AV → List Loc → List (Loc × Cont) → Prop) : sp_cloneTryP st d args K = (match args with
    | [.r (.rs 2 xs)] => (xs = (triesOf xs).map tryR ∧ xs.length ≤ 1000000000) ∧ K (ren (fun _ => d) (fun _ => st.cur d) (.os 0 1)) [.R d] [(.R d, .s (1 + st.cur d) (.sl 51 2 ((triesOf xs).map tryC)))]
    | _ => False) := rfl
theorem cloneTry_c (xs : List (List RV)) (h : xs = (triesOf xs).map tryR ∧ xs.length ≤ 1000000000) : FC Cx 21 [.r (.rs 2 xs)] [] (triesV (triesOf xs)) [] := (cloneTryP_c xs h).freeze1 (roTryC _).symm
/-- How calls of this function are met. -/
def sp_cloneTry (args : List AV) (K : AV → Prop) : Prop := match args with
  | [.r (.rs 2 xs)] => (xs = (triesOf xs).map tryR ∧ xs.length ≤ 1000000000) ∧ K (triesV (triesOf xs))
  | _ => False
theorem sp_cloneTry_ok (args : List AV) (K : AV → Prop) (h : sp_cloneTry args K) : ∃ r, CallOk Cx 21 args r ∧ K r := by
  unfold sp_cloneTry at h
  split at h
  · exact ⟨_, CallOk_of (cloneTry_c _ h.1) en21 rfl rfl, h.2⟩
  · exact h.elim
noncomputable def ct_cloneTry : Ct Cx := .pure 21 sp_cloneTry sp_cloneTry_ok
@[go_sem] theorem ct_cloneTry_g : ct_cloneTry.g = 21 := rfl
@[go_sem] theorem ct_cloneTry_run (c : Call) (fop : Operand) (caps : List RV) (o : Oper) (st : St) (K : List Loc → List (Loc × Cont) → Prop) : ct_cloneTry.run c fop caps o st K = callT Cx sp_cloneTry c fop caps o st K := rfl
@[go_sem] theorem sp_cloneTry_eq (args : List AV) (K : AV → Prop) : sp_cloneTry args K = (match args with
    | [.r (.rs 2 xs)] => (xs = (triesOf xs).map tryR ∧ xs.length ≤ 1000000000) ∧ K (triesV (triesOf xs))
    | _ => False) := rfl


def boolsC (xs : List (List AV)) : List Bool := xs.map fun r => match r with | [.r (.v (.bool b))] => b | _ => false
def trsCs (xs : List (List AV)) : List (List (Int × Int)) := xs.map fun r => match r with | [.r (.rs _ l)] => triesOf l | _ => []
def intsC (xs : List (List AV)) : List Int := xs.map fun r => match r with | [.r (.v (.int _ n))] => n | _ => 0
@[go_sem] theorem boolsC_map (l : List Bool) : boolsC (l.map boolC) = l := by
  unfold boolsC; rw [List.map_map]; conv => rhs; rw [← List.map_id l]
  exact List.map_congr_left fun x _ => rfl
@[go_sem] theorem trsCs_map (l : List (List (Int × Int))) : trsCs (l.map trsC) = l := by
  unfold trsCs; rw [List.map_map]; conv => rhs; rw [← List.map_id l]
  exact List.map_congr_left fun x _ => triesOf_map x
@[go_sem] theorem intsC_map (l : List Int) : intsC (l.map intC) = l := by
  unfold intsC; rw [List.map_map]; conv => rhs; rw [← List.map_id l]
  exact List.map_congr_left fun x _ => rfl
@[go_sem] theorem wt_eta (W : WT) : WT.mk W.seen W.out W.todo W.bad = W := rfl

theorem FC_arg {C : Ctx} {f : Nat} {pre post : List AV} {x y : AV} {rs0 rs1 : List (Nat × Nat × Res)} {r : AV} (h : FC C f (pre ++ y :: post) rs0 r rs1) (hxy : ∀ cur g w N v, AR cur g w N x v → AR cur g w N y v) : FC C f (pre ++ x :: post) rs0 r rs1 := by
  refine ⟨fun e g w vs hok hs hvs => h.run e g w vs hok hs ⟨by rw [hvs.1]; simp, fun j a v ha hv => ?_⟩⟩
  by_cases hj : j < pre.length
  · rw [List.getElem?_append_left hj] at ha
    exact hvs.2 j a v (by rw [List.getElem?_append_left hj]; exact ha) hv
  · rw [List.getElem?_append_right (by omega)] at ha
    cases hd : j - pre.length with
    | zero =>
      rw [hd] at ha; simp at ha; subst ha
      exact hxy _ _ _ _ _ (hvs.2 j x v (by rw [List.getElem?_append_right (by omega), hd]; rfl) hv)
    | succ i =>
      rw [hd] at ha
      exact hvs.2 j a v (by rw [List.getElem?_append_right (by omega), hd]; exact ha) hv

theorem AR_nil {cur : Nat → Nat} {g : Gh} {w : World} {N : Nat → Prop} {v : Value} (sz : Nat) (h : AR cur g w N NilS v) : AR cur g w N (.r (.rs sz [])) v := by
  rw [inv_v h]; exact .r (.nil sz)

theorem comeN_c (f : FnT) (n : Int) (W : WT) (hn : 0 ≤ n) (hw : Wok f W) :
    FC Cx 60 [.os 0 0, Iv n, NilS] (rsW 0 f W) (.tup []) (rsW 1 f (comeF f n [] W)) :=
  FC_arg (pre := [.os 0 0, Iv n]) (post := []) (come_c f n [] W hn hw (Nat.zero_le _)) fun cur g w N v h => AR_nil 2 h

theorem domW (v : Nat) (f : FnT) (W : WT) (k : Nat) : domR (rsW v f W) k = decide (k < 4) := by
  have e : lookR k (rsW v f W) = if k = 0 then (0, wbx f v W.bad) else if k = 1 then (0, .sl 4 1 (W.seen.map boolC)) else if k = 2 then (0, .sl 49 1 (W.out.map trsC)) else if k = 3 then (v, .sl 3 1 (W.todo.map intC)) else (0, .gone) := rfl
  unfold domR
  rw [e]
  by_cases h0 : k = 0
  · subst h0; rfl
  · by_cases h1 : k = 1
    · subst h1; rfl
    · by_cases h2 : k = 2
      · subst h2; rfl
      · by_cases h3 : k = 3
        · subst h3; rfl
        · rw [if_neg h0, if_neg h1, if_neg h2, if_neg h3]
          symm; simp; omega

theorem map_none {l : List (List AV)} {σ δ : Nat → Nat} (h : ∀ row ∈ l, withinL none0 row = true) : l.map (renL σ δ) = l := by
  conv => rhs; rw [← List.map_id l]
  exact List.map_congr_left fun row hr => renL_none (h row hr)

/-- How calls that turn the walk's memory are met: its parts are told. -/
def spW (pre : FnT → WT → Prop) (g : FnT → WT → WT) (bump : Nat) (st : St) (a : AV) (K : List Loc → List (Loc × Cont) → Prop) : Prop := match a with
  | .os k0 v0 => match lookR k0 st.rs with
    | (w0, .bx [.r (.v (.int .i64 pa)), .r (.v (.int .i64 rg)), .r (.v (.bool ge)), .r (.rs 1 us), .r (.rs 5 vs), .os k1 v1, .os k2 v2, .os k3 v3, .r (.v (.bool bad))]) =>
      match lookR k1 st.rs, lookR k2 st.rs, lookR k3 st.rs with
      | (w1, .sl e1 1 r1), (w2, .sl e2 1 r2), (w3, .sl e3 1 r3) =>
        (v0 = w0 ∧ v1 = w1 ∧ v2 = w2 ∧ v3 = w3 ∧ e1 = 4 ∧ e2 = 49 ∧ e3 = 3 ∧ ndB [k0, k1, k2, k3] = true ∧ us = (intsOf us).map intR ∧ vs = (inssOf vs).map insR ∧ r1 = (boolsC r1).map boolC ∧ r2 = (trsCs r2).map trsC ∧ r3 = (intsC r3).map intC ∧ pre ⟨pa, rg, ge, intsOf us, inssOf vs⟩ ⟨boolsC r1, trsCs r2, intsC r3, bad⟩) ∧
          K [.R k0, .R k1, .R k2, .R k3] [(.R k0, .s v0 (.bx [Iv pa, Iv rg, Bv ge, .r (.rs 1 us), .r (.rs 5 vs), .os k1 v1, .os k2 v2, .os k3 (bump + v3), Bv (g ⟨pa, rg, ge, intsOf us, inssOf vs⟩ ⟨boolsC r1, trsCs r2, intsC r3, bad⟩).bad])), (.R k1, .s v1 (.sl 4 1 ((g ⟨pa, rg, ge, intsOf us, inssOf vs⟩ ⟨boolsC r1, trsCs r2, intsC r3, bad⟩).seen.map boolC))), (.R k2, .s v2 (.sl 49 1 ((g ⟨pa, rg, ge, intsOf us, inssOf vs⟩ ⟨boolsC r1, trsCs r2, intsC r3, bad⟩).out.map trsC))), (.R k3, .s (bump + v3) (.sl 3 1 ((g ⟨pa, rg, ge, intsOf us, inssOf vs⟩ ⟨boolsC r1, trsCs r2, intsC r3, bad⟩).todo.map intC)))]
      | _, _, _ => False
    | _ => False
  | _ => False

theorem spW_ok {f : Nat} {st : St} {args : List AV} {pre : FnT → WT → Prop} {g : FnT → WT → WT} {bump : Nat} (hfc : ∀ F W, pre F W → FC Cx f (.os 0 0 :: args) (rsW 0 F W) (.tup []) (rsW bump F (g F W))) (ha : withinL none0 args = true) {a : AV} {K : List Loc → List (Loc × Cont) → Prop} (h : spW pre g bump st a K) :
    ∃ ls outs, CallR Cx f st (a :: args) (.tup []) ls outs ∧ K ls outs := by
  unfold spW at h
  split at h
  · rename_i k0 v0
    split at h
    · rename_i w0 pa rg ge us vs k1 v1 k2 v2 k3 v3 bad hk0
      split at h
      · rename_i w1 e1 r1 w2 e2 r2 w3 e3 r3 hk1 hk2 hk3
        obtain ⟨⟨rfl, rfl, rfl, rfl, rfl, rfl, rfl, hnd, hu, hv, h1, h2, h3, hp⟩, hK⟩ := h
        refine ⟨_, _, ?_, hK⟩
        have hc := hfc _ _ hp
        generalize g ⟨pa, rg, ge, intsOf us, inssOf vs⟩ ⟨boolsC r1, trsCs r2, intsC r3, bad⟩ = W' at hc ⊢
        have hin : ∀ (v : Nat) (F : FnT) (W : WT) (p : Nat × Nat × Res), p ∈ rsW v F W → withinRes (domR (rsW v F W)) p.2.2 := fun v F W p hp => by
          simp only [rsW, List.mem_cons, List.not_mem_nil, or_false] at hp
          rcases hp with rfl | rfl | rfl | rfl
          · show withinL _ _ = true; simp only [withinL, within, domW]; rfl
          · exact fun row h => withinL_none (flatBool _ row h)
          · exact fun row h => withinL_none (flatTrs _ row h)
          · exact fun row h => withinL_none (flatInt _ row h)
        have := CallR.gen (st := st) hc [(0, k0, v0), (1, k1, v1), (2, k2, v2), (3, k3, v3)] rfl (ndB_ok hnd) (by
            simp only [withinL, within, domW, withinL_none ha]; rfl) rfl (hin _ _ _) (hin _ _ _) (fun p hp => ?_) (fun q hq d0 d1 => ?_)
        · have e0 : renL (mpS [(0, k0, v0), (1, k1, v1), (2, k2, v2), (3, k3, v3)]) (mpD [(0, k0, v0), (1, k1, v1), (2, k2, v2), (3, k3, v3)]) args = args := renL_none ha
          simp only [renL, ren, e0] at this
          simpa only [mpS, mpD, ren, renL, renRes, List.map_cons, List.map_nil, backV, domW, lookR, rsW, Nat.reduceEqDiff, ↓reduceIte, map_none (flatBool _), map_none (flatTrs _), map_none (flatInt _), Nat.zero_add, Nat.reduceLT, decide_true, ← hu, ← hv] using this
        · simp only [rsW, List.mem_cons, List.not_mem_nil, or_false] at hp
          rcases hp with rfl | rfl | rfl | rfl
          · simp only [mpS, mpD, renRes, renL, ren, Nat.reduceEqDiff, ↓reduceIte, hk0, Nat.zero_add, ← hu, ← hv]
          · show lookR k1 st.rs = (0 + v1, Res.sl _ 1 (((boolsC r1).map boolC).map (renL _ _)))
            rw [map_none (flatBool _), ← h1, hk1, Nat.zero_add]
          · show lookR k2 st.rs = (0 + v2, Res.sl _ 1 (((trsCs r2).map trsC).map (renL _ _)))
            rw [map_none (flatTrs _), ← h2, hk2, Nat.zero_add]
          · show lookR k3 st.rs = (0 + v3, Res.sl _ 1 (((intsC r3).map intC).map (renL _ _)))
            rw [map_none (flatInt _), ← h3, hk3, Nat.zero_add]
        · simp only [domW] at d0 d1
          rw [d0] at d1; cases d1
      · exact h.elim
    · exact h.elim
  · exact h.elim

/-- How calls of this function are met. -/
def sp_come (st : St) (_ : Nat) (args : List AV) (K : AV → List Loc → List (Loc × Cont) → Prop) : Prop := match args with
  | [a, .r (.v (.int .i64 n)), .r (.rs 2 xs)] => spW (fun F W => xs = (triesOf xs).map tryR ∧ 0 ≤ n ∧ xs.length ≤ 1000 ∧ Wok F W) (fun F W => comeF F n (triesOf xs) W) 1 st a (K (.tup []))
  | [a, .r (.v (.int .i64 n)), .r (.v (.slice none 0 0))] => spW (fun F W => 0 ≤ n ∧ Wok F W) (fun F W => comeF F n [] W) 1 st a (K (.tup []))
  | _ => False
theorem sp_come_ok (st : St) (d : Nat) (args : List AV) (K : AV → List Loc → List (Loc × Cont) → Prop) (h : sp_come st d args K) : ∃ r ls outs, CallR Cx 60 st args r ls outs ∧ K r ls outs := by
  unfold sp_come at h
  split at h
  · rename_i a n xs
    obtain ⟨ls, outs, h1, h2⟩ := spW_ok (f := 60) (args := [Iv n, .r (.rs 2 xs)]) (fun F W hp => by
      have := come_c F n (triesOf xs) W hp.2.1 hp.2.2.2 (by simpa [triesOf] using hp.2.2.1)
      rwa [triesOf_at hp.1] at this) rfl h
    exact ⟨_, ls, outs, h1, h2⟩
  · rename_i a n
    obtain ⟨ls, outs, h1, h2⟩ := spW_ok (f := 60) (args := [Iv n, NilS]) (fun F W hp => comeN_c F n W hp.1 hp.2) rfl h
    exact ⟨_, ls, outs, h1, h2⟩
  · exact h.elim
noncomputable def ct_come : Ct Cx := .res 60 sp_come en60 sp_come_ok
@[go_sem] theorem ct_come_g : ct_come.g = 60 := rfl
@[go_sem] theorem ct_come_run (c : Call) (fop : Operand) (caps : List RV) (o : Oper) (st : St) (K : List Loc → List (Loc × Cont) → Prop) : ct_come.run c fop caps o st K = callG sp_come c fop caps o st K := rfl
attribute [go_sem] sp_come spW

end Go.Proofs.YtjbhpoolghfhiaaDoor
