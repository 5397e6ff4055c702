/- That the checks live; each program that may be has a beginning. No condition: contracts of the laws' functions. -/
import Derived.Test.YtbhnmolmkembdaaGreatDoorQ5
namespace Go.Proofs.YtbhnmolmkembdaaGreatDoor
set_option linter.unusedVariables false
set_option linter.unusedSimpArgs false
set_option maxHeartbeats 10000000
open Go
set_option maxRecDepth 10000
def nilT : AV → Prop
 | .r (.rs _ []) => True
 | _ => False
def rowA : List AV → List AV → Prop
 | [], [] => True
 | x :: l, y :: m => (y = x ∨ x = NilS ∧ nilT y) ∧ rowA l m
 | _, _ => False
def rowsA : List (List AV) → List (List AV) → Prop
 | [], [] => True
 | x :: l, y :: m => rowA x y ∧ rowsA l m
 | _, _ => False
theorem rowA_at : ∀ {l m : List AV} {j : Nat} {x y : AV}, rowA l m → l[j]? = some x → m[j]? = some y → y = x ∨ x = NilS ∧ nilT y
 | x' :: l, y' :: m, 0, x, y, h, hx, hy => by simp at hx hy; subst hx; subst hy; exact h.1
 | x' :: l, y' :: m, j + 1, x, y, h, hx, hy => rowA_at h.2 (by simpa using hx) (by simpa using hy)
 | [], _, _, _, _, _, hx, _ => by simp at hx
 | _ :: _, [], _, _, _, _, _, hy => by simp at hy
theorem rowsA_at : ∀ {l m : List (List AV)} {j : Nat} {x y : List AV}, rowsA l m → l[j]? = some x → m[j]? = some y → rowA x y
 | x' :: l, y' :: m, 0, x, y, h, hx, hy => by simp at hx hy; subst hx; subst hy; exact h.1
 | x' :: l, y' :: m, j + 1, x, y, h, hx, hy => rowsA_at h.2 (by simpa using hx) (by simpa using hy)
 | [], _, _, _, _, _, hx, _ => by simp at hx
 | _ :: _, [], _, _, _, _, _, hy => by simp at hy
theorem rowsA_ok {rows rows' : List (List AV)} (h : rowsA rows rows') (i j : Nat) (row row' : List AV) (x x' : AV) (h1 : rows[i]? = some row) (h2 : rows'[i]? = some row') (h3 : row[j]? = some x) (h4 : row'[j]? = some x') (cur : Nat → Nat) (g : Gh) (w : World) (N : Nat → Prop) (v : Value) (hv : AR cur g w N x v) : AR cur g w N x' v := by
 rcases rowA_at (rowsA_at h h1 h2) h3 h4 with rfl | ⟨rfl, hn⟩
 ·exact hv
 ·rw [inv_v hv]
  unfold nilT at hn
  split at hn
  ·exact .r (.nil _)
  ·exact hn.elim
theorem Rn_tellL {C : Ctx} {T : List (Ct C)} {r : List It} {st st' : St} {K : Exit → St → Prop} (k : Nat) {ver el sz : Nat} {rows : List (List AV)} (rows' : List (List AV)) (hk : lookR k st.rs = (ver, .sl el sz rows)) (hl : rows'.length = rows.length) (hr : ∀ row ∈ rows', (row.length, noNd row) = (sz, true))
  (hv : rowsA rows rows') (hc : hasC r = true) (hst : ∀ K0 : St → Prop, Imp (K0 st') (K0 { st with rs := putR k (ver, .sl el sz rows') st.rs })) (hk2 : Rn C T r st' K) : Rn C T r st K :=
 Rn_tellS k rows' hk hl hr (rowsA_ok hv) hc hst hk2
def startF (p : ProgT) : StateT := if checkF p = 0 then startS p else emptyS
def sp_same (args : List AV) (K : AV → Prop) : Prop := match args with
 | [.agg [.r (.rs 4 ca), .r (.rs 2 sh), .r (.rs 1 tx), .r (.rs 5 th), .r (.rs 3 en), .r (.rs 2 sd), .r (.v (.int .i64 aq)), .r (.v (.int .i64 sq))], .agg [.r (.rs 4 ca'), .r (.rs 2 sh'), .r (.rs 1 tx'), .r (.rs 5 th'), .r (.rs 3 en'), .r (.rs 2 sd'), .r (.v (.int .i64 aq')), .r (.v (.int .i64 sq'))]] => (((ca = (cellsOf ca).map cellR ∧ sh = (valsOf sh).map valR ∧ tx = (strsOf tx).map strR ∧ th = (threadsOf th).map threadR ∧ en = (endsOf en).map endR ∧ sd = (valsOf sd).map valR) ∧ (ca' = (cellsOf ca').map cellR ∧ sh' = (valsOf sh').map valR ∧ tx' = (strsOf tx').map strR ∧ th' = (threadsOf th').map threadR ∧ en' = (endsOf en').map endR ∧ sd' = (valsOf sd').map valR)) ∧ Swf ⟨cellsOf ca, valsOf sh, strsOf tx, threadsOf th, endsOf en, valsOf sd, aq, sq⟩ ∧ Swf ⟨cellsOf ca', valsOf sh', strsOf tx', threadsOf th', endsOf en', valsOf sd', aq', sq'⟩) ∧ K (Bv (decide (⟨cellsOf ca, valsOf sh, strsOf tx, threadsOf th, endsOf en, valsOf sd, aq, sq⟩ = (⟨cellsOf ca', valsOf sh', strsOf tx', threadsOf th', endsOf en', valsOf sd', aq', sq'⟩ : StateT))))
 | _ => False
attribute [go_sem] sp_same
theorem WI_of {n : Int} (h1 : -9223372036854775808 ≤ n) (h2 : n ≤ 9223372036854775807) : WI n := by
 have e1 : IntKind.i64.min = -9223372036854775808 := rfl
 have e2 : IntKind.i64.max = 9223372036854775807 := rfl
 show (decide (IntKind.i64.min ≤ n) && decide (n ≤ IntKind.i64.max)) = true
 rw [e1, e2]
 simp only [Bool.and_eq_true, decide_eq_true_eq]
 exact ⟨h1, h2⟩
theorem check_regs {p : ProgT} (hw : Pwf p) (hp : checkF p = 0) : (p.fns.getD 0 fn0).regs ≤ 60 := by
 have hn := check_some hp
 have hF : p.fns[0]? = some p.fns[0] := List.getElem?_eq_getElem _
 obtain ⟨hpok, _⟩ := check_fn hw hp (List.mem_of_getElem? hF)
 rw [List.getD_eq_getElem?_getD, hF]
 exact (hpok.fn _ (List.mem_of_getElem? hF)).2.1
theorem start_wf {p : ProgT} (hw : Pwf p) : Swf (startF p) := by
 have hsz := hw.sz.texts
 unfold startF
 split
 ·rename_i hp
  have hr := check_regs hw hp
  refine ⟨⟨by simp [startS], by simp [startS], by simpa [startS] using hsz, by simp [startS], by simp [startS], by simp [startS]⟩, ?_, fun c hc => ?_, fun t ht => ?_⟩
  ·intro q hq
   simp [startS] at hq; subst hq
   exact ⟨WI_of (by simp) (by simp), WI_of (by simp) (by simp)⟩
  ·simp [startS] at hc; subst hc
   exact ⟨by simp, by simp, by simp, by simp⟩
  ·simp [startS] at ht; subst ht
   refine ⟨by simp, fun f hf => ?_⟩
   simp at hf; subst hf
   refine ⟨?_, by simp, WI_of (by simp) (by simp)⟩
   rw [List.getD_eq_getElem?_getD] at hr
   simp; omega
 ·refine ⟨⟨by simp [emptyS], by simp [emptyS], by simp [emptyS], by simp [emptyS], by simp [emptyS], by simp [emptyS]⟩, ?_, fun c hc => by simp [emptyS] at hc, fun t ht => by simp [emptyS] at ht⟩
  intro q hq
  simp [emptyS] at hq
theorem start_fault {p : ProgT} (hw : Pwf p) (hp : checkF p = 0) : faultS p (startF p) = 0 := by
 unfold startF; rw [if_pos hp]; exact rightS_iff.2 (start_right hw hp)
@[go_sem] theorem threadsOf_cons (k1 k2 k3 k4 : IntKind) (sz : Nat) (fs : List (List RV)) (a b c d : Int) (xs : List (List RV)) : threadsOf ([.rs sz fs, .v (.int k1 a), .v (.int k2 b), .v (.int k3 c), .v (.int k4 d)] :: xs) = ⟨framesOf fs, a, b, (c, d)⟩ :: threadsOf xs := rfl
@[go_sem] theorem threadsOf_nil : threadsOf [] = [] := rfl
@[go_sem] theorem framesOf_cons (k1 k2 k3 k4 k5 k6 : IntKind) (s1 s2 : Nat) (us vs : List (List RV)) (a b c d e f : Int) (xs : List (List RV)) : framesOf ([.v (.int k1 a), .v (.int k2 b), .v (.int k3 c), .v (.int k4 d), .v (.int k5 e), .v (.int k6 f), .rs s1 us, .rs s2 vs] :: xs) = ⟨a, b, c, d, (e, f), valsOf us, triesOf vs⟩ :: framesOf xs := rfl
@[go_sem] theorem framesOf_nil : framesOf [] = [] := rfl
@[go_sem] theorem valsOf_nil : valsOf [] = [] := rfl
@[go_sem] theorem triesOf_nil : triesOf [] = [] := rfl
@[go_sem] theorem intsOf_cons (k : IntKind) (n : Int) (xs : List (List RV)) : intsOf ([.v (.int k n)] :: xs) = n :: intsOf xs := rfl
@[go_sem] theorem intsOf_nil : intsOf [] = [] := rfl
def elB : AV → RV → Prop
 | .r z, y => z = y
 | .nd _ s rs, y => y = .rs s (ndRs rs)
 | _, _ => False
def rowEB : List AV → List RV → Prop
 | [], [] => True
 | x :: l, y :: m => elB x y ∧ rowEB l m
 | _, _ => False
def rowsEB : List (List AV) → List (List RV) → Prop
 | [], [] => True
 | x :: l, y :: m => rowEB x y ∧ rowsEB l m
 | _, _ => False
theorem rowEB_len : ∀ {l : List AV} {m : List RV}, rowEB l m → m.length = l.length
 | [], [], _ => rfl
 | _ :: _, _ :: _, h => by simp [rowEB_len h.2]
 | [], _ :: _, h => h.elim
 | _ :: _, [], h => h.elim
theorem rowEB_at : ∀ {l : List AV} {m : List RV} {j : Nat} {x : AV} {y : RV}, rowEB l m → l[j]? = some x → m[j]? = some y → elB x y
 | x' :: l, y' :: m, 0, x, y, h, hx, hy => by simp at hx hy; subst hx; subst hy; exact h.1
 | x' :: l, y' :: m, j + 1, x, y, h, hx, hy => rowEB_at h.2 (by simpa using hx) (by simpa using hy)
 | [], _, _, _, _, _, hx, _ => by simp at hx
 | _ :: _, [], _, _, _, _, _, hy => by simp at hy
theorem rowsEB_len : ∀ {l : List (List AV)} {m : List (List RV)}, rowsEB l m → m.length = l.length
 | [], [], _ => rfl
 | _ :: _, _ :: _, h => by simp [rowsEB_len h.2]
 | [], _ :: _, h => h.elim
 | _ :: _, [], h => h.elim
theorem rowsEB_at : ∀ {l : List (List AV)} {m : List (List RV)} {j : Nat} {x : List AV} {y : List RV}, rowsEB l m → l[j]? = some x → m[j]? = some y → rowEB x y
 | x' :: l, y' :: m, 0, x, y, h, hx, hy => by simp at hx hy; subst hx; subst hy; exact h.1
 | x' :: l, y' :: m, j + 1, x, y, h, hx, hy => rowsEB_at h.2 (by simpa using hx) (by simpa using hy)
 | [], _, _, _, _, _, hx, _ => by simp at hx
 | _ :: _, [], _, _, _, _, _, hy => by simp at hy
theorem rowsEB_map {α : Type} {f : α → List AV} {g : α → List RV} (h : ∀ x, rowEB (f x) (g x)) : ∀ {l : List α}, rowsEB (l.map f) (l.map g)
 | [] => trivial
 | x :: _ => ⟨h x, rowsEB_map h⟩
theorem elB_bor {ls : List Loc} {st : St} {x : AV} {y : RV} (h : elB x y) : Bor ls st x (.r y) := by
 unfold elB at h
 split at h
 ·subst h; exact .same _ rfl
 ·subst h; exact .nd _ _ _
 ·exact h.elim
theorem Bor_rows {st : St} {k ver e sz : Nat} {rows : List (List AV)} {rowsR : List (List RV)} (hk : lookR k st.rs = (ver, .sl e sz rows)) (h : rowsEB rows rowsR) : Bor [.R k] st (.os k ver) (.r (.rs sz rowsR)) :=
 .sl k ver e sz rows rowsR (by simp) hk (rowsEB_len h) (fun i row rowR h1 h2 => rowEB_len (rowsEB_at h h1 h2)) fun i j row rowR x y h1 h2 h3 h4 => elB_bor (rowEB_at (rowsEB_at h h1 h2) h3 h4)
section
variable {C : Ctx} {T : List (Ct C)} {r : List It} {st st' : St} {K : Exit → St → Prop}
theorem Rn_frzX (k : Nat) {ver e sz : Nat} {rows : List (List AV)} (rowsR : List (List RV)) (hk : lookR k st.rs = (ver, .sl e sz rows)) (h : rowsEB rows rowsR) (hr : hasC r = true) (hst : ∀ K0 : St → Prop, Imp (K0 st') (K0 (frzSt k ver (.rs sz rowsR) st))) (hk2 : Rn C T r st' K) : Rn C T r st K := by
 have hk' := (hst fun s => Rn C T r s K).run hk2
 exact Rn_up hr (fun e a w ⟨ho, g, hs⟩ => ⟨ho, g, hs.frz hk (by simp) (Bor_rows hk h)⟩) hk'
end
abbrev cellC (c : CellT) : List AV := [Iv c.kind, Iv c.num, valsV c.vals, framesV c.frames]
abbrev threadC (t : ThreadT) : List AV := [framesV t.frames, Iv t.state, Iv t.on, Iv t.val.1, Iv t.val.2]
abbrev frameC (f : FrameT) : List AV := [Iv f.fn, Iv f.pc, Iv f.tov, Iv f.gen, Iv f.self.1, Iv f.self.2, valsV f.regs, triesV f.tries]
abbrev endC (e : EndT) : List AV := [Iv e.cell, Iv e.fn.1, Iv e.fn.2]
theorem flatCellC (l : List CellT) : ∀ row ∈ l.map cellC, withinL none0 row = true := fun row h => by
 obtain ⟨x, _, rfl⟩ := List.mem_map.1 h; rfl
@[go_sem] theorem okCellC : ∀ l : List CellT, okRows (l.map cellC) = true
 | [] => rfl
 | x :: l => okCellC l
@[go_sem] theorem roCellC (l : List CellT) : ((l.map cellR).map fun r => r.map AV.r) = l.map cellC := by rw [List.map_map]; rfl
theorem cloneCellP_rows (xs : List (List RV)) : ∀ row ∈ (cellsOf xs).map cellC, withinL none0 row = true := flatCellC _
theorem cloneCellP_c (xs : List (List RV)) (h : xs = (cellsOf xs).map cellR ∧ xs.length ≤ 1000000000) : FC Cx 21 [.r (.rs 4 xs)] [] (.os 0 1) [(0, 1, .sl 48 4 ((cellsOf xs).map cellC))] := by
 have hl : (cellsOf xs).length = xs.length := by simp [cellsOf]
 have hlenS : ∀ l : List CellT, (l.map cellC).length = l.length := fun l => List.length_map ..
 obtain ⟨h1, h2⟩ := h
 generalize cellsOf xs = l at h1 hl
 subst h1
 rw [← hl] at h2
 refine FCo_of [] (i := 0) [.os 0 1] Tryz.func21 rfl Tryz.ntmps21 (by simp) Tryz.results21 (flatCellC _) ?_
 refine rnst ?_
 iterate 8 (any_goals (first | (focus (intro K0; (try simp only [go_sem, *]); (first | exact ⟨id⟩ | (refine ⟨fun h => ?_⟩; (repeat' (first | exact h | refine And.intro ?_ ?_ | omega | rfl)); done)))) | (refine Rn_seq ?_) | (refine Rn_block ?_) | (apply Rn_region' lv21; (exact rfl)) | (refine Rn_region ?_) | (apply Rn_op'; (exact rfl)) | (refine Rn_o_nil ?_) | ((first | apply Rn_g | apply Rd_g); (exact rfl); (exact rfl); (focus (intro K0; (try simp only [lookT, ev, Nat.reduceEqDiff, ↓reduceIte]); exact ⟨id⟩))) | (with_reducible (first | apply RnG_yes | apply RdG_yes)) | ((with_reducible (first | apply RnG_t_no | apply RnG_f_no | apply RnG_un | apply RdG_t_no | apply RdG_f_no | apply RdG_un)); (exact rfl)) | ((first | apply RnG_never | apply RdG_never); (focus (intro K0; (try simp only [go_sem]); exact ⟨id⟩)); (exact rfl)) | ((first | apply RnG_lazy | apply RdG_lazy); (exact rfl); (focus (intro K0; (try simp only [go_sem]); exact ⟨id⟩)); (focus (first | (simp only [Nat.reduceLT]; done) | omega)); (focus (intro hw0; (try simp only [Bool.and_eq_true, Bool.not_eq_true', beq_true', beq_false'] at hw0); (focus (intro K0; (try simp only [go_sem, *]); (first | exact ⟨id⟩ | (refine ⟨fun h => ?_⟩; (repeat' (first | exact h | refine And.intro ?_ ?_ | omega | rfl)); done))))))) | (apply Rn_c; (focus (intro K0; (try simp only [lookT, ev, Nat.reduceEqDiff, ↓reduceIte]); exact ⟨id⟩))) | (with_reducible (first | refine RnC_t ?_ | refine RnC_f ?_)) | (refine Rn_skip ?_) | (refine Rn_exit rfl ?_) | (refine Rn_b ?_) | (apply Rn_draw' lv21; (exact rfl)) | (refine Rn_draw ?_) | (apply Rd_op'; (exact rfl)) | (refine Rd_nil (by kernel_rfl) ?_) | ((with_reducible (first | refine RnG_split (fun h => ?_) (fun h => ?_) | refine RdG_split (fun h => ?_) (fun h => ?_) | refine RnC_split (fun h => ?_) (fun h => ?_))) <;> (have h' := h) <;> (try simp only [decide_eq_true_eq, decide_eq_false_iff_not, Bool.not_eq_true', Bool.not_eq_false', Bool.and_eq_true, Bool.or_eq_true, Bool.or_eq_false_iff, beq_iff_eq, bne_iff_ne, ne_eq, Bool.not_true, Bool.not_false, not_false_eq_true, reduceCtorEq, beq_eq_false_iff_ne, bne_eq_false_iff_eq] at h') <;> (first | apply Rn_st | apply Rd_st)) | (refine Rn_out_ck rfl rfl ?_) | (first | refine Rn_ret_ck ?_ | refine Rn_ret ?_ | refine Rn_nil_then ?_) | (refine LoopN_step (T := []) ?_) | (refine Rn_nil ?_)))
 ·intro K0; (try simp only [go_sem]); exact ⟨id⟩
 refine Rn_isnil (sz := 4) rfl (.inl rfl) rfl rfl (Nat.le_of_ble_eq_true rfl) rfl rfl (by kernel_rfl) (fun q hq => ?_)
 apply Rn_o_st
 ·intro K0; (try simp only [go_sem]); exact ⟨id⟩
 cases q with
 | true =>
  have h0 : l = [] := by have := hq rfl; simpa using this
  subst h0
  (any_goals refine go lv21 0 ?_)
  all_goals (try simp only [go_sem])
 | false =>
  clear hq
  (any_goals refine go lv21 0 ?_)
  all_goals (try simp only [go_sem])
def sp_cloneCellP (st : St) (d : Nat) (args : List AV) (K : AV → List Loc → List (Loc × Cont) → Prop) : Prop := match args with
 | [.r (.rs 4 xs)] => (xs = (cellsOf xs).map cellR ∧ xs.length ≤ 1000000000) ∧ K (ren (fun _ => d) (fun _ => st.cur d) (.os 0 1)) [.R d] [(.R d, .s (1 + st.cur d) (.sl 48 4 ((cellsOf xs).map cellC)))]
 | _ => False
theorem sp_cloneCellP_ok (st : St) (d : Nat) (args : List AV) (K : AV → List Loc → List (Loc × Cont) → Prop) (h : sp_cloneCellP st d args K) : ∃ r ls outs, CallR Cx 21 st args r ls outs ∧ K r ls outs := by
 unfold sp_cloneCellP at h
 split at h
 ·exact ⟨_, _, _, CallR.own (cloneCellP_c _ h.1) rfl (cloneCellP_rows _) rfl d, h.2⟩
 ·exact h.elim
noncomputable def ct_cloneCellP : Ct Cx := .res 21 sp_cloneCellP en21 sp_cloneCellP_ok
@[go_sem] theorem ct_cloneCellP_g : ct_cloneCellP.g = 21 := rfl
@[go_sem] theorem ct_cloneCellP_run (c : Call) (fop : Operand) (caps : List AV) (o : Oper) (st : St) (K : List Loc → List (Loc × Cont) → Prop) : ct_cloneCellP.run c fop caps o st K = callG sp_cloneCellP c fop caps o st K := rfl
@[go_sem] theorem sp_cloneCellP_eq : type_of% @sp_cloneCellP.eq_def := @sp_cloneCellP.eq_def
theorem flatThreadC (l : List ThreadT) : ∀ row ∈ l.map threadC, withinL none0 row = true := fun row h => by
 obtain ⟨x, _, rfl⟩ := List.mem_map.1 h; rfl
@[go_sem] theorem okThreadC : ∀ l : List ThreadT, okRows (l.map threadC) = true
 | [] => rfl
 | x :: l => okThreadC l
@[go_sem] theorem roThreadC (l : List ThreadT) : ((l.map threadR).map fun r => r.map AV.r) = l.map threadC := by rw [List.map_map]; rfl
theorem cloneThreadP_rows (xs : List (List RV)) : ∀ row ∈ (threadsOf xs).map threadC, withinL none0 row = true := flatThreadC _
theorem cloneThreadP_c (xs : List (List RV)) (h : xs = (threadsOf xs).map threadR ∧ xs.length ≤ 1000000000) : FC Cx 25 [.r (.rs 5 xs)] [] (.os 0 1) [(0, 1, .sl 56 5 ((threadsOf xs).map threadC))] := by
 have hl : (threadsOf xs).length = xs.length := by simp [threadsOf]
 have hlenS : ∀ l : List ThreadT, (l.map threadC).length = l.length := fun l => List.length_map ..
 obtain ⟨h1, h2⟩ := h
 generalize threadsOf xs = l at h1 hl
 subst h1
 rw [← hl] at h2
 refine FCo_of [] (i := 0) [.os 0 1] Tryz.func25 rfl Tryz.ntmps25 (by simp) Tryz.results25 (flatThreadC _) ?_
 refine rnst ?_
 iterate 8 (any_goals (first | (focus (intro K0; (try simp only [go_sem, *]); (first | exact ⟨id⟩ | (refine ⟨fun h => ?_⟩; (repeat' (first | exact h | refine And.intro ?_ ?_ | omega | rfl)); done)))) | (refine Rn_seq ?_) | (refine Rn_block ?_) | (apply Rn_region' lv25; (exact rfl)) | (refine Rn_region ?_) | (apply Rn_op'; (exact rfl)) | (refine Rn_o_nil ?_) | ((first | apply Rn_g | apply Rd_g); (exact rfl); (exact rfl); (focus (intro K0; (try simp only [lookT, ev, Nat.reduceEqDiff, ↓reduceIte]); exact ⟨id⟩))) | (with_reducible (first | apply RnG_yes | apply RdG_yes)) | ((with_reducible (first | apply RnG_t_no | apply RnG_f_no | apply RnG_un | apply RdG_t_no | apply RdG_f_no | apply RdG_un)); (exact rfl)) | ((first | apply RnG_never | apply RdG_never); (focus (intro K0; (try simp only [go_sem]); exact ⟨id⟩)); (exact rfl)) | ((first | apply RnG_lazy | apply RdG_lazy); (exact rfl); (focus (intro K0; (try simp only [go_sem]); exact ⟨id⟩)); (focus (first | (simp only [Nat.reduceLT]; done) | omega)); (focus (intro hw0; (try simp only [Bool.and_eq_true, Bool.not_eq_true', beq_true', beq_false'] at hw0); (focus (intro K0; (try simp only [go_sem, *]); (first | exact ⟨id⟩ | (refine ⟨fun h => ?_⟩; (repeat' (first | exact h | refine And.intro ?_ ?_ | omega | rfl)); done))))))) | (apply Rn_c; (focus (intro K0; (try simp only [lookT, ev, Nat.reduceEqDiff, ↓reduceIte]); exact ⟨id⟩))) | (with_reducible (first | refine RnC_t ?_ | refine RnC_f ?_)) | (refine Rn_skip ?_) | (refine Rn_exit rfl ?_) | (refine Rn_b ?_) | (apply Rn_draw' lv25; (exact rfl)) | (refine Rn_draw ?_) | (apply Rd_op'; (exact rfl)) | (refine Rd_nil (by kernel_rfl) ?_) | ((with_reducible (first | refine RnG_split (fun h => ?_) (fun h => ?_) | refine RdG_split (fun h => ?_) (fun h => ?_) | refine RnC_split (fun h => ?_) (fun h => ?_))) <;> (have h' := h) <;> (try simp only [decide_eq_true_eq, decide_eq_false_iff_not, Bool.not_eq_true', Bool.not_eq_false', Bool.and_eq_true, Bool.or_eq_true, Bool.or_eq_false_iff, beq_iff_eq, bne_iff_ne, ne_eq, Bool.not_true, Bool.not_false, not_false_eq_true, reduceCtorEq, beq_eq_false_iff_ne, bne_eq_false_iff_eq] at h') <;> (first | apply Rn_st | apply Rd_st)) | (refine Rn_out_ck rfl rfl ?_) | (first | refine Rn_ret_ck ?_ | refine Rn_ret ?_ | refine Rn_nil_then ?_) | (refine LoopN_step (T := []) ?_) | (refine Rn_nil ?_)))
 ·intro K0; (try simp only [go_sem]); exact ⟨id⟩
 refine Rn_isnil (sz := 5) rfl (.inl rfl) rfl rfl (Nat.le_of_ble_eq_true rfl) rfl rfl (by kernel_rfl) (fun q hq => ?_)
 apply Rn_o_st
 ·intro K0; (try simp only [go_sem]); exact ⟨id⟩
 cases q with
 | true =>
  have h0 : l = [] := by have := hq rfl; simpa using this
  subst h0
  (any_goals refine go lv25 0 ?_)
  all_goals (try simp only [go_sem])
 | false =>
  clear hq
  (any_goals refine go lv25 0 ?_)
  all_goals (try simp only [go_sem])
def sp_cloneThreadP (st : St) (d : Nat) (args : List AV) (K : AV → List Loc → List (Loc × Cont) → Prop) : Prop := match args with
 | [.r (.rs 5 xs)] => (xs = (threadsOf xs).map threadR ∧ xs.length ≤ 1000000000) ∧ K (ren (fun _ => d) (fun _ => st.cur d) (.os 0 1)) [.R d] [(.R d, .s (1 + st.cur d) (.sl 56 5 ((threadsOf xs).map threadC)))]
 | _ => False
theorem sp_cloneThreadP_ok (st : St) (d : Nat) (args : List AV) (K : AV → List Loc → List (Loc × Cont) → Prop) (h : sp_cloneThreadP st d args K) : ∃ r ls outs, CallR Cx 25 st args r ls outs ∧ K r ls outs := by
 unfold sp_cloneThreadP at h
 split at h
 ·exact ⟨_, _, _, CallR.own (cloneThreadP_c _ h.1) rfl (cloneThreadP_rows _) rfl d, h.2⟩
 ·exact h.elim
noncomputable def ct_cloneThreadP : Ct Cx := .res 25 sp_cloneThreadP en25 sp_cloneThreadP_ok
@[go_sem] theorem ct_cloneThreadP_g : ct_cloneThreadP.g = 25 := rfl
@[go_sem] theorem ct_cloneThreadP_run (c : Call) (fop : Operand) (caps : List AV) (o : Oper) (st : St) (K : List Loc → List (Loc × Cont) → Prop) : ct_cloneThreadP.run c fop caps o st K = callG sp_cloneThreadP c fop caps o st K := rfl
@[go_sem] theorem sp_cloneThreadP_eq : type_of% @sp_cloneThreadP.eq_def := @sp_cloneThreadP.eq_def
theorem flatFrameC (l : List FrameT) : ∀ row ∈ l.map frameC, withinL none0 row = true := fun row h => by
 obtain ⟨x, _, rfl⟩ := List.mem_map.1 h; rfl
@[go_sem] theorem okFrameC : ∀ l : List FrameT, okRows (l.map frameC) = true
 | [] => rfl
 | x :: l => okFrameC l
@[go_sem] theorem roFrameC (l : List FrameT) : ((l.map frameR).map fun r => r.map AV.r) = l.map frameC := by rw [List.map_map]; rfl
theorem cloneFrameP_rows (xs : List (List RV)) : ∀ row ∈ (framesOf xs).map frameC, withinL none0 row = true := flatFrameC _
theorem cloneFrameP_c (xs : List (List RV)) (h : xs = (framesOf xs).map frameR ∧ xs.length ≤ 1000000000) : FC Cx 26 [.r (.rs 8 xs)] [] (.os 0 1) [(0, 1, .sl 61 8 ((framesOf xs).map frameC))] := by
 have hl : (framesOf xs).length = xs.length := by simp [framesOf]
 have hlenS : ∀ l : List FrameT, (l.map frameC).length = l.length := fun l => List.length_map ..
 obtain ⟨h1, h2⟩ := h
 generalize framesOf xs = l at h1 hl
 subst h1
 rw [← hl] at h2
 refine FCo_of [] (i := 0) [.os 0 1] Tryz.func26 rfl Tryz.ntmps26 (by simp) Tryz.results26 (flatFrameC _) ?_
 refine rnst ?_
 iterate 8 (any_goals (first | (focus (intro K0; (try simp only [go_sem, *]); (first | exact ⟨id⟩ | (refine ⟨fun h => ?_⟩; (repeat' (first | exact h | refine And.intro ?_ ?_ | omega | rfl)); done)))) | (refine Rn_seq ?_) | (refine Rn_block ?_) | (apply Rn_region' lv26; (exact rfl)) | (refine Rn_region ?_) | (apply Rn_op'; (exact rfl)) | (refine Rn_o_nil ?_) | ((first | apply Rn_g | apply Rd_g); (exact rfl); (exact rfl); (focus (intro K0; (try simp only [lookT, ev, Nat.reduceEqDiff, ↓reduceIte]); exact ⟨id⟩))) | (with_reducible (first | apply RnG_yes | apply RdG_yes)) | ((with_reducible (first | apply RnG_t_no | apply RnG_f_no | apply RnG_un | apply RdG_t_no | apply RdG_f_no | apply RdG_un)); (exact rfl)) | ((first | apply RnG_never | apply RdG_never); (focus (intro K0; (try simp only [go_sem]); exact ⟨id⟩)); (exact rfl)) | ((first | apply RnG_lazy | apply RdG_lazy); (exact rfl); (focus (intro K0; (try simp only [go_sem]); exact ⟨id⟩)); (focus (first | (simp only [Nat.reduceLT]; done) | omega)); (focus (intro hw0; (try simp only [Bool.and_eq_true, Bool.not_eq_true', beq_true', beq_false'] at hw0); (focus (intro K0; (try simp only [go_sem, *]); (first | exact ⟨id⟩ | (refine ⟨fun h => ?_⟩; (repeat' (first | exact h | refine And.intro ?_ ?_ | omega | rfl)); done))))))) | (apply Rn_c; (focus (intro K0; (try simp only [lookT, ev, Nat.reduceEqDiff, ↓reduceIte]); exact ⟨id⟩))) | (with_reducible (first | refine RnC_t ?_ | refine RnC_f ?_)) | (refine Rn_skip ?_) | (refine Rn_exit rfl ?_) | (refine Rn_b ?_) | (apply Rn_draw' lv26; (exact rfl)) | (refine Rn_draw ?_) | (apply Rd_op'; (exact rfl)) | (refine Rd_nil (by kernel_rfl) ?_) | ((with_reducible (first | refine RnG_split (fun h => ?_) (fun h => ?_) | refine RdG_split (fun h => ?_) (fun h => ?_) | refine RnC_split (fun h => ?_) (fun h => ?_))) <;> (have h' := h) <;> (try simp only [decide_eq_true_eq, decide_eq_false_iff_not, Bool.not_eq_true', Bool.not_eq_false', Bool.and_eq_true, Bool.or_eq_true, Bool.or_eq_false_iff, beq_iff_eq, bne_iff_ne, ne_eq, Bool.not_true, Bool.not_false, not_false_eq_true, reduceCtorEq, beq_eq_false_iff_ne, bne_eq_false_iff_eq] at h') <;> (first | apply Rn_st | apply Rd_st)) | (refine Rn_out_ck rfl rfl ?_) | (first | refine Rn_ret_ck ?_ | refine Rn_ret ?_ | refine Rn_nil_then ?_) | (refine LoopN_step (T := []) ?_) | (refine Rn_nil ?_)))
 ·intro K0; (try simp only [go_sem]); exact ⟨id⟩
 refine Rn_isnil (sz := 8) rfl (.inl rfl) rfl rfl (Nat.le_of_ble_eq_true rfl) rfl rfl (by kernel_rfl) (fun q hq => ?_)
 apply Rn_o_st
 ·intro K0; (try simp only [go_sem]); exact ⟨id⟩
 cases q with
 | true =>
  have h0 : l = [] := by have := hq rfl; simpa using this
  subst h0
  (any_goals refine go lv26 0 ?_)
  all_goals (try simp only [go_sem])
 | false =>
  clear hq
  (any_goals refine go lv26 0 ?_)
  all_goals (try simp only [go_sem])
def sp_cloneFrameP (st : St) (d : Nat) (args : List AV) (K : AV → List Loc → List (Loc × Cont) → Prop) : Prop := match args with
 | [.r (.rs 8 xs)] => (xs = (framesOf xs).map frameR ∧ xs.length ≤ 1000000000) ∧ K (ren (fun _ => d) (fun _ => st.cur d) (.os 0 1)) [.R d] [(.R d, .s (1 + st.cur d) (.sl 61 8 ((framesOf xs).map frameC)))]
 | _ => False
theorem sp_cloneFrameP_ok (st : St) (d : Nat) (args : List AV) (K : AV → List Loc → List (Loc × Cont) → Prop) (h : sp_cloneFrameP st d args K) : ∃ r ls outs, CallR Cx 26 st args r ls outs ∧ K r ls outs := by
 unfold sp_cloneFrameP at h
 split at h
 ·exact ⟨_, _, _, CallR.own (cloneFrameP_c _ h.1) rfl (cloneFrameP_rows _) rfl d, h.2⟩
 ·exact h.elim
noncomputable def ct_cloneFrameP : Ct Cx := .res 26 sp_cloneFrameP en26 sp_cloneFrameP_ok
@[go_sem] theorem ct_cloneFrameP_g : ct_cloneFrameP.g = 26 := rfl
@[go_sem] theorem ct_cloneFrameP_run (c : Call) (fop : Operand) (caps : List AV) (o : Oper) (st : St) (K : List Loc → List (Loc × Cont) → Prop) : ct_cloneFrameP.run c fop caps o st K = callG sp_cloneFrameP c fop caps o st K := rfl
@[go_sem] theorem sp_cloneFrameP_eq : type_of% @sp_cloneFrameP.eq_def := @sp_cloneFrameP.eq_def
theorem flatShapeC (l : List (Int × Int)) : ∀ row ∈ l.map valC, withinL none0 row = true := fun row h => by
 obtain ⟨x, _, rfl⟩ := List.mem_map.1 h; rfl
@[go_sem] theorem roShapeC (l : List (Int × Int)) : ((l.map valR).map fun r => r.map AV.r) = l.map valC := by rw [List.map_map]; rfl
theorem cloneShapeP_c (xs : List (List RV)) (h : xs = (valsOf xs).map valR ∧ xs.length ≤ 1000000000) : FC Cx 139 [.r (.rs 2 xs)] [] (.os 0 1) [(0, 1, .sl 97 2 ((valsOf xs).map valC))] := by
 have hl : (valsOf xs).length = xs.length := by simp [valsOf]
 have hlenS : ∀ l : List (Int × Int), (l.map valC).length = l.length := fun l => List.length_map ..
 obtain ⟨h1, h2⟩ := h
 generalize valsOf xs = l at h1 hl
 subst h1
 rw [← hl] at h2
 refine FCo_of [] (i := 0) [.os 0 1] Tryz.func139 rfl Tryz.ntmps139 (by simp) Tryz.results139 (flatShapeC _) ?_
 refine rnst ?_
 iterate 8 (any_goals (first | (focus (intro K0; (try simp only [go_sem, *]); (first | exact ⟨id⟩ | (refine ⟨fun h => ?_⟩; (repeat' (first | exact h | refine And.intro ?_ ?_ | omega | rfl)); done)))) | (refine Rn_seq ?_) | (refine Rn_block ?_) | (apply Rn_region' lv139; (exact rfl)) | (refine Rn_region ?_) | (apply Rn_op'; (exact rfl)) | (refine Rn_o_nil ?_) | ((first | apply Rn_g | apply Rd_g); (exact rfl); (exact rfl); (focus (intro K0; (try simp only [lookT, ev, Nat.reduceEqDiff, ↓reduceIte]); exact ⟨id⟩))) | (with_reducible (first | apply RnG_yes | apply RdG_yes)) | ((with_reducible (first | apply RnG_t_no | apply RnG_f_no | apply RnG_un | apply RdG_t_no | apply RdG_f_no | apply RdG_un)); (exact rfl)) | ((first | apply RnG_never | apply RdG_never); (focus (intro K0; (try simp only [go_sem]); exact ⟨id⟩)); (exact rfl)) | ((first | apply RnG_lazy | apply RdG_lazy); (exact rfl); (focus (intro K0; (try simp only [go_sem]); exact ⟨id⟩)); (focus (first | (simp only [Nat.reduceLT]; done) | omega)); (focus (intro hw0; (try simp only [Bool.and_eq_true, Bool.not_eq_true', beq_true', beq_false'] at hw0); (focus (intro K0; (try simp only [go_sem, *]); (first | exact ⟨id⟩ | (refine ⟨fun h => ?_⟩; (repeat' (first | exact h | refine And.intro ?_ ?_ | omega | rfl)); done))))))) | (apply Rn_c; (focus (intro K0; (try simp only [lookT, ev, Nat.reduceEqDiff, ↓reduceIte]); exact ⟨id⟩))) | (with_reducible (first | refine RnC_t ?_ | refine RnC_f ?_)) | (refine Rn_skip ?_) | (refine Rn_exit rfl ?_) | (refine Rn_b ?_) | (apply Rn_draw' lv139; (exact rfl)) | (refine Rn_draw ?_) | (apply Rd_op'; (exact rfl)) | (refine Rd_nil (by kernel_rfl) ?_) | ((with_reducible (first | refine RnG_split (fun h => ?_) (fun h => ?_) | refine RdG_split (fun h => ?_) (fun h => ?_) | refine RnC_split (fun h => ?_) (fun h => ?_))) <;> (have h' := h) <;> (try simp only [decide_eq_true_eq, decide_eq_false_iff_not, Bool.not_eq_true', Bool.not_eq_false', Bool.and_eq_true, Bool.or_eq_true, Bool.or_eq_false_iff, beq_iff_eq, bne_iff_ne, ne_eq, Bool.not_true, Bool.not_false, not_false_eq_true, reduceCtorEq, beq_eq_false_iff_ne, bne_eq_false_iff_eq] at h') <;> (first | apply Rn_st | apply Rd_st)) | (refine Rn_out_ck rfl rfl ?_) | (first | refine Rn_ret_ck ?_ | refine Rn_ret ?_ | refine Rn_nil_then ?_) | (refine LoopN_step (T := []) ?_) | (refine Rn_nil ?_)))
 ·intro K0; (try simp only [go_sem]); exact ⟨id⟩
 refine Rn_isnil (sz := 2) rfl (.inl rfl) rfl rfl (Nat.le_of_ble_eq_true rfl) rfl rfl (by kernel_rfl) (fun q hq => ?_)
 apply Rn_o_st
 ·intro K0; (try simp only [go_sem]); exact ⟨id⟩
 cases q with
 | true =>
  have h0 : l = [] := by have := hq rfl; simpa using this
  subst h0
  (any_goals refine go lv139 0 ?_)
  all_goals (try simp only [go_sem])
 | false =>
  clear hq
  (any_goals refine go lv139 0 ?_)
  all_goals (try simp only [go_sem])
theorem cloneShape_c (xs : List (List RV)) (h : xs = (valsOf xs).map valR ∧ xs.length ≤ 1000000000) : FC Cx 139 [.r (.rs 2 xs)] [] (valsV (valsOf xs)) [] := (cloneShapeP_c xs h).freeze1 (roShapeC _).symm
def sp_cloneShape (args : List AV) (K : AV → Prop) : Prop := match args with
 | [.r (.rs 2 xs)] => (xs = (valsOf xs).map valR ∧ xs.length ≤ 1000000000) ∧ K (valsV (valsOf xs))
 | _ => False
noncomputable abbrev ct_cloneShape : Ct Cx := .pure 139 sp_cloneShape fun args K h => by
 unfold sp_cloneShape at h; split at h; exact ⟨_, CallOk_of (cloneShape_c _ h.1) en139 rfl rfl, h.2⟩; exact h.elim
@[go_sem] theorem sp_cloneShape_eq : type_of% @sp_cloneShape.eq_def := @sp_cloneShape.eq_def
theorem flatEndC (l : List EndT) : ∀ row ∈ l.map endC, withinL none0 row = true := fun row h => by
 obtain ⟨x, _, rfl⟩ := List.mem_map.1 h; rfl
@[go_sem] theorem okEndC : ∀ l : List EndT, okRows (l.map endC) = true
 | [] => rfl
 | x :: l => okEndC l
@[go_sem] theorem roEndC (l : List EndT) : ((l.map endR).map fun r => r.map AV.r) = l.map endC := by rw [List.map_map]; rfl
theorem cloneEndP_c (xs : List (List RV)) (h : xs = (endsOf xs).map endR ∧ xs.length ≤ 1000000000) : FC Cx 140 [.r (.rs 3 xs)] [] (.os 0 1) [(0, 1, .sl 127 3 ((endsOf xs).map endC))] := by
 have hl : (endsOf xs).length = xs.length := by simp [endsOf]
 have hlenS : ∀ l : List EndT, (l.map endC).length = l.length := fun l => List.length_map ..
 obtain ⟨h1, h2⟩ := h
 generalize endsOf xs = l at h1 hl
 subst h1
 rw [← hl] at h2
 refine FCo_of [] (i := 0) [.os 0 1] Tryz.func140 rfl Tryz.ntmps140 (by simp) Tryz.results140 (flatEndC _) ?_
 refine rnst ?_
 iterate 8 (any_goals (first | (focus (intro K0; (try simp only [go_sem, *]); (first | exact ⟨id⟩ | (refine ⟨fun h => ?_⟩; (repeat' (first | exact h | refine And.intro ?_ ?_ | omega | rfl)); done)))) | (refine Rn_seq ?_) | (refine Rn_block ?_) | (apply Rn_region' lv140; (exact rfl)) | (refine Rn_region ?_) | (apply Rn_op'; (exact rfl)) | (refine Rn_o_nil ?_) | ((first | apply Rn_g | apply Rd_g); (exact rfl); (exact rfl); (focus (intro K0; (try simp only [lookT, ev, Nat.reduceEqDiff, ↓reduceIte]); exact ⟨id⟩))) | (with_reducible (first | apply RnG_yes | apply RdG_yes)) | ((with_reducible (first | apply RnG_t_no | apply RnG_f_no | apply RnG_un | apply RdG_t_no | apply RdG_f_no | apply RdG_un)); (exact rfl)) | ((first | apply RnG_never | apply RdG_never); (focus (intro K0; (try simp only [go_sem]); exact ⟨id⟩)); (exact rfl)) | ((first | apply RnG_lazy | apply RdG_lazy); (exact rfl); (focus (intro K0; (try simp only [go_sem]); exact ⟨id⟩)); (focus (first | (simp only [Nat.reduceLT]; done) | omega)); (focus (intro hw0; (try simp only [Bool.and_eq_true, Bool.not_eq_true', beq_true', beq_false'] at hw0); (focus (intro K0; (try simp only [go_sem, *]); (first | exact ⟨id⟩ | (refine ⟨fun h => ?_⟩; (repeat' (first | exact h | refine And.intro ?_ ?_ | omega | rfl)); done))))))) | (apply Rn_c; (focus (intro K0; (try simp only [lookT, ev, Nat.reduceEqDiff, ↓reduceIte]); exact ⟨id⟩))) | (with_reducible (first | refine RnC_t ?_ | refine RnC_f ?_)) | (refine Rn_skip ?_) | (refine Rn_exit rfl ?_) | (refine Rn_b ?_) | (apply Rn_draw' lv140; (exact rfl)) | (refine Rn_draw ?_) | (apply Rd_op'; (exact rfl)) | (refine Rd_nil (by kernel_rfl) ?_) | ((with_reducible (first | refine RnG_split (fun h => ?_) (fun h => ?_) | refine RdG_split (fun h => ?_) (fun h => ?_) | refine RnC_split (fun h => ?_) (fun h => ?_))) <;> (have h' := h) <;> (try simp only [decide_eq_true_eq, decide_eq_false_iff_not, Bool.not_eq_true', Bool.not_eq_false', Bool.and_eq_true, Bool.or_eq_true, Bool.or_eq_false_iff, beq_iff_eq, bne_iff_ne, ne_eq, Bool.not_true, Bool.not_false, not_false_eq_true, reduceCtorEq, beq_eq_false_iff_ne, bne_eq_false_iff_eq] at h') <;> (first | apply Rn_st | apply Rd_st)) | (refine Rn_out_ck rfl rfl ?_) | (first | refine Rn_ret_ck ?_ | refine Rn_ret ?_ | refine Rn_nil_then ?_) | (refine LoopN_step (T := []) ?_) | (refine Rn_nil ?_)))
 ·intro K0; (try simp only [go_sem]); exact ⟨id⟩
 refine Rn_isnil (sz := 3) rfl (.inl rfl) rfl rfl (Nat.le_of_ble_eq_true rfl) rfl rfl (by kernel_rfl) (fun q hq => ?_)
 apply Rn_o_st
 ·intro K0; (try simp only [go_sem]); exact ⟨id⟩
 cases q with
 | true =>
  have h0 : l = [] := by have := hq rfl; simpa using this
  subst h0
  (any_goals refine go lv140 0 ?_)
  all_goals (try simp only [go_sem])
 | false =>
  clear hq
  (any_goals refine go lv140 0 ?_)
  all_goals (try simp only [go_sem])
theorem cloneEnd_c (xs : List (List RV)) (h : xs = (endsOf xs).map endR ∧ xs.length ≤ 1000000000) : FC Cx 140 [.r (.rs 3 xs)] [] (endsV (endsOf xs)) [] := (cloneEndP_c xs h).freeze1 (roEndC _).symm
def sp_cloneEnd (args : List AV) (K : AV → Prop) : Prop := match args with
 | [.r (.rs 3 xs)] => (xs = (endsOf xs).map endR ∧ xs.length ≤ 1000000000) ∧ K (endsV (endsOf xs))
 | _ => False
noncomputable abbrev ct_cloneEnd : Ct Cx := .pure 140 sp_cloneEnd fun args K h => by
 unfold sp_cloneEnd at h; split at h; exact ⟨_, CallOk_of (cloneEnd_c _ h.1) en140 rfl rfl, h.2⟩; exact h.elim
@[go_sem] theorem sp_cloneEnd_eq : type_of% @sp_cloneEnd.eq_def := @sp_cloneEnd.eq_def
abbrev valN (v : Int × Int) : List NV := [.r (.v (.int .i64 v.1)), .r (.v (.int .i64 v.2))]
abbrev frameM (f : FrameT) : List NV := [.r (.v (.int .i64 f.fn)), .r (.v (.int .i64 f.pc)), .r (.v (.int .i64 f.tov)), .r (.v (.int .i64 f.gen)), .r (.v (.int .i64 f.self.1)), .r (.v (.int .i64 f.self.2)), .nd 50 2 (f.regs.map valN), .r (.rs 2 (f.tries.map tryR))]
abbrev frameA2 (f : FrameT) : List AV := [Iv f.fn, Iv f.pc, Iv f.tov, Iv f.gen, Iv f.self.1, Iv f.self.2, .nd 50 2 (f.regs.map valN), triesV f.tries]
theorem valN_C (l : List (Int × Int)) : (l.map valN).map (List.map nvC) = l.map valC := by rw [List.map_map]; rfl
theorem frameM_A (l : List FrameT) : (l.map frameM).map (List.map nvC) = l.map frameA2 := by rw [List.map_map]; rfl
theorem flatFrameM (l : List FrameT) : ∀ row ∈ l.map frameA2, withinL none0 row = true := fun row h => by
 obtain ⟨x, _, rfl⟩ := List.mem_map.1 h; rfl
def mixL {α β : Type} (f g : α → β) (l : List α) (i : Nat) : List β := (l.take i).map f ++ (l.drop i).map g
theorem mixL_len {α β : Type} (f g : α → β) (l : List α) (i : Nat) : (mixL f g l i).length = l.length := by
 unfold mixL; rw [List.length_append, List.length_map, List.length_map, List.length_take, List.length_drop]; omega
theorem mixL_at {α β : Type} (f g : α → β) {l : List α} {i : Nat} {x : α} (h : l[i]? = some x) : (mixL f g l i)[i]? = some (g x) := by
 have hi := (List.getElem?_eq_some_iff.1 h).1
 unfold mixL
 rw [List.getElem?_append_right (by rw [List.length_map, List.length_take]; omega), List.length_map, List.length_take, List.getElem?_map, List.getElem?_drop]
 rw [show i + (i - min i l.length) = i by omega, h]; rfl
theorem mixL_set {α β : Type} (f g : α → β) {l : List α} {i : Nat} {x : α} (h : l[i]? = some x) : (mixL f g l i).set i (f x) = mixL f g l (i + 1) := by
 have hi := (List.getElem?_eq_some_iff.1 h).1
 unfold mixL
 rw [List.set_append_right _ _ (by rw [List.length_map, List.length_take]; omega), List.length_map, List.length_take, show i - min i l.length = 0 by omega]
 have hd : l.drop i = x :: l.drop (i + 1) := by
  rw [List.drop_eq_getElem_cons hi]
  congr 1
  rw [List.getElem?_eq_getElem hi] at h; exact Option.some.inj h
 rw [hd, List.map_cons, List.set_cons_zero, List.take_add_one, h, List.map_append, List.append_assoc]; rfl
theorem mixL_end {α β : Type} (f g : α → β) (l : List α) : mixL f g l l.length = l.map f := by
 unfold mixL; rw [List.take_length, List.drop_length]; simp
theorem frames0_c (fs : List FrameT) (hl : fs.length ≤ 1000000000) (hr : ∀ f ∈ fs, f.regs.length ≤ 1000000000 ∧ f.tries.length ≤ 1000000000) : FC Cx 141 [framesV fs] [] (.os 0 1) [(0, 1, .sl 61 8 (fs.map frameA2))] := by
 have l1 : (fs.map frameR).length = fs.length := List.length_map ..
 have l2 : (fs.map frameC).length = fs.length := List.length_map ..
 refine FCo_of [ct_cloneFrameP, ct_cloneValP, ct_cloneTry] (i := 0) [.os 0 1] Tryz.func141 rfl Tryz.ntmps141 (by simp) Tryz.results141 (flatFrameM _) ?_
 refine rnst ?_
 (any_goals refine go lv141 0 ?_)
 refine Rn_loopS (fun x : Nat × Nat => x.1 ≤ fs.length) (fun x => ⟨33, [(0, .os 5 1), (7, Iv fs.length), (8, Iv x.1)], [(5, 1, .sl 61 8 (mixL frameA2 frameC fs x.1)), (20, x.2, .gone)]⟩) (fun x => fs.length - x.1) (0, 0) (Nat.zero_le _) ?_
 rintro ⟨i, u⟩ hi
 dsimp only at hi ⊢
 by_cases hlt : i < fs.length
 case neg =>
  obtain rfl : i = fs.length := by omega
  have e1 := each_end fs
  rw [mixL_end]
  (any_goals refine go lv141 0 ?_)
  all_goals (try simp only [go_sem])
 obtain ⟨f, hx, hg, h1, h2, hw⟩ := each_at frameR fs hlt (by omega)
 obtain ⟨r1, r2⟩ := hr f (List.mem_of_getElem? hx)
 have l3 : (f.regs.map valR).length = f.regs.length := List.length_map ..
 have l4 : (f.tries.map tryR).length = f.tries.length := List.length_map ..
 have q1 := mixL_len frameA2 frameC fs i
 have q2 := mixL_at frameA2 frameC hx
 have q3 := mixL_set frameA2 frameC hx
 have q5 : (mixL frameA2 frameC fs i).getD i [] = frameC f := by rw [List.getD_eq_getElem?_getD, q2]; rfl
 generalize mixL frameA2 frameC fs i = R at *
 have q4 : ∀ X, (R.set i X).length = R.length := fun X => List.length_set
 have q6 : ∀ X, (R.set i X).getD i [] = X := fun X => by rw [List.getD_eq_getElem?_getD, List.getElem?_set_self (by omega)]; rfl
 have q7 : ∀ X Y, (R.set i X).set i Y = R.set i Y := fun X Y => List.set_set ..
 (any_goals refine go (dropL 6 lv141) 0 ?_)
 (apply Rn_closeS 5 i 6 20 (f.regs.map valN); (exact rfl); (exact List.getElem?_set_self (by rw [q1]; exact hlt)); (exact rfl); (exact (by decide)); (exact congrArg (fun z => (1 + u, Res.sl 50 2 z)) (valN_C f.regs).symm); (exact rfl); (intro K0; (try simp only [go_sem, q7]); exact ⟨id⟩))
 clear q2 q4 q5 q6 q7
 (any_goals refine go lv141 0 ?_)
 refine ⟨(i + 1, u + 9), by dsimp only; omega, by dsimp only; omega, ?_⟩
 dsimp only
 rw [← q3]
 exact Le_subA
theorem frames_rows (xs : List (List RV)) : ∀ row ∈ (framesOf xs).map frameA2, withinL none0 row = true := flatFrameM _
theorem frames_c (xs : List (List RV)) (h : xs = (framesOf xs).map frameR ∧ (framesOf xs).length ≤ 1000000000 ∧ ∀ f ∈ framesOf xs, f.regs.length ≤ 1000000000 ∧ f.tries.length ≤ 1000000000) : FC Cx 141 [.r (.rs 8 xs)] [] (.os 0 1) [(0, 1, .sl 61 8 ((framesOf xs).map frameA2))] := by
 have := frames0_c (framesOf xs) h.2.1 h.2.2
 rwa [show framesV (framesOf xs) = .r (.rs 8 xs) from by show AV.r (RV.rs 8 ((framesOf xs).map frameR)) = _; rw [← h.1]] at this
def sp_frames (st : St) (d : Nat) (args : List AV) (K : AV → List Loc → List (Loc × Cont) → Prop) : Prop := match args with
 | [.r (.rs 8 xs)] => (xs = (framesOf xs).map frameR ∧ (framesOf xs).length ≤ 1000000000 ∧ ∀ f ∈ framesOf xs, f.regs.length ≤ 1000000000 ∧ f.tries.length ≤ 1000000000) ∧ K (ren (fun _ => d) (fun _ => st.cur d) (.os 0 1)) [.R d] [(.R d, .s (1 + st.cur d) (.sl 61 8 ((framesOf xs).map frameA2)))]
 | _ => False
theorem sp_frames_ok (st : St) (d : Nat) (args : List AV) (K : AV → List Loc → List (Loc × Cont) → Prop) (h : sp_frames st d args K) : ∃ r ls outs, CallR Cx 141 st args r ls outs ∧ K r ls outs := by
 unfold sp_frames at h
 split at h
 ·exact ⟨_, _, _, CallR.own (frames_c _ h.1) rfl (frames_rows _) rfl d, h.2⟩
 ·exact h.elim
noncomputable def ct_frames : Ct Cx := .res 141 sp_frames en141 sp_frames_ok
@[go_sem] theorem ct_frames_g : ct_frames.g = 141 := rfl
@[go_sem] theorem ct_frames_run (c : Call) (fop : Operand) (caps : List AV) (o : Oper) (st : St) (K : List Loc → List (Loc × Cont) → Prop) : ct_frames.run c fop caps o st K = callG sp_frames c fop caps o st K := rfl
@[go_sem] theorem sp_frames_eq : type_of% @sp_frames.eq_def := @sp_frames.eq_def
abbrev cellA2 (c : CellT) : List AV := [Iv c.kind, Iv c.num, valsV c.vals, .nd 61 8 (c.frames.map frameM)]
abbrev threadA2 (t : ThreadT) : List AV := [.nd 61 8 (t.frames.map frameM), Iv t.state, Iv t.on, Iv t.val.1, Iv t.val.2]
structure SmF (fs : List FrameT) : Prop where
 len : fs.length ≤ 1000000000
 each : ∀ f ∈ fs, f.regs.length ≤ 1000000000 ∧ f.tries.length ≤ 1000000000
structure Sml (s : StateT) : Prop where
 cells : s.cells.length ≤ 1000000000
 shapes : s.shapes.length ≤ 1000000000
 texts : s.texts.length ≤ 1000000000
 threads : s.threads.length ≤ 1000000000
 ends : s.ends.length ≤ 1000000000
 said : s.said.length ≤ 1000000000
 vals : ∀ c ∈ s.cells, c.vals.length ≤ 1000000000
 cell : ∀ c ∈ s.cells, SmF c.frames
 thread : ∀ t ∈ s.threads, SmF t.frames
abbrev ownC (k v : Nat) (cs : List CellT) : Nat × Nat × Res := (k, v, .sl 48 4 (cs.map cellA2))
abbrev ownT (k v : Nat) (ts : List ThreadT) : Nat × Nat × Res := (k, v, .sl 56 5 (ts.map threadA2))
theorem insCp (cs : List CellT) (ts : List ThreadT) (k : Nat) : withinRes (domR [ownC 7 1 cs, ownT 16 1 ts]) (lookR k [ownC 7 1 cs, ownT 16 1 ts]).2 := by
 have e : lookR k [ownC 7 1 cs, ownT 16 1 ts] = if k = 7 then (1, .sl 48 4 (cs.map cellA2)) else if k = 16 then (1, .sl 56 5 (ts.map threadA2)) else (0, .gone) := rfl
 rw [e]
 split
 ·exact fun row h => by obtain ⟨x, _, rfl⟩ := List.mem_map.1 h; rfl
 ·split
  ·exact fun row h => by obtain ⟨x, _, rfl⟩ := List.mem_map.1 h; rfl
  ·trivial
theorem copy_c (s : StateT) (hm : Sml s) : FC Cx 84 [stateV s] [] (.agg [.os 7 1, valsV s.shapes, strsV s.texts, .os 16 1, endsV s.ends, valsV s.said, Iv s.asked, Iv s.steps]) [ownC 7 1 s.cells, ownT 16 1 s.threads] := by
 obtain ⟨m1, m2, m3, m4, m5, m6, m7, m8, m9⟩ := hm
 have l1 : (s.cells.map cellR).length = s.cells.length := List.length_map ..
 have l2 : (s.shapes.map valR).length = s.shapes.length := List.length_map ..
 have l3 : (s.texts.map strR).length = s.texts.length := List.length_map ..
 have l4 : (s.threads.map threadR).length = s.threads.length := List.length_map ..
 have l5 : (s.ends.map endR).length = s.ends.length := List.length_map ..
 have l6 : (s.said.map valR).length = s.said.length := List.length_map ..
 have l7 : (s.cells.map cellC).length = s.cells.length := List.length_map ..
 have l8 : (s.threads.map threadC).length = s.threads.length := List.length_map ..
 refine FCm_of [ct_cloneCellP, ct_cloneThreadP, ct_cloneShape, ct_cloneStr, ct_cloneEnd, ct_cloneVal, ct_frames]  Tryz.func84 rfl Tryz.ntmps84 (by simp) Tryz.results84 rfl (insCp _ _) ?_
 refine rnst ?_
 (any_goals refine go lv84 0 ?_)
 refine Rn_loopS (fun x : Nat × Nat => x.1 ≤ s.cells.length) (fun x => ⟨80, [(1, .os 1 1), (2, .os 2 1), (31, Iv s.cells.length), (32, Iv x.1)], [(1, 1, .bx [.os 7 1, valsV s.shapes, strsV s.texts, .os 16 1, endsV s.ends, valsV s.said, Iv s.asked, Iv s.steps]), (2, 1, .bx [NilS, NilS, NilS, NilS, NilS, NilS, Iv 0, Iv 0]), (7, 1, .sl 48 4 (mixL cellA2 cellC s.cells x.1)), (16, 1, .sl 56 5 (s.threads.map threadC)), (54, x.2, .gone)]⟩) (fun x => s.cells.length - x.1) (0, 0) (Nat.zero_le _) ?_
 rintro ⟨i, u⟩ hi
 dsimp only at hi ⊢
 by_cases hlt : i < s.cells.length
 case pos =>
  obtain ⟨c, hx, hg, h1, h2, hw⟩ := each_at cellR s.cells hlt (by omega)
  have r1 := m7 c (List.mem_of_getElem? hx)
  obtain ⟨r2, r3⟩ := m8 c (List.mem_of_getElem? hx)
  have l9 : (c.vals.map valR).length = c.vals.length := List.length_map ..
  have l10 : (c.frames.map frameR).length = c.frames.length := List.length_map ..
  have q1 := mixL_len cellA2 cellC s.cells i
  have q2 := mixL_at cellA2 cellC hx
  have q3 := mixL_set cellA2 cellC hx
  have q5 : (mixL cellA2 cellC s.cells i).getD i [] = cellC c := by rw [List.getD_eq_getElem?_getD, q2]; rfl
  generalize mixL cellA2 cellC s.cells i = R at *
  have q4 : ∀ X, (R.set i X).length = R.length := fun X => List.length_set
  have q6 : ∀ X, (R.set i X).getD i [] = X := fun X => by rw [List.getD_eq_getElem?_getD, List.getElem?_set_self (by omega)]; rfl
  have q7 : ∀ X Y, (R.set i X).set i Y = R.set i Y := fun X Y => List.set_set ..
  clear m7 m8 m9
  (any_goals refine go (dropL 6 lv84) 0 ?_)
  (apply Rn_closeS 7 i 3 54 (c.frames.map frameM); (exact rfl); (exact List.getElem?_set_self (by rw [q1]; exact hlt)); (exact rfl); (exact (by decide)); (exact congrArg (fun z => (1 + u, Res.sl 61 8 z)) (frameM_A c.frames).symm); (exact rfl); (intro K0; (try simp only [go_sem, q7]); exact ⟨id⟩))
  clear q2 q4 q5 q6 q7
  (any_goals refine go lv84 0 ?_)
  refine ⟨(i + 1, u + 9), by dsimp only; omega, by dsimp only; omega, ?_⟩
  dsimp only
  rw [← q3]
  exact Le_subA
 obtain rfl : i = s.cells.length := by omega
 have e1 := each_end s.cells
 rw [mixL_end]
 clear hi hlt
 (any_goals refine go lv84 0 ?_)
 clear e1
 refine Rn_loopS (fun x : Nat × Nat => x.1 ≤ s.threads.length) (fun x => ⟨80, [(1, .os 1 1), (2, .os 2 1), (62, Iv s.threads.length), (63, Iv x.1)], [(1, 1, .bx [.os 7 1, valsV s.shapes, strsV s.texts, .os 16 1, endsV s.ends, valsV s.said, Iv s.asked, Iv s.steps]), (2, 1, .bx [NilS, NilS, NilS, NilS, NilS, NilS, Iv 0, Iv 0]), (7, 1, .sl 48 4 (s.cells.map cellA2)), (16, 1, .sl 56 5 (mixL threadA2 threadC s.threads x.1)), (54, u, .gone), (75, x.2, .gone)]⟩) (fun x => s.threads.length - x.1) (0, 0) (Nat.zero_le _) ?_
 rintro ⟨i, w⟩ hi
 dsimp only at hi ⊢
 by_cases hlt : i < s.threads.length
 case pos =>
  obtain ⟨t, hx, hg, h1, h2, hw⟩ := each_at threadR s.threads hlt (by omega)
  obtain ⟨r2, r3⟩ := m9 t (List.mem_of_getElem? hx)
  have l10 : (t.frames.map frameR).length = t.frames.length := List.length_map ..
  have q1 := mixL_len threadA2 threadC s.threads i
  have q2 := mixL_at threadA2 threadC hx
  have q3 := mixL_set threadA2 threadC hx
  have q5 : (mixL threadA2 threadC s.threads i).getD i [] = threadC t := by rw [List.getD_eq_getElem?_getD, q2]; rfl
  generalize mixL threadA2 threadC s.threads i = R at *
  have q4 : ∀ X, (R.set i X).length = R.length := fun X => List.length_set
  have q6 : ∀ X, (R.set i X).getD i [] = X := fun X => by rw [List.getD_eq_getElem?_getD, List.getElem?_set_self (by omega)]; rfl
  have q7 : ∀ X Y, (R.set i X).set i Y = R.set i Y := fun X Y => List.set_set ..
  clear m7 m8 m9
  (any_goals refine go (dropL 11 lv84) 0 ?_)
  (apply Rn_closeS 16 i 0 75 (t.frames.map frameM); (exact rfl); (exact List.getElem?_set_self (by rw [q1]; exact hlt)); (exact rfl); (exact (by decide)); (exact congrArg (fun z => (1 + w, Res.sl 61 8 z)) (frameM_A t.frames).symm); (exact rfl); (intro K0; (try simp only [go_sem, q7]); exact ⟨id⟩))
  clear q2 q4 q5 q6 q7
  (any_goals refine go lv84 0 ?_)
  refine ⟨(i + 1, w + 9), by dsimp only; omega, by dsimp only; omega, ?_⟩
  dsimp only
  rw [← q3]
  exact Le_subA
 obtain rfl : i = s.threads.length := by omega
 have e1 := each_end s.threads
 rw [mixL_end]
 clear hi hlt
 (any_goals refine go lv84 0 ?_)
 all_goals (try simp only [go_sem])
structure EventT where
 kind : Int
 step : Int
 thread : Int
 fn : Int
 pc : Int
 line : Int
 a : Int
 b : Int
 val : Int × Int
 old : Int × Int
 deriving DecidableEq
abbrev eventR (e : EventT) : List RV := [.v (.int .i64 e.kind), .v (.int .i64 e.step), .v (.int .i64 e.thread), .v (.int .i64 e.fn), .v (.int .i64 e.pc), .v (.int .i64 e.line), .v (.int .i64 e.a), .v (.int .i64 e.b), .v (.int .i64 e.val.1), .v (.int .i64 e.val.2), .v (.int .i64 e.old.1), .v (.int .i64 e.old.2)]
abbrev eventA (e : EventT) : AV := .agg [Iv e.kind, Iv e.step, Iv e.thread, Iv e.fn, Iv e.pc, Iv e.line, Iv e.a, Iv e.b, Iv e.val.1, Iv e.val.2, Iv e.old.1, Iv e.old.2]
abbrev eventsV (l : List EventT) : AV := .r (.rs 12 (l.map eventR))
def atF (p : ProgT) (s : StateT) (th : Nat) (f : FrameT) : EventT := ⟨0, s.steps, th, f.fn, f.pc, ((p.fns.getD f.fn.toNat fn0).code.getD f.pc.toNat ins0).line, 0, 0, (0, 0), (0, 0)⟩
theorem uAt_c (p : ProgT) (s : StateT) (th : Nat) (t : ThreadT) (f : FrameT) (hp : Pgo p) (ht : s.threads[th]? = some t) (hf : t.frames[t.frames.length - 1]? = some f) (hfr : frameF p s f = true) (hl : t.frames.length ≤ 1000000000) :
  FC Cx 86 [.r (.rp (progR p)), stateP s, Iv th] [] (eventA (atF p s th f)) [] := by
 have l0 : (p.fns.map fnR).length = p.fns.length := List.length_map ..
 have l1 : (s.threads.map threadR).length = s.threads.length := List.length_map ..
 have l2 : (t.frames.map frameR).length = t.frames.length := List.length_map ..
 have hk := (List.getElem?_eq_some_iff.1 ht).1
 have hfk := (List.getElem?_eq_some_iff.1 hf).1
 have t1 : Int.toNat (th : Int) = th := by omega
 have t2 : Int.toNat ((t.frames.length : Int) - 1) = t.frames.length - 1 := by omega
 have w1 : IntKind.i64.wrap ((t.frames.length : Int) - 1) = (t.frames.length : Int) - 1 := by rw [wrap_id] <;> omega
 have d1 : decide ((0 : Int) < (t.frames.length : Int)) = true := by rw [decide_eq_true_eq]; omega
 have hg := getD_map threadR ht ([] : List RV)
 have hgf := getD_map frameR hf ([] : List RV)
 obtain ⟨⟨g1, g2⟩, g3, g4⟩ := frame_fn hfr
 obtain ⟨F, hF⟩ : ∃ F, p.fns[f.fn.toNat]? = some F := ⟨p.fns[f.fn.toNat]'(by omega), List.getElem?_eq_getElem _⟩
 have gF := getD_map fnR hF ([] : List RV)
 have eF : p.fns.getD f.fn.toNat fn0 = F := by rw [List.getD_eq_getElem?_getD, hF]; rfl
 rw [eF] at g4
 have l3 : (F.code.map insR).length = F.code.length := List.length_map ..
 obtain ⟨I, hI⟩ : ∃ I, F.code[f.pc.toNat]? = some I := ⟨F.code[f.pc.toNat]'(by omega), List.getElem?_eq_getElem _⟩
 have gI := getD_map insR hI ([] : List RV)
 have eI : F.code.getD f.pc.toNat ins0 = I := by rw [List.getD_eq_getElem?_getD, hI]; rfl
 unfold atF
 rw [eF, eI]
 clear eF eI hfr
 obtain ⟨fn, pc, tov, gen, ⟨sk, sn⟩, regs, tries⟩ := f
 dsimp only at *
 refine FCp_st [] Tryz.func86 Tryz.ntmps86 Tryz.results86 ?_
 (any_goals refine go lv86 0 ?_)
 all_goals (try simp only [go_sem])
def spN (m : List (Nat × Nat)) (args0 : List AV) (r0 : AV) (rs1 : List (Nat × Nat × Res)) (st : St) (_ : Nat) (args : List AV) (K : AV → List Loc → List (Loc × Cont) → Prop) : Prop :=
 args = args0 ∧ K (ren (mpS (m.map fun q => (q.1, q.2, st.cur q.2))) (mpD (m.map fun q => (q.1, q.2, st.cur q.2))) r0) (m.map fun q => .R q.2) (m.map fun q => (.R q.2, .s ((lookR q.1 rs1).1 + st.cur q.2) (renRes (mpS (m.map fun q => (q.1, q.2, st.cur q.2))) (mpD (m.map fun q => (q.1, q.2, st.cur q.2))) (lookR q.1 rs1).2)))
structure NOk {C : Ctx} (f : Nat) (m : List (Nat × Nat)) (args0 : List AV) (r0 : AV) (rs1 : List (Nat × Nat × Res)) : Prop where
 fc : FC C f args0 [] r0 rs1
 keys : (rs1.all fun p => m.any fun q => q.1 == p.1) = true
 nd : ndB (m.map (·.2)) = true
 nd1 : ndB (m.map (·.1)) = true
 args : withinL none0 args0 = true
 noR : ∀ σ δ, renL σ δ args0 = args0
 res : within (domR rs1) r0 = true
 in1 : ∀ p ∈ rs1, withinRes (domR rs1) p.2.2
 dom : ∀ q ∈ m, domR rs1 q.1 = true ∧ 1 ≤ (lookR q.1 rs1).1
theorem mpS_map {m : List (Nat × Nat)} (h : (m.map (·.1)).Nodup) (c : Nat → Nat) : ∀ q ∈ m, mpS (m.map fun q => (q.1, q.2, c q.2)) q.1 = q.2 ∧ mpD (m.map fun q => (q.1, q.2, c q.2)) q.1 = c q.2 := by
 induction m with
 | nil => intro q hq; simp at hq
 | cons p m ih =>
  intro q hq
  rw [List.map_cons, List.nodup_cons] at h
  rcases List.mem_cons.1 hq with rfl | hq
  ·simp [mpS, mpD]
  ·have hne : q.1 ≠ p.1 := fun e => h.1 (by rw [← e]; exact List.mem_map_of_mem hq)
   have := ih h.2 q hq
   simp only [List.map_cons, mpS, mpD]
   rw [if_neg (by simpa using hne), if_neg (by simpa using hne)]
   exact this
theorem spN_ok {C : Ctx} {f : Nat} {m : List (Nat × Nat)} {args0 : List AV} {r0 : AV} {rs1 : List (Nat × Nat × Res)} (q : NOk (C := C) f m args0 r0 rs1) (st : St) (d : Nat) (args : List AV) (K : AV → List Loc → List (Loc × Cont) → Prop) (h : spN m args0 r0 rs1 st d args K) :
  ∃ r ls outs, CallR C f st args r ls outs ∧ K r ls outs := by
 obtain ⟨rfl, h3⟩ := h
 have hmp := mpS_map (ndB_ok q.nd1) st.cur
 have hc := CallR.gen (st := st) q.fc (m.map fun q => (q.1, q.2, st.cur q.2)) (by simpa [List.any_map] using q.keys) (by rw [List.map_map]; exact ndB_ok q.nd) (withinL_none q.args) q.res (fun p hp => by simp at hp) q.in1 (fun p hp => by simp at hp) (fun p hp _ _ => by
  obtain ⟨z, hz, rfl⟩ := List.mem_map.1 hp
  have := (q.dom z hz).2
  rw [(hmp z hz).1, (hmp z hz).2]
  exact Nat.lt_add_of_pos_left this)
 rw [q.noR] at hc
 refine ⟨_, _, _, hc, ?_⟩
 have e1 : (m.map fun q => (q.1, q.2, st.cur q.2)).map (fun z => Loc.R (mpS (m.map fun q => (q.1, q.2, st.cur q.2)) z.1)) = m.map fun q => Loc.R q.2 := by
  rw [List.map_map]
  exact List.map_congr_left fun z hz => congrArg Loc.R (hmp z hz).1
 have e2 : (m.map fun q => (q.1, q.2, st.cur q.2)).map (fun z => ((Loc.R (mpS (m.map fun q => (q.1, q.2, st.cur q.2)) z.1), Cont.s (backV (mpD (m.map fun q => (q.1, q.2, st.cur q.2))) (mpS (m.map fun q => (q.1, q.2, st.cur q.2))) rs1 st z.1) (renRes (mpS (m.map fun q => (q.1, q.2, st.cur q.2))) (mpD (m.map fun q => (q.1, q.2, st.cur q.2))) (lookR z.1 rs1).2)) : Loc × Cont)) =
   m.map fun z => (Loc.R z.2, Cont.s ((lookR z.1 rs1).1 + st.cur z.2) (renRes (mpS (m.map fun q => (q.1, q.2, st.cur q.2))) (mpD (m.map fun q => (q.1, q.2, st.cur q.2))) (lookR z.1 rs1).2)) := by
  rw [List.map_map]
  refine List.map_congr_left fun z hz => ?_
  simp only [Function.comp]
  rw [(hmp z hz).1]
  unfold backV
  rw [if_pos (q.dom z hz).1, (hmp z hz).2]
 rw [e1, e2]
 exact h3
noncomputable def ctN {C : Ctx} (f : Nat) (m : List (Nat × Nat)) (args0 : List AV) (r0 : AV) (rs1 : List (Nat × Nat × Res)) (he : Enters C.P f) (q : NOk (C := C) f m args0 r0 rs1) : Ct C := .res f (spN m args0 r0 rs1) he (spN_ok q)
@[go_sem] theorem ctN_g {C : Ctx} (f : Nat) (m : List (Nat × Nat)) (args0 : List AV) (r0 : AV) (rs1 : List (Nat × Nat × Res)) (he : Enters C.P f) (q : NOk (C := C) f m args0 r0 rs1) : (ctN f m args0 r0 rs1 he q).g = f := rfl
@[go_sem] theorem ctN_run {C : Ctx} (f : Nat) (m : List (Nat × Nat)) (args0 : List AV) (r0 : AV) (rs1 : List (Nat × Nat × Res)) (he : Enters C.P f) (q : NOk (C := C) f m args0 r0 rs1) (c : Call) (fop : Operand) (cs : List AV) (o : Oper) (st : St) (K : List Loc → List (Loc × Cont) → Prop) : (ctN f m args0 r0 rs1 he q).run c fop cs o st K = callG (spN m args0 r0 rs1) c fop cs o st K := rfl
attribute [go_sem] spN
abbrev eventC (e : EventT) : List AV := [Iv e.kind, Iv e.step, Iv e.thread, Iv e.fn, Iv e.pc, Iv e.line, Iv e.a, Iv e.b, Iv e.val.1, Iv e.val.2, Iv e.old.1, Iv e.old.2]
theorem insEv (e : EventT) (k : Nat) : withinRes (domR [(0, 0, .bx (eventC e))]) (lookR k [(0, 0, .bx (eventC e))]).2 := by
 have h : lookR k [(0, 0, Res.bx (eventC e))] = if k = 0 then (0, .bx (eventC e)) else (0, .gone) := rfl
 rw [h]
 split
 ·rfl
 ·trivial
theorem tell_c (e : EventT) (k : Int) (v : Int × Int) : FC Cx 142 [Iv k, .r (.rp [.v (.int .i64 v.1), .v (.int .i64 v.2)]), .os 0 0] [(0, 0, .bx (eventC e))] (eventA { e with kind := k, val := v }) [(0, 0, .bx (eventC { e with kind := k, val := v }))] := by
 refine FCm_of []  Tryz.func142 rfl Tryz.ntmps142 (by simp) Tryz.results142 rfl (insEv _) ?_
 refine rnst ?_
 (any_goals refine go lv142 0 ?_)
 all_goals (try simp only [go_sem])
theorem tell_Q (e : EventT) (k : Int) (v : Int × Int) (a d : Nat) : QOk (C := Cx) 142 [(0, a, d)] [Iv k, .r (.rp [.v (.int .i64 v.1), .v (.int .i64 v.2)]), .os 0 0] [(0, 0, .bx (eventC e))] (eventA { e with kind := k, val := v }) [(0, 0, .bx (eventC { e with kind := k, val := v }))] :=
 ⟨tell_c e k v, rfl, rfl, rfl, rfl, rfl, fun p hp => by simp at hp; subst hp; rfl, fun p hp => by simp at hp; subst hp; rfl⟩
abbrev boxS (s : StateT) (k v a va b vb : Nat) : Nat × Nat × Res := (k, v, .bx [.os a va, valsV s.shapes, strsV s.texts, .os b vb, endsV s.ends, valsV s.said, Iv s.asked, Iv s.steps])
def killC (f : FrameT) (cs : List CellT) : List CellT := if 0 ≤ f.gen then (match cs[f.gen.toNat]? with | some c => cs.set f.gen.toNat { c with num := 2 } | none => cs) else cs
def unwF (v : Int × Int) (fs : List FrameT) : Nat → List CellT → List CellT × List FrameT × Bool
 | 0, cs => (cs, [], false)
 | m + 1, cs => match fs[m]? with
  | none => (cs, [], false)
  | some f => match f.tries[f.tries.length - 1]? with
   | some y => (cs, fs.take m ++ [{ f with tries := f.tries.take (f.tries.length - 1), pc := y.2, regs := f.regs.set y.1.toNat v }], true)
   | none => unwF v fs m (killC f cs)
def thrT (v : Int × Int) (t : ThreadT) (r : List CellT × List FrameT × Bool) : ThreadT := if r.2.2 = true then ⟨r.2.1, 0, 0, t.val⟩ else ⟨r.2.1, 4, 0, v⟩
theorem killC_len (f : FrameT) (cs : List CellT) : (killC f cs).length = cs.length := by
 unfold killC
 split
 ·split
  ·rw [List.length_set]
  ·rfl
 ·rfl
theorem insDo (s : StateT) (cs : List CellT) (ts : List ThreadT) (k : Nat) : withinRes (domR [boxS s 0 0 1 0 2 0, ownC 1 0 cs, ownT 2 0 ts]) (lookR k [boxS s 0 0 1 0 2 0, ownC 1 0 cs, ownT 2 0 ts]).2 := by
 have e : lookR k [boxS s 0 0 1 0 2 0, ownC 1 0 cs, ownT 2 0 ts] = if k = 0 then (0, (boxS s 0 0 1 0 2 0).2.2) else if k = 1 then (0, .sl 48 4 (cs.map cellA2)) else if k = 2 then (0, .sl 56 5 (ts.map threadA2)) else (0, .gone) := rfl
 rw [e]
 split
 ·rfl
 ·split
  ·exact fun row h => by obtain ⟨x, _, rfl⟩ := List.mem_map.1 h; rfl
  ·split
   ·exact fun row h => by obtain ⟨x, _, rfl⟩ := List.mem_map.1 h; rfl
   ·trivial
theorem do_c (s : StateT) (th : Nat) (t : ThreadT) (v : Int × Int) (e : EventT) (ht : s.threads[th]? = some t) (hl : t.frames.length ≤ 1000000000) (hcl : s.cells.length ≤ 1000000000)
  (hfs : ∀ f ∈ t.frames, (f.tries.length ≤ 1000000000 ∧ ∀ y ∈ f.tries, 0 ≤ y.1 ∧ y.1 < (f.regs.length : Int)) ∧ (0 ≤ f.gen → f.gen < (s.cells.length : Int))) :
  FC Cx 85 [.os 0 0, Iv th, VV v.1 v.2, eventA e] [boxS s 0 0 1 0 2 0, ownC 1 0 s.cells, ownT 2 0 s.threads]
   (eventsV [{ e with kind := 7, val := v }, { e with kind := if (unwF v t.frames t.frames.length s.cells).2.2 = true then 8 else 17, val := v }])
   [boxS s 0 0 1 0 2 0, ownC 1 0 (unwF v t.frames t.frames.length s.cells).1, ownT 2 0 (s.threads.set th (thrT v t (unwF v t.frames t.frames.length s.cells)))] := by
 have hk := (List.getElem?_eq_some_iff.1 ht).1
 have t1 : Int.toNat (th : Int) = th := by omega
 have q2 : (s.threads.map threadA2)[th]? = some (threadA2 t) := by rw [List.getElem?_map, ht]; rfl
 have q1 : (s.threads.map threadA2).length = s.threads.length := List.length_map ..
 have q8 : (s.threads.set th (thrT v t (unwF v t.frames t.frames.length s.cells))).map threadA2 = (s.threads.map threadA2).set th (threadA2 (thrT v t (unwF v t.frames t.frames.length s.cells))) := List.map_set ..
 have hq := fun (e : EventT) (k : Int) => tell_Q e k v 7 1
 have en : Enters Cx.P 142 := en142
 obtain ⟨vk, vn⟩ := v
 dsimp only at *
 have hins := insDo s (unwF (vk, vn) t.frames t.frames.length s.cells).1 (s.threads.set th (thrT (vk, vn) t (unwF (vk, vn) t.frames t.frames.length s.cells)))
 dsimp only [boxS, ownC, ownT] at hins ⊢
 rw [q8] at hins ⊢
 clear q8
 refine FCm_of [ctQ 142 [(0, 7, 1)] [Iv 7, .r (.rp [.v (.int .i64 vk), .v (.int .i64 vn)]), .os 0 0] [(0, 0, .bx (eventC e))] (eventA { e with kind := 7, val := (vk, vn) }) [(0, 0, .bx (eventC { e with kind := 7, val := (vk, vn) }))] en (hq e 7)]  Tryz.func85 rfl Tryz.ntmps85 (by simp) Tryz.results85 rfl (hins) ?_
 refine rnst ?_
 clear hins
 (any_goals refine go (dropL 1 lv85) 0 ?_)
 refine fzB 6 ?_
 generalize hT0 : s.threads.map threadA2 = T0 at *
 have q4 : ∀ X, (T0.set th X).length = s.threads.length := fun X => by rw [List.length_set, q1]
 have q5 : T0.getD th [] = threadA2 t := by rw [List.getD_eq_getElem?_getD, q2]; rfl
 have q6 : ∀ X, (T0.set th X).getD th [] = X := fun X => by rw [List.getD_eq_getElem?_getD, List.getElem?_set_self (by omega)]; rfl
 have q7 : ∀ X Y, (T0.set th X).set th Y = T0.set th Y := fun X Y => List.set_set ..
 (any_goals refine go (dropL 5 lv85) 0 ?_)
 (apply Rn_openS 2 th 0 201; (exact rfl); (exact List.getElem?_set_self (by omega)); (exact rfl); (exact rfl); (exact rfl); (intro K0; (try simp only [go_sem, q7, frameM_A]); exact ⟨id⟩))
 have lf0 : (t.frames.map frameA2).length = t.frames.length := List.length_map ..
 have w0 : IntKind.i64.wrap ((t.frames.length : Int) - 1) = (t.frames.length : Int) - 1 := by rw [wrap_id] <;> omega
 (any_goals refine go lv85 0 ?_)
 rw [show t.frames.map frameA2 = (t.frames.take t.frames.length).map frameA2 by rw [List.take_length]]
 refine Rn_loopS (fun x : Nat × Nat × List CellT => x.1 ≤ t.frames.length ∧ x.2.2.length = s.cells.length ∧ unwF (vk, vn) t.frames t.frames.length s.cells = unwF (vk, vn) t.frames x.1 x.2.2) (fun x => ⟨126, [(0, .os 0 0), (6, .r (.rp [.v (.int .i64 vk), .v (.int .i64 vn)])), (9, .cl 142 [.r (.rp [.v (.int .i64 vk), .v (.int .i64 vn)]), .os 7 1]), (10, .os 19 1), (11, .re 2 0 5 th 0), (12, Iv ((x.1 : Int) - 1))], [(0, 0, .bx [.os 1 0, valsV s.shapes, strsV s.texts, .os 2 0, endsV s.ends, valsV s.said, Iv s.asked, Iv s.steps]), (1, 0, .sl 48 4 (x.2.2.map cellA2)), (2, 0, .sl 56 5 (T0.set th [.os 201 x.2.1, Iv 0, Iv 0, Iv t.val.1, Iv t.val.2])), (6, 2, .gone), (7, 1, .bx (eventC { e with kind := 7, val := (vk, vn) })), (19, 1, .sl 76 12 [eventC { e with kind := 7, val := (vk, vn) }]), (201, x.2.1, .sl 61 8 ((t.frames.take x.1).map frameA2))]⟩) (fun x => x.1) (t.frames.length, 1, s.cells) ⟨Nat.le_refl _, rfl, rfl⟩ ?_
 rintro ⟨m, w, cs⟩ ⟨hm, hcs, hu⟩
 dsimp only at hm hcs hu ⊢
 rw [hu]
 clear lf0 w0 q5
 cases m with
 | zero =>
  rw [show ((0 : Nat) : Int) - 1 = -1 from rfl, show unwF (vk, vn) t.frames 0 cs = (cs, [], false) from rfl]
  dsimp only [thrT]
  rw [if_neg (show ¬ false = true by simp), if_neg (show ¬ false = true by simp)]
  (apply Rn_closeS 2 th 0 201 []; (exact rfl); (exact List.getElem?_set_self (by omega)); (exact rfl); (exact (by decide)); (exact rfl); (exact rfl); (intro K0; (try simp only [go_sem, q7]); exact ⟨id⟩))
  refine Rn_T [ctQ 142 [(0, 7, 1)] [Iv 17, .r (.rp [.v (.int .i64 vk), .v (.int .i64 vn)]), .os 0 0] [(0, 0, .bx (eventC { e with kind := 7, val := (vk, vn) }))] (eventA { e with kind := 17, val := (vk, vn) }) [(0, 0, .bx (eventC { e with kind := 17, val := (vk, vn) }))] en (hq { e with kind := 7, val := (vk, vn) } 17)] ?_
  (any_goals refine goN lv85 0 ?_)
  (apply Rn_frzS 19 [eventR { e with kind := 7, val := (vk, vn) }, eventR { e with kind := 17, val := (vk, vn) }]; (exact rfl); (exact rfl); (exact rfl); (intro K0; (try simp only [go_sem]); exact ⟨id⟩))
  (any_goals refine go lv85 0 ?_)
  all_goals (try simp only [go_sem])
  exact ⟨rfl, rfl⟩
 | succ k =>
  rw [show ((k + 1 : Nat) : Int) - 1 = (k : Int) by omega]
  obtain ⟨f, hf⟩ : ∃ f, t.frames[k]? = some f := ⟨t.frames[k]'(by omega), List.getElem?_eq_getElem _⟩
  obtain ⟨⟨hf1, hf2⟩, hf3⟩ := hfs f (List.mem_of_getElem? hf)
  have p2 : ((t.frames.take (k + 1)).map frameA2)[k]? = some (frameA2 f) := by rw [List.getElem?_map, List.getElem?_take, if_pos (by omega), hf]; rfl
  have p1 : ((t.frames.take (k + 1)).map frameA2).length = k + 1 := by rw [List.length_map, List.length_take]; omega
  have p3 : List.take k ((t.frames.take (k + 1)).map frameA2) = (t.frames.take k).map frameA2 := by rw [← List.map_take, List.take_take, Nat.min_eq_left (by omega)]
  have p3' : (t.frames.take (k + 1)) = t.frames.take k ++ [f] := by rw [List.take_add_one, hf]; rfl
  have p4 : ((t.frames.take (k + 1)).map frameA2).getD k [] = frameA2 f := by rw [List.getD_eq_getElem?_getD, p2]; rfl
  have t2 : Int.toNat (k : Int) = k := by omega
  have d1 : decide ((0 : Int) ≤ (k : Int)) = true := by rw [decide_eq_true_eq]; omega
  have w1 : IntKind.i64.wrap ((k : Int) - 1) = (k : Int) - 1 := by rw [wrap_id] <;> omega
  have lt : (f.tries.map tryR).length = f.tries.length := List.length_map ..
  have w2 : IntKind.i64.wrap ((f.tries.length : Int) - 1) = (f.tries.length : Int) - 1 := by rw [wrap_id] <;> omega
  by_cases ht0 : f.tries.length = 0
  ·have hu2 : unwF (vk, vn) t.frames (k + 1) cs = unwF (vk, vn) t.frames k (killC f cs) := by
    rw [unwF, hf]
    dsimp only
    rw [List.getElem?_eq_none (by omega)]
   rw [hu2] at hu ⊢
   have d2 : decide ((0 : Int) ≤ (f.tries.length : Int) - 1) = false := by rw [decide_eq_false_iff_not]; omega
   generalize hR : (t.frames.take (k + 1)).map frameA2 = R at *
   clear hf2 p3' hR hfs hT0 q2
   by_cases hg : 0 ≤ f.gen
   ·have hg2 := hf3 hg
    have d3 : decide (0 ≤ f.gen) = true := by simpa using hg
    obtain ⟨c, hc⟩ : ∃ c, cs[f.gen.toNat]? = some c := ⟨cs[f.gen.toNat]'(by omega), List.getElem?_eq_getElem _⟩
    have gc := getD_map cellA2 hc ([] : List AV)
    have lc : (cs.map cellA2).length = cs.length := List.length_map ..
    have hkc : killC f cs = cs.set f.gen.toNat { c with num := 2 } := by unfold killC; rw [if_pos hg, hc]
    have hset : (killC f cs).map cellA2 = (cs.map cellA2).set f.gen.toNat [Iv c.kind, Iv 2, valsV c.vals, .nd 61 8 (c.frames.map frameM)] := by rw [hkc, List.map_set]
    have hkl := killC_len f cs
    clear hkc hc
    obtain ⟨fn, pc, tov, gen, ⟨sk, sn⟩, regs, tries⟩ := f
    dsimp only at *
    (any_goals refine go lv85 0 ?_)
    refine ⟨(k, w + 1, killC ⟨fn, pc, tov, gen, (sk, sn), regs, tries⟩ cs), ⟨by dsimp only; omega, by dsimp only; omega, rfl⟩, by dsimp only; omega, ?_⟩
    dsimp only
    rw [hset]
    exact Le_subA
   ·have d3 : decide (0 ≤ f.gen) = false := by simpa using hg
    have hkc : killC f cs = cs := by unfold killC; rw [if_neg hg]
    rw [hkc] at hu ⊢
    obtain ⟨fn, pc, tov, gen, ⟨sk, sn⟩, regs, tries⟩ := f
    dsimp only at *
    clear hkc hu2
    (any_goals refine go lv85 0 ?_)
    refine ⟨(k, w + 1, cs), ⟨by dsimp only; omega, hcs, rfl⟩, by dsimp only; omega, ?_⟩
    dsimp only
    exact Le_subA
  ·obtain ⟨y, hy⟩ : ∃ y, f.tries[f.tries.length - 1]? = some y := ⟨f.tries[f.tries.length - 1]'(by omega), List.getElem?_eq_getElem _⟩
   obtain ⟨y0, y1⟩ := hf2 y (List.mem_of_getElem? hy)
   have gy := getD_map tryR hy ([] : List RV)
   obtain ⟨z, hz⟩ : ∃ z, f.regs[y.1.toNat]? = some z := ⟨f.regs[y.1.toNat]'(by omega), List.getElem?_eq_getElem _⟩
   have gz := getD_map valC hz ([] : List AV)
   have lr : (f.regs.map valC).length = f.regs.length := List.length_map ..
   have t3 : Int.toNat ((f.tries.length : Int) - 1) = f.tries.length - 1 := by omega
   have d2 : decide ((0 : Int) ≤ (f.tries.length : Int) - 1) = true := by rw [decide_eq_true_eq]; omega
   have hu2 : unwF (vk, vn) t.frames (k + 1) cs = (cs, t.frames.take k ++ [{ f with tries := f.tries.take (f.tries.length - 1), pc := y.2, regs := f.regs.set y.1.toNat (vk, vn) }], true) := by
    rw [unwF, hf]
    dsimp only
    rw [hy]
   rw [hu2]
   dsimp only [thrT]
   rw [if_pos rfl, if_pos rfl]
   clear hu hu2 hz hy
   have p6 : ∀ X, (((t.frames.take (k + 1)).map frameA2).set k X).getD k [] = X := fun X => by rw [List.getD_eq_getElem?_getD, List.getElem?_set_self (by omega)]; rfl
   have p7 : ∀ X Y, (((t.frames.take (k + 1)).map frameA2).set k X).set k Y = ((t.frames.take (k + 1)).map frameA2).set k Y := fun X Y => List.set_set ..
   have p8 : ∀ X, (((t.frames.take (k + 1)).map frameA2).set k X).length = k + 1 := fun X => by rw [List.length_set, p1]
   have p9 : ∀ g : FrameT, ((t.frames.take (k + 1)).map frameA2).set k (frameA2 g) = ((t.frames.take k ++ [g]).map frameM).map (List.map nvC) := fun g => by
    rw [frameM_A, p3', List.map_append, List.set_append_right _ _ (by rw [List.length_map, List.length_take]; omega), List.length_map, List.length_take, show k - min k t.frames.length = 0 by omega, List.map_append]
    rfl
   generalize hR : (t.frames.take (k + 1)).map frameA2 = R at *
   clear p3' p3 hR hfs hT0 q2
   (apply Rn_openS 201 k 6 202; (exact rfl); (exact p2); (exact rfl); (exact rfl); (exact rfl); (intro K0; (try simp only [go_sem, valN_C]); exact ⟨id⟩))
   obtain ⟨fn, pc, tov, gen, ⟨sk, sn⟩, regs, tries⟩ := f
   dsimp only at *
   have pT : List.take (tries.length - 1) (tries.map tryR) = (tries.take (tries.length - 1)).map tryR := List.map_take.symm
   have k1 : (regs.map valC).set y.1.toNat [Iv vk, Iv vn] = ((regs.set y.1.toNat (vk, vn)).map valN).map (List.map nvC) := by rw [valN_C, List.map_set]
   replace p9 := p9 ⟨fn, y.2, tov, gen, (sk, sn), regs.set y.1.toNat (vk, vn), tries.take (tries.length - 1)⟩
   (any_goals refine go (dropL 13 lv85) 0 ?_)
   (apply Rn_closeS 201 k 6 202 ((regs.set y.1.toNat (vk, vn)).map valN); (exact rfl); (exact List.getElem?_set_self (by omega)); (exact rfl); (exact (by decide)); (exact rfl); (exact rfl); (intro K0; (try simp only [go_sem, p7]); exact ⟨id⟩))
   (apply Rn_closeS 2 th 0 201 ((t.frames.take k ++ [(⟨fn, y.2, tov, gen, (sk, sn), regs.set y.1.toNat (vk, vn), tries.take (tries.length - 1)⟩ : FrameT)]).map frameM); (exact rfl); (exact List.getElem?_set_self (by omega)); (exact rfl); (exact (by decide)); (exact congrArg (fun z => (w, Res.sl 61 8 z)) p9); (exact rfl); (intro K0; (try simp only [go_sem, q7]); exact ⟨id⟩))
   clear p9 k1 pT
   refine Rn_T [ctQ 142 [(0, 7, 1)] [Iv 8, .r (.rp [.v (.int .i64 vk), .v (.int .i64 vn)]), .os 0 0] [(0, 0, .bx (eventC { e with kind := 7, val := (vk, vn) }))] (eventA { e with kind := 8, val := (vk, vn) }) [(0, 0, .bx (eventC { e with kind := 8, val := (vk, vn) }))] en (hq { e with kind := 7, val := (vk, vn) } 8)] ?_
   (any_goals refine goN lv85 0 ?_)
   (apply Rn_frzS 19 [eventR { e with kind := 7, val := (vk, vn) }, eventR { e with kind := 8, val := (vk, vn) }]; (exact rfl); (exact rfl); (exact rfl); (intro K0; (try simp only [go_sem]); exact ⟨id⟩))
   (any_goals refine go lv85 0 ?_)
   all_goals (try simp only [go_sem])
   all_goals rfl
def TrG (f : FnT) (W : WT) (l : List (Int × Int)) : Prop := ∀ (j : Nat) (y : Int × Int), l[j]? = some y → (0 ≤ y.1 ∧ y.1 < f.regs) ∧ To f W y.2 (l.take j)
theorem TrG.keeps {f : FnT} {W W' : WT} {l : List (Int × Int)} (h : TrG f W l) (hk : ∀ t l, To f W t l → To f W' t l) : TrG f W' l := fun j y hy => ⟨(h j y hy).1, hk _ _ (h j y hy).2⟩
theorem TrG.nil (f : FnT) (W : WT) : TrG f W [] := fun j y hy => by simp at hy
theorem TrG.take {f : FnT} {W : WT} {l : List (Int × Int)} (h : TrG f W l) (k : Nat) : TrG f W (l.take k) := fun j y hy => by
 rw [List.getElem?_take] at hy
 split at hy
 ·rename_i hj
  have := h j y hy
  rw [List.take_take, Nat.min_eq_left (by omega)]; exact this
 ·cases hy
theorem TrG.push {f : FnT} {W : WT} {l : List (Int × Int)} (h : TrG f W l) {a b : Int} (ha : 0 ≤ a ∧ a < f.regs) (hb : To f W b l) : TrG f W (l ++ [(a, b)]) := fun j y hy => by
 by_cases hj : j < l.length
 ·rw [List.getElem?_append_left hj] at hy
  rw [List.take_append_of_le_length (by omega)]
  exact h j y hy
 ·rw [List.getElem?_append_right (by omega)] at hy
  have he : j - l.length = 0 := by
   rcases Nat.eq_zero_or_pos (j - l.length) with h | h
   ·exact h
   ·rw [List.getElem?_eq_none (by simp; omega)] at hy; cases hy
  rw [he] at hy; simp at hy; subst hy
  rw [show j = l.length by omega, List.take_left]
  exact ⟨ha, hb⟩
def Wtr6 (f : FnT) (W : WT) : Prop := ∀ k : Nat, W.seen.getD k false = true → TrG f W (W.out.getD k [])
theorem come_tr6 {f : FnT} {n : Int} {l : List (Int × Int)} {W : WT} (hi : Wiv f W) (hn : 0 ≤ n) (hl : TrG f (comeF f n l W) l) (hW : Wtr6 f W) : Wtr6 f (comeF f n l W) := by
 intro k hk
 by_cases hs : W.seen.getD k false = true
 ·have hT := seen_to hi hs
  have h2 := come_keeps (n := n) (l := l) hT
  have : (comeF f n l W).out.getD k [] = W.out.getD k [] := h2.out
  rw [this]
  exact (hW k hs).keeps fun t l' hT => come_keeps hT
 ·have h1 := hi.out
  unfold comeF at hk hl ⊢
  split at hk
  ·exact absurd hk hs
  ·rename_i hb
   rw [if_neg hb] at hl ⊢
   split at hk
   ·rename_i hs2
    rw [if_pos hs2] at hl ⊢
    by_cases he : n.toNat = k
    ·subst he
     dsimp only
     rw [getD_set_self (by omega)]; exact hl
    ·dsimp only at hk; rw [getD_set_ne he] at hk; exact absurd hk hs
   ·split at hk <;> exact absurd hk hs
theorem come_good6 {f : FnT} {n : Int} {l : List (Int × Int)} {W : WT} (h : (comeF f n l W).bad = false) : W.bad = false := by
 cases hx : W.bad with
 | false => rfl
 | true => rw [come_bad hx] at h; cases h
theorem from_tr6 {f : FnT} {n : Int} {W : WT} (h : Wiv f W) (hc : Cok f) (hr : ∀ i ∈ f.code, i.op = 30 → 0 ≤ i.a ∧ i.a < f.regs) (hn : 0 ≤ n) (hs : W.seen.getD n.toNat false = true) (hb : (fromF f n W).bad = false) (hW : Wtr6 f W) : Wtr6 f (fromF f n W) := by
 have hi : f.code.getD n.toNat ins0 = ins0 ∨ f.code.getD n.toNat ins0 ∈ f.code := by
  cases hg : f.code[n.toNat]? with
  | none => left; simp [List.getD, hg]
  | some i => right; simp only [List.getD, hg, Option.getD_some]; exact List.mem_of_getElem? hg
 have hA : (f.code.getD n.toNat ins0).op = 13 ∨ (f.code.getD n.toNat ins0).op = 14 → 0 ≤ (f.code.getD n.toNat ins0).a := fun ho => hi.elim (fun h => by rw [h] at ho; rcases ho with ho | ho <;> cases ho) (fun h => hc.a _ h ho)
 have hB : (f.code.getD n.toNat ins0).op = 15 ∨ (f.code.getD n.toNat ins0).op = 30 → 0 ≤ (f.code.getD n.toNat ins0).b := fun ho => hi.elim (fun h => by rw [h] at ho; rcases ho with ho | ho <;> cases ho) (fun h => hc.b _ h ho)
 have hR : (f.code.getD n.toNat ins0).op = 30 → 0 ≤ (f.code.getD n.toNat ins0).a ∧ (f.code.getD n.toNat ins0).a < f.regs := fun ho => hi.elim (fun h => by rw [h] at ho; cases ho) (fun h => hr _ h ho)
 have hl := hW n.toNat hs
 unfold fromF at hb ⊢
 generalize f.code.getD n.toNat ins0 = i at hA hB hR hb ⊢
 generalize W.out.getD n.toNat [] = l at hl hb ⊢
 dsimp only at hb ⊢
 split at hb
 ·rename_i h1; rw [if_pos h1]; exact hW
 ·rename_i h1
  rw [if_neg h1]
  split at hb
  ·rename_i h2; rw [if_pos h2]
   exact come_tr6 h (hA h2) (hl.keeps fun t l' hT => come_keeps hT) hW
  ·rename_i h2
   rw [if_neg h2]
   split at hb
   ·rename_i h3; rw [if_pos h3]
    have q := (come_iv (n := i.b) (l := l) h (hB (.inl h3))).1
    exact come_tr6 q (by omega) ((hl.keeps fun t l' hT => come_keeps hT).keeps fun t l' hT => come_keeps hT) (come_tr6 h (hB (.inl h3)) (hl.keeps fun t l' hT => come_keeps hT) hW)
   ·rename_i h3
    rw [if_neg h3]
    split at hb
    ·rename_i h4; rw [if_pos h4]
     have q := (come_iv (n := i.b) (l := l) h (hB (.inr h4))).1
     have hT := come_keeps (n := n + 1) (l := l ++ [(i.a, i.b)]) (come_to h (hB (.inr h4)) (come_good6 hb))
     exact come_tr6 q (by omega) (((hl.keeps fun t l' hT => come_keeps hT).keeps fun t l' hT => come_keeps hT).push (hR h4) hT) (come_tr6 h (hB (.inr h4)) (hl.keeps fun t l' hT => come_keeps hT) hW)
    ·rename_i h4
     rw [if_neg h4]
     split at hb
     ·rename_i h5; rw [if_pos h5]
      split at hb
      ·cases hb
      ·rename_i h6; rw [if_neg h6]
       exact come_tr6 h (by omega) ((hl.take _).keeps fun t l' hT => come_keeps hT) hW
     ·rename_i h5; rw [if_neg h5]
      exact come_tr6 h (by omega) (hl.keeps fun t l' hT => come_keeps hT) hW
def Wtd6 (W : WT) : Prop := ∀ t ∈ W.todo, W.seen.getD t.toNat false = true
theorem come_td6 {f : FnT} {n : Int} {l : List (Int × Int)} {W : WT} (hi : Wiv f W) (hn : 0 ≤ n) (h : Wtd6 W) : Wtd6 (comeF f n l W) := by
 have h1 := hi.seen
 unfold comeF
 split
 ·exact h
 ·rename_i hb
  split
  ·intro t ht
   dsimp only at ht ⊢
   by_cases he : n.toNat = t.toNat
   ·rw [← he, getD_set_self (by omega)]
   ·rw [getD_set_ne he]
    rcases List.mem_append.1 ht with ht | ht
    ·exact h t ht
    ·simp at ht; subst ht; exact absurd rfl he
  ·split <;> exact h
theorem from_td6 {f : FnT} {n : Int} {W : WT} (h : Wiv f W) (hc : Cok f) (hn : 0 ≤ n) (hW : Wtd6 W) : Wtd6 (fromF f n W) := by
 have hi : f.code.getD n.toNat ins0 = ins0 ∨ f.code.getD n.toNat ins0 ∈ f.code := by
  cases hg : f.code[n.toNat]? with
  | none => left; simp [List.getD, hg]
  | some i => right; simp only [List.getD, hg, Option.getD_some]; exact List.mem_of_getElem? hg
 have hA : (f.code.getD n.toNat ins0).op = 13 ∨ (f.code.getD n.toNat ins0).op = 14 → 0 ≤ (f.code.getD n.toNat ins0).a := fun ho => hi.elim (fun h => by rw [h] at ho; rcases ho with ho | ho <;> cases ho) (fun h => hc.a _ h ho)
 have hB : (f.code.getD n.toNat ins0).op = 15 ∨ (f.code.getD n.toNat ins0).op = 30 → 0 ≤ (f.code.getD n.toNat ins0).b := fun ho => hi.elim (fun h => by rw [h] at ho; rcases ho with ho | ho <;> cases ho) (fun h => hc.b _ h ho)
 unfold fromF
 generalize f.code.getD n.toNat ins0 = i at hA hB ⊢
 generalize W.out.getD n.toNat [] = l
 dsimp only
 split
 ·exact hW
 ·split
  ·rename_i ho; exact come_td6 h (hA ho) hW
  ·split
   ·rename_i ho
    exact come_td6 (come_iv (n := i.b) (l := l) h (hB (.inl ho))).1 (by omega) (come_td6 h (hB (.inl ho)) hW)
   ·split
    ·rename_i ho
     exact come_td6 (come_iv (n := i.b) (l := l) h (hB (.inr ho))).1 (by omega) (come_td6 h (hB (.inr ho)) hW)
    ·split
     ·split
      ·exact hW
      ·exact come_td6 h (by omega) hW
     ·exact come_td6 h (by omega) hW
theorem run_tr6 {f : FnT} (hc : Cok f) (hr : ∀ i ∈ f.code, i.op = 30 → 0 ≤ i.a ∧ i.a < f.regs) : ∀ (k : Nat) (W : WT), Wiv f W → Wtd6 W → Wtr6 f W → (runW f k W).bad = false → Wtr6 f (runW f k W)
 | 0, W, _, _, h, _ => h
 | k + 1, W, hi, ht, h, hb => by
  have hrun : runW f (k + 1) W = if goesW W = true then runW f k (stepW f W) else W := rfl
  rw [hrun] at hb ⊢
  split at hb
  ·rename_i hg
   rw [if_pos hg]
   have h0 : 0 < W.todo.length := by simp [goesW] at hg; exact hg.1
   obtain ⟨q1, q2, q3, q4⟩ := pop_iv hi h0
   have hbs : (stepW f W).bad = false := by
    cases hx : (stepW f W).bad with
    | false => rfl
    | true =>
     have : ∀ (k : Nat) (W : WT), Wiv f W → W.bad = true → (runW f k W).bad = true := fun k => by
      induction k with
      | zero => intro W _ h; exact h
      | succ k ih =>
       intro W hi h
       show (if goesW W = true then runW f k (stepW f W) else W).bad = true
       have : goesW W = false := by unfold goesW; rw [h]; simp
       rw [this, if_neg (by simp)]; exact h
     rw [this k _ (step_iv hi hc hg).1 hx] at hb; cases hb
   have hm : lastT W ∈ W.todo := by
    unfold lastT
    rw [List.getD_eq_getElem?_getD, List.getElem?_eq_getElem (show W.todo.length - 1 < W.todo.length by omega)]
    exact List.getElem_mem _
   have hp : Wtr6 f (popW W) := fun k hk => (h k hk).keeps fun t l hT => ⟨hT.lo, hT.hi, hT.few, hT.seen, hT.out⟩
   have hpt : Wtd6 (popW W) := fun t ht' => ht t (List.mem_of_mem_take ht')
   exact run_tr6 hc hr k _ (step_iv hi hc hg).1 (from_td6 q1 hc q3 hpt) (from_tr6 q1 hc hr q3 (ht _ hm) hbs hp) hb
  ·rename_i hg; rw [if_neg hg]; exact h
theorem walk_tr6 {f : FnT} (hc : Cok f) (hr : ∀ i ∈ f.code, i.op = 30 → 0 ≤ i.a ∧ i.a < f.regs) (hb : (walkF f).bad = false) : Wtr6 f (walkF f) := by
 obtain ⟨i0, m0⟩ := W0_iv f
 obtain ⟨q1, q2⟩ := come_iv (n := 0) (l := []) i0 (Int.le_refl 0)
 have h0 : Wtr6 f (W0 f) := fun k hk => by
  exfalso
  have : (W0 f).seen.getD k false = false := by
   show (List.replicate f.code.length false).getD k false = false
   simp only [List.getD, List.getElem?_replicate]
   split <;> rfl
  rw [this] at hk; cases hk
 have t0 : Wtd6 (W0 f) := fun t ht => by cases ht
 exact run_tr6 hc hr _ _ q1 (come_td6 i0 (Int.le_refl 0) t0) (come_tr6 i0 (Int.le_refl 0) (TrG.nil _ _) h0) hb
theorem order_try {p : ProgT} {f : FnT} (h : ordersF p f = true) : ∀ i ∈ f.code, i.op = 30 → 0 ≤ i.a ∧ i.a < f.regs := by
 intro i hi ho
 obtain ⟨k, hk, rfl⟩ := List.getElem_of_mem hi
 have h1 := List.all_eq_true.1 h k (List.mem_range.2 hk)
 rw [show f.code.getD k ins0 = f.code[k] by simp [List.getD, List.getElem?_eq_getElem hk]] at h1
 have h2 : orderN p f f.code[k] = true := by
  unfold orderF at h1
  split at h1
  ·cases h1
  ·split at h1
   ·cases h1
   ·rename_i h; simpa using h
 simp only [orderN, Bool.and_eq_true] at h2
 have h3 := h2.1.1.2
 have e : fB (f.code[k]).op 0 = 114 := by rw [ho]; rfl
 rw [e] at h3
 have h4 : wiF (f.code[k]).a 0 (f.regs - 1) = true := h3
 have h5 := wiF_iff.1 h4
 exact ⟨h5.1, by omega⟩
theorem frame_tries {p : ProgT} {s : StateT} {f : FrameT} (hw : Pwf p) (hp : checkF p = 0) (h : frameF p s f = true) : f.tries.length ≤ 20 ∧ f.regs.length ≤ 60 ∧ (f.regs.length : Int) = (p.fns.getD f.fn.toNat fn0).regs ∧ TrG (p.fns.getD f.fn.toNat fn0) (walkF (p.fns.getD f.fn.toNat fn0)) f.tries := by
 obtain ⟨⟨g1, g2⟩, g3, g4⟩ := frame_fn h
 obtain ⟨F, hF⟩ : ∃ F, p.fns[f.fn.toNat]? = some F := ⟨p.fns[f.fn.toNat]'(by omega), List.getElem?_eq_getElem _⟩
 have eF : p.fns.getD f.fn.toNat fn0 = F := by rw [List.getD_eq_getElem?_getD, hF]; rfl
 obtain ⟨hpok, hfun, hcok, hbad⟩ := check_fn hw hp (List.mem_of_getElem? hF)
 have hord : ordersF p F = true := by
  unfold functionF at hfun
  split at hfun
  ·cases hfun
  ·split at hfun
   ·cases hfun
   ·rename_i h; simpa using h
 have hr60 := (hpok.fn F (List.mem_of_getElem? hF)).2.1
 unfold frameF at h
 simp only [Bool.and_eq_true, decide_eq_true_eq] at h
 obtain ⟨⟨⟨⟨⟨⟨⟨_, _⟩, _⟩, b4⟩, _⟩, b6⟩, b7⟩, _⟩ := h
 rw [eF] at b4 b6 b7 ⊢
 have hT := seen_to (walk_iv hcok) b6
 have hfew := hT.few
 rw [← b7] at hfew
 refine ⟨hfew, by omega, b4, ?_⟩
 have := walk_tr6 hcok (order_try hord) hbad f.pc.toNat b6
 rw [← b7] at this
 exact this
structure Keeps (s t : StateT) : Prop where
 texts : s.texts.length ≤ t.texts.length
 cells : ∀ (k : Nat) (c : CellT), s.cells[k]? = some c → ∃ c', t.cells[k]? = some c' ∧ c'.kind = c.kind ∧ (c.kind = 4 → c'.num = c.num)
theorem Keeps.at {s t : StateT} (h : Keeps s t) {n : Nat} (hn : n < s.cells.length) : n < t.cells.length ∧ (t.cells.getD n cell0).kind = (s.cells.getD n cell0).kind ∧ ((s.cells.getD n cell0).kind = 4 → (t.cells.getD n cell0).num = (s.cells.getD n cell0).num) := by
 have h0 : s.cells[n]? = some s.cells[n] := List.getElem?_eq_getElem hn
 obtain ⟨c', h1, h2, h3⟩ := h.cells n _ h0
 have e1 : s.cells.getD n cell0 = s.cells[n] := by rw [List.getD_eq_getElem?_getD, h0]; rfl
 have e2 : t.cells.getD n cell0 = c' := by rw [List.getD_eq_getElem?_getD, h1]; rfl
 rw [e1, e2]
 exact ⟨(List.getElem?_eq_some_iff.1 h1).1, h2, h3⟩
theorem Keeps.fits {s t : StateT} (h : Keeps s t) {v : Int × Int} (hv : fitsF s v = true) : fitsF t v = true := by
 unfold fitsF at hv ⊢
 simp only [Bool.and_eq_true] at hv ⊢
 refine ⟨hv.1, ?_⟩
 have h2 := hv.2
 by_cases k4 : v.1 = 4
 ·rw [if_pos k4] at h2 ⊢
  have := h.texts
  simp at h2 ⊢; omega
 ·rw [if_neg k4] at h2 ⊢
  by_cases k5 : v.1 = 5
  ·rw [if_pos k5] at h2 ⊢
   have h0 := right_lo hv.1 (.inr k5)
   simp only [Bool.and_eq_true, decide_eq_true_eq, Bool.not_eq_true', decide_eq_false_iff_not] at h2 ⊢
   obtain ⟨q1, q2, _⟩ := h.at (n := v.2.toNat) (by omega)
   exact ⟨by omega, by rw [q2]; exact h2.2⟩
  ·rw [if_neg k5]
theorem Keeps.ref {s t : StateT} (h : Keeps s t) {v : Int × Int} {q : Int} (hv : refF s v q = true) : refF t v q = true := by
 unfold refF at hv ⊢
 simp only [Bool.and_eq_true, decide_eq_true_eq] at hv ⊢
 obtain ⟨⟨⟨a, b⟩, c⟩, d⟩ := hv
 obtain ⟨q1, q2, _⟩ := h.at (n := v.2.toNat) (by omega)
 exact ⟨⟨⟨a, b⟩, by omega⟩, by rw [q2]; exact d⟩
theorem Keeps.is {s t : StateT} (h : Keeps s t) {v : Int × Int} {q : Int} (hv : isF' s v q = true) : isF' t v q = true := by
 unfold isF' at hv ⊢
 simp only [Bool.and_eq_true, decide_eq_true_eq] at hv ⊢
 obtain ⟨⟨a, b⟩, c⟩ := hv
 have hr := fits_ref (s := s) (n := v.2) (by rw [← b]; exact a)
 obtain ⟨_, q2, _⟩ := h.at (n := v.2.toNat) (by omega)
 exact ⟨⟨h.fits a, b⟩, by rw [q2]; exact c⟩
theorem Keeps.all {s t : StateT} (h : Keeps s t) {l : List (Int × Int)} (hv : l.all (fitsF s) = true) : l.all (fitsF t) = true :=
 List.all_eq_true.2 fun v hm => h.fits (List.all_eq_true.1 hv v hm)
theorem Keeps.held {s t : StateT} (h : Keeps s t) {f : FrameT} (hf : heldF s f = true) : heldF t f = true := by
 unfold heldF at hf ⊢
 simp only [Bool.and_eq_true] at hf ⊢
 exact ⟨h.all hf.1, h.fits hf.2⟩
theorem Keeps.frame {s t : StateT} (h : Keeps s t) {p : ProgT} {f : FrameT} (hf : frameF p s f = true) : frameF p t f = true := by
 unfold frameF at hf ⊢
 simp only [Bool.and_eq_true, decide_eq_true_eq] at hf ⊢
 obtain ⟨⟨⟨⟨⟨⟨⟨a1, a2⟩, a3⟩, a4⟩, a5⟩, a6⟩, a7⟩, a8⟩ := hf
 have hr := a2
 unfold refF at hr
 simp only [Bool.and_eq_true, decide_eq_true_eq] at hr
 obtain ⟨_, _, q3⟩ := h.at (n := f.self.2.toNat) (by have := hr.1.2; have := hr.1.1.2; omega)
 exact ⟨⟨⟨⟨⟨⟨⟨a1, h.ref a2⟩, by rw [q3 hr.2]; exact a3⟩, a4⟩, a5⟩, a6⟩, a7⟩, h.all a8⟩
theorem Keeps.saved {s t : StateT} (h : Keeps s t) {p : ProgT} {f : FrameT} (hf : savedF p s f = true) : savedF p t f = true := by
 unfold savedF at hf ⊢
 simp only [Bool.and_eq_true] at hf ⊢
 exact ⟨⟨⟨⟨h.frame hf.1.1.1.1, hf.1.1.1.2⟩, hf.1.1.2⟩, hf.1.2⟩, hf.2⟩
theorem Keeps.heap {s t : StateT} (h : Keeps s t) {p : ProgT} {c : CellT} (hc : heapF p s c = true) : heapF p t c = true := by
 unfold heapF at hc ⊢
 split at hc
 ·rename_i h1; rw [if_pos h1]; exact hc
 ·rename_i h1
  rw [if_neg h1]
  split at hc
  ·rename_i h2
   rw [if_pos h2]
   simp only [Bool.or_eq_true] at hc ⊢
   exact hc.imp id h.saved
  ·rename_i h2; rw [if_neg h2]
theorem Keeps.cell {s t : StateT} (h : Keeps s t) (hsh : t.shapes = s.shapes) {c : CellT} (hc : cellF s c = true) : cellF t c = true := by
 unfold cellF at hc ⊢
 simp only [Bool.and_eq_true] at hc ⊢
 obtain ⟨⟨⟨⟨⟨a1, a2⟩, a3⟩, a4⟩, a5⟩, a6⟩ := hc
 have hn : numF t c = numF s c := by unfold numF; rw [hsh]
 refine ⟨⟨⟨⟨⟨a1, by rw [hn]; exact a2⟩, ?_⟩, a4⟩, h.all a5⟩, List.all_eq_true.2 fun f hf => h.held (List.all_eq_true.1 a6 f hf)⟩
 unfold valsF at a3 ⊢
 split at a3
 ·rename_i h1; rw [if_pos h1, hn, hsh]; exact a3
 ·rename_i h1
  rw [if_neg h1]
  split at a3
  ·rename_i h2; rw [if_pos h2]
  ·rename_i h2
   rw [if_neg h2]
   split at a3
   ·rename_i h3; rw [if_pos h3]; exact a3
   ·rename_i h3
    rw [if_neg h3]
    split at a3
    ·rename_i h4
     rw [if_pos h4]
     rw [Bool.not_eq_true', List.any_eq_false] at a3 ⊢
     intro v hv
     have := a3 v hv
     simp only [Bool.not_eq_true, Bool.not_eq_false'] at this ⊢
     exact h.is this
    ·rename_i h4; rw [if_neg h4]; exact a3
structure Runs (s t : StateT) : Prop where
 keeps : Keeps s t
 num : ∀ (k : Nat) (c : CellT), s.cells[k]? = some c → c.kind = 5 → c.num = 1 → ∃ c', t.cells[k]? = some c' ∧ c'.num = 1
theorem Runs.goes {s t : StateT} (h : Runs s t) {k : Nat} {f : FrameT} (hf : goesF s k f = true) : goesF t k f = true := by
 unfold goesF at hf ⊢
 simp only [Bool.and_eq_true] at hf ⊢
 refine ⟨⟨hf.1.1, h.keeps.ref hf.1.2⟩, ?_⟩
 have hr := hf.1.2
 unfold refF at hr
 simp only [Bool.and_eq_true, decide_eq_true_eq] at hr
 have hlt : f.gen.toNat < s.cells.length := by have := hr.1.2; have := hr.1.1.2; omega
 have h0 : s.cells[f.gen.toNat]? = some s.cells[f.gen.toNat] := List.getElem?_eq_getElem hlt
 have e1 : s.cells.getD f.gen.toNat cell0 = s.cells[f.gen.toNat] := by rw [List.getD_eq_getElem?_getD, h0]; rfl
 have h3 := hr.2
 have h4 := hf.2
 simp only [decide_eq_true_eq] at h4
 rw [e1] at h4
 simp only [e1] at h3
 obtain ⟨c', q1, q2⟩ := h.num _ _ h0 h3 h4
 have e2 : t.cells.getD f.gen.toNat cell0 = c' := by rw [List.getD_eq_getElem?_getD, q1]; rfl
 rw [e2]; simp [q2]
theorem Runs.on {s t : StateT} (h : Keeps s t) {p : ProgT} {low : Int} {f : FrameT} (hf : onF p s low f = true) : onF p t low f = true := by
 unfold onF at hf ⊢
 simp only [Bool.and_eq_true] at hf ⊢
 exact ⟨⟨⟨h.frame hf.1.1.1, hf.1.1.2⟩, hf.1.2⟩, hf.2⟩
theorem Runs.stack {s t : StateT} (h : Runs s t) {p : ProgT} : ∀ {fs : List FrameT} {k : Nat} {low : Int}, stackR p s k low fs → stackR p t k low fs
 | [], _, _, _ => trivial
 | f :: fs, k, low, hs => ⟨⟨Runs.on h.keeps hs.1.1, fun h0 => h.goes (hs.1.2 h0)⟩, Runs.stack h hs.2⟩
theorem stackR_at {p : ProgT} {s : StateT} : ∀ {fs : List FrameT} {k : Nat} {low : Int} {i : Nat} {f : FrameT}, stackR p s k low fs → fs[i]? = some f → ∃ low', onF p s low' f = true ∧ (0 ≤ f.gen → goesF s (k + i) f = true)
 | f0 :: fs, k, low, 0, f, h, hf => by simp at hf; subst hf; exact ⟨_, h.1⟩
 | f0 :: fs, k, low, i + 1, f, h, hf => by
  have := stackR_at (i := i) h.2 (by simpa using hf)
  rwa [show k + 1 + i = k + (i + 1) by omega] at this
 | [], _, _, _, _, _, hf => by simp at hf
theorem on_frame {p : ProgT} {s : StateT} {low : Int} {f : FrameT} (h : onF p s low f = true) : frameF p s f = true := by
 unfold onF at h
 simp only [Bool.and_eq_true] at h
 exact h.1.1.1
theorem FC_nil3 (n : Nat) {C : Ctx} {f : Nat} {args : List AV} {rs0 : List (Nat × Nat × Res)} {xs ys : List RV} {y z : AV} (hf : FC C f args rs0 (.tup [.agg (xs.map .r), y, z]) []) (h : rowB (nilB n) xs ys) : FC C f args rs0 (.tup [.agg (ys.map .r), y, z]) [] := by
 refine FC_res hf fun cur g w N v hv => ?_
 cases hv with
 | tup _ us hs hu =>
  refine .tup _ us hs fun j x u hx hju => ?_
  match j with
  | 0 =>
   simp at hx; subst hx
   exact AR.nilD (rowB_len h) (fun j x y hx hy => nilB_ok n x y (rowB_at h hx hy)) (hu 0 _ u rfl hju)
  | 1 => exact hu 1 x u hx hju
  | 2 => exact hu 2 x u hx hju
  | j + 3 => simp at hx
theorem ndRs_valM (l : List (Int × Int)) : ndRs (l.map valN) = l.map valR := by rw [ndRs_map, List.map_map]; rfl
theorem ndRs_frameM (l : List FrameT) : ndRs (l.map frameM) = l.map frameR := by
 rw [ndRs_map, List.map_map]
 refine List.map_congr_left fun f _ => ?_
 show [_, _, _, _, _, _, RV.rs 2 (ndRs (f.regs.map valN)), _] = _
 rw [ndRs_valM]; rfl
@[go_sem] theorem lendR_cellM (n : Nat) (st : St) : ∀ (l : List CellT) (K : List Loc → List (List RV) → Prop), lendR (lendC n st) (l.map cellA2) K = K [] (l.map cellR)
 | [], K => rfl
 | x :: l, K => by
  have e : cellR x = [.v (.int .i64 x.kind), .v (.int .i64 x.num), .rs 2 (x.vals.map valR), .rs 8 (ndRs (x.frames.map frameM))] := by rw [ndRs_frameM]
  cases n <;> (simp only [List.map_cons, lendR, lendL, lendC, e]; rw [lendR_cellM _ st l]; rfl)
@[go_sem] theorem lendR_threadM (n : Nat) (st : St) : ∀ (l : List ThreadT) (K : List Loc → List (List RV) → Prop), lendR (lendC n st) (l.map threadA2) K = K [] (l.map threadR)
 | [], K => rfl
 | x :: l, K => by
  have e : threadR x = [.rs 8 (ndRs (x.frames.map frameM)), .v (.int .i64 x.state), .v (.int .i64 x.on), .v (.int .i64 x.val.1), .v (.int .i64 x.val.2)] := by rw [ndRs_frameM]
  cases n <;> (simp only [List.map_cons, lendR, lendL, lendC, e]; rw [lendR_threadM _ st l]; rfl)
@[go_sem] theorem renL_cells (σ δ : Nat → Nat) (l : List CellT) : (l.map cellA2).map (renL σ δ) = l.map cellA2 := by rw [List.map_map]; exact List.map_congr_left fun x _ => rfl
@[go_sem] theorem renL_threads (σ δ : Nat → Nat) (l : List ThreadT) : (l.map threadA2).map (renL σ δ) = l.map threadA2 := by rw [List.map_map]; exact List.map_congr_left fun x _ => rfl
theorem cellEB2 (c : CellT) : rowEB (cellA2 c) (cellR c) := ⟨rfl, rfl, rfl, congrArg (RV.rs 8) (ndRs_frameM _).symm, trivial⟩
theorem threadEB2 (t : ThreadT) : rowEB (threadA2 t) (threadR t) := ⟨congrArg (RV.rs 8) (ndRs_frameM _).symm, rfl, rfl, rfl, rfl, trivial⟩
theorem copy_Q (s : StateT) (hm : Sml s) (a b : Nat) (hab : (a == b) = false) : NOk (C := Cx) 84 [(7, a), (16, b)] [stateV s] (.agg [.os 7 1, valsV s.shapes, strsV s.texts, .os 16 1, endsV s.ends, valsV s.said, Iv s.asked, Iv s.steps]) [ownC 7 1 s.cells, ownT 16 1 s.threads] :=
 ⟨copy_c s hm, rfl, by simp [ndB, memN, show a ≠ b by simpa using hab], rfl, rfl, fun _ _ => rfl, rfl, fun p hp => by
  rcases List.mem_cons.1 hp with rfl | hp
  ·exact insCp s.cells s.threads 7
  ·rcases List.mem_cons.1 hp with rfl | hp
   ·exact insCp s.cells s.threads 16
   ·simp at hp, fun q hq => by
  rcases List.mem_cons.1 hq with rfl | hq
  ·exact ⟨rfl, Nat.le_refl _⟩
  ·rcases List.mem_cons.1 hq with rfl | hq
   ·exact ⟨rfl, Nat.le_refl _⟩
   ·simp at hq⟩
def thrS (s : StateT) (th : Nat) (t : ThreadT) (v : Int × Int) : StateT := ⟨(unwF v t.frames t.frames.length s.cells).1, s.shapes, s.texts, s.threads.set th (thrT v t (unwF v t.frames t.frames.length s.cells)), s.ends, s.said, s.asked, s.steps⟩
def thrE (p : ProgT) (s : StateT) (th : Nat) (t : ThreadT) (f : FrameT) (v : Int × Int) : List EventT := [{ atF p s th f with kind := 7, val := v }, { atF p s th f with kind := if (unwF v t.frames t.frames.length s.cells).2.2 = true then 8 else 17, val := v }]
theorem do_Q (s : StateT) (th : Nat) (t : ThreadT) (v : Int × Int) (e : EventT) (ht : s.threads[th]? = some t) (hl : t.frames.length ≤ 1000000000) (hcl : s.cells.length ≤ 1000000000)
  (hfs : ∀ f ∈ t.frames, (f.tries.length ≤ 1000000000 ∧ ∀ y ∈ f.tries, 0 ≤ y.1 ∧ y.1 < (f.regs.length : Int)) ∧ (0 ≤ f.gen → f.gen < (s.cells.length : Int))) (k a b d0 d1 d2 : Nat) (hab : (k == a || k == b || a == b) = false) :
  QOk (C := Cx) 85 [(0, k, d0), (1, a, d1), (2, b, d2)] [.os 0 0, Iv th, VV v.1 v.2, eventA e] [boxS s 0 0 1 0 2 0, ownC 1 0 s.cells, ownT 2 0 s.threads]
   (eventsV [{ e with kind := 7, val := v }, { e with kind := if (unwF v t.frames t.frames.length s.cells).2.2 = true then 8 else 17, val := v }])
   [boxS s 0 0 1 0 2 0, ownC 1 0 (thrS s th t v).cells, ownT 2 0 (thrS s th t v).threads] := by
 have hab' : (k ≠ a ∧ k ≠ b) ∧ a ≠ b := by simpa using hab
 have hi : ∀ (cs : List CellT) (ts : List ThreadT), ∀ p ∈ [boxS s 0 0 1 0 2 0, ownC 1 0 cs, ownT 2 0 ts], withinRes (domR [boxS s 0 0 1 0 2 0, ownC 1 0 cs, ownT 2 0 ts]) p.2.2 := fun cs ts p hp => by
  rcases List.mem_cons.1 hp with rfl | hp
  ·exact insDo s cs ts 0
  ·rcases List.mem_cons.1 hp with rfl | hp
   ·exact insDo s cs ts 1
   ·rcases List.mem_cons.1 hp with rfl | hp
    ·exact insDo s cs ts 2
    ·simp at hp
 exact ⟨do_c s th t v e ht hl hcl hfs, rfl, by simp [ndB, memN, hab'], rfl, rfl, rfl, hi _ _, hi _ _⟩
theorem heap_one {s : StateT} (h : checkS s = 0) {c : CellT} (hc : c ∈ s.cells) (k5 : c.kind = 5) (n0 : c.num = 0) : c.frames.length = 1 := by
 have := (checkS_iff.1 h).cells c hc
 unfold cellF at this
 simp only [Bool.and_eq_true, decide_eq_true_eq] at this
 obtain ⟨⟨⟨_, a4⟩, _⟩, _⟩ := this
 have : framesN c = 1 := if_pos ⟨k5, n0⟩
 rw [this] at a4; omega
theorem right_small {p : ProgT} {s : StateT} (hw : Pwf p) (hR : RightS p s) : Sml s ∧ (∀ t ∈ s.threads, t.frames.length ≤ 30 ∧ ∀ f ∈ t.frames, (f.tries.length ≤ 1000000000 ∧ ∀ y ∈ f.tries, 0 ≤ y.1 ∧ y.1 < (f.regs.length : Int)) ∧ (0 ≤ f.gen → f.gen < (s.cells.length : Int))) := by
 have hH := checkS_iff.1 hR.heap
 have hfew := hR.few
 unfold manyS at hfew
 simp only [Bool.or_eq_false_iff, decide_eq_false_iff_not, List.any_eq_false, decide_eq_true_eq] at hfew
 have h100 : s.shapes.length ≤ 100 := (Sh.good_ups hH.shapes 0).2.1
 have fr : ∀ f : FrameT, frameF p s f = true → f.regs.length ≤ 1000000000 ∧ f.tries.length ≤ 1000000000 ∧ ∀ y ∈ f.tries, 0 ≤ y.1 ∧ y.1 < (f.regs.length : Int) := fun f hf => by
  obtain ⟨a1, a2, a3, a4⟩ := frame_tries hw hR.prog hf
  refine ⟨by omega, by omega, fun y hy => ?_⟩
  obtain ⟨j, hj⟩ := List.mem_iff_getElem?.1 hy
  rw [a3]; exact (a4 j y hj).1
 have thr : ∀ t ∈ s.threads, t.frames.length ≤ 30 ∧ ∀ f ∈ t.frames, frameF p s f = true ∧ (0 ≤ f.gen → f.gen < (s.cells.length : Int)) := fun t ht => by
  refine ⟨by have := hfew.2 t ht; omega, fun f hf => ?_⟩
  obtain ⟨j, hj⟩ := List.mem_iff_getElem?.1 hf
  obtain ⟨low, ho, hg⟩ := stackR_at (hR.threads t ht).2 hj
  refine ⟨on_frame ho, fun h0 => ?_⟩
  have := hg h0
  unfold goesF at this
  simp only [Bool.and_eq_true] at this
  exact (ref_on this.1.2).2.1
 refine ⟨⟨by have := hH.cellN; omega, by omega, by have := hH.textN; omega, by omega, by have := hH.endN; omega, by have := hH.saidN; omega, fun c hc => ?_, fun c hc => ?_, fun t ht => ⟨by have := (thr t ht).1; omega, fun f hf => ⟨(fr f ((thr t ht).2 f hf).1).1, (fr f ((thr t ht).2 f hf).1).2.1⟩⟩⟩, fun t ht => ⟨(thr t ht).1, fun f hf => ⟨(fr f ((thr t ht).2 f hf).1).2, ((thr t ht).2 f hf).2⟩⟩⟩
 ·have := hH.valN c hc
  unfold bigC at this
  simp at this; omega
 ·have hcf := hH.cells c hc
  by_cases hg : c.kind = 5 ∧ c.num = 0
  ·have h1 := heap_one hR.heap hc hg.1 hg.2
   obtain ⟨f, hf⟩ := List.length_eq_one_iff.1 h1
   have hh := hR.cells c hc
   unfold heapF at hh
   rw [if_neg (by rw [hg.1]; decide), if_pos hg.1, hg.2, hf] at hh
   have hs : savedF p s f = true := by simpa using hh
   unfold savedF at hs
   simp only [Bool.and_eq_true] at hs
   have hfr := fr f hs.1.1.1.1
   rw [hf]
   exact ⟨by simp, fun g hg' => by simp at hg'; subst hg'; exact ⟨hfr.1, hfr.2.1⟩⟩
  ·have h1 : framesN c = 0 := if_neg hg
   unfold cellF at hcf
   simp only [Bool.and_eq_true, decide_eq_true_eq] at hcf
   have h2 := hcf.1.1.2
   rw [h1] at h2
   have h3 : c.frames = [] := List.length_eq_zero_iff.1 (by omega)
   rw [h3]
   exact ⟨by simp, fun g hg' => by simp at hg'⟩
noncomputable def throwE (p : ProgT) (s : StateT) (th : Int) (v : Int × Int) : Int :=
 if faultS p s ≠ 0 then faultS p s else if th < 0 ∨ (s.threads.length : Int) ≤ th then 5 else if (s.threads.getD th.toNat thread0).frames.length = 0 then 8 else if fitsF s v = false then 1 else 0
theorem throw_no (p : ProgT) (s : StateT) (th : Int) (v : Int × Int) (hw : Pwf p) (hs : Swf s) (h : throwE p s th v ≠ 0) : FC Cx 33 [progV p, stateV s, Iv th, VV v.1 v.2] [] (.tup [stateV emptyS, eventsV [], Iv (throwE p s th v)]) [] := by
 refine FC_nil3 1 (xs := [.v (.slice none 0 0), .v (.slice none 0 0), .v (.slice none 0 0), .v (.slice none 0 0), .v (.slice none 0 0), .v (.slice none 0 0), .v (.int .i64 0), .v (.int .i64 0)]) (ys := stateR emptyS) ?_ (by simp [rowB, nilB, nilX, emptyS])
 have l1 : (s.threads.map threadR).length = s.threads.length := List.length_map ..
 obtain ⟨vk, vn⟩ := v
 dsimp only
 unfold throwE at h ⊢
 by_cases hf : faultS p s = 0
 case neg =>
  rw [if_pos hf]
  have d0 : decide (faultS p s = 0) = false := by simpa using hf
  clear hf h
  refine FCf_of [ct_stFault', ct_Fits'] Tryz.func33 rfl Tryz.ntmps33 (by simp) Tryz.results33 rfl ?_
  refine rnst ?_
  refine goR ?_
  refine fzB 4 ?_
  refine fzB 7 ?_
  (any_goals refine go lv33 0 ?_)
  all_goals (try simp only [go_sem])
 rw [if_neg (by simpa using hf)] at h ⊢
 have d0 : decide (faultS p s = 0) = true := by simpa using hf
 by_cases h0 : th < 0 ∨ (s.threads.length : Int) ≤ th
 ·rw [if_pos h0]
  have d1 : (decide (th < 0) || decide ((s.threads.length : Int) ≤ th)) = true := by simpa using h0
  by_cases h1 : th < 0
  ·have d2 : decide (th < 0) = true := by simpa using h1
   clear hf h h0 h1 d1
   refine FCf_of [ct_stFault', ct_Fits'] Tryz.func33 rfl Tryz.ntmps33 (by simp) Tryz.results33 rfl ?_
   refine rnst ?_
   refine goR ?_
   refine fzB 4 ?_
   refine fzB 7 ?_
   (any_goals refine go lv33 0 ?_)
   all_goals (try simp only [go_sem])
  ·have d2 : decide (th < 0) = false := by simpa using h1
   have d3 : decide ((s.threads.length : Int) ≤ th) = true := by rw [decide_eq_true_eq]; omega
   clear hf h h0 h1 d1
   refine FCf_of [ct_stFault', ct_Fits'] Tryz.func33 rfl Tryz.ntmps33 (by simp) Tryz.results33 rfl ?_
   refine rnst ?_
   refine goR ?_
   refine fzB 4 ?_
   refine fzB 7 ?_
   (any_goals refine go lv33 0 ?_)
   all_goals (try simp only [go_sem])
 rw [if_neg h0] at h ⊢
 have d2 : decide (th < 0) = false := by rw [decide_eq_false_iff_not]; omega
 have d3 : decide ((s.threads.length : Int) ≤ th) = false := by rw [decide_eq_false_iff_not]; omega
 have h00 : 0 ≤ th := by omega
 have h01 : th < (s.threads.length : Int) := by omega
 obtain ⟨t, ht⟩ : ∃ t, s.threads[th.toNat]? = some t := ⟨s.threads[th.toNat]'(by omega), List.getElem?_eq_getElem _⟩
 have hg := getD_map threadR ht ([] : List RV)
 have et : s.threads.getD th.toNat thread0 = t := by rw [List.getD_eq_getElem?_getD, ht]; rfl
 have lf : (t.frames.map frameR).length = t.frames.length := List.length_map ..
 rw [et] at h ⊢
 by_cases h2 : t.frames.length = 0
 ·rw [if_pos h2]
  have d4 : decide ((t.frames.length : Int) = 0) = true := by rw [decide_eq_true_eq]; omega
  clear hf h h0 h2 et
  refine FCf_of [ct_stFault', ct_Fits'] Tryz.func33 rfl Tryz.ntmps33 (by simp) Tryz.results33 rfl ?_
  refine rnst ?_
  refine goR ?_
  refine fzB 4 ?_
  refine fzB 7 ?_
  (any_goals refine go lv33 0 ?_)
  all_goals (try simp only [go_sem])
 rw [if_neg h2] at h ⊢
 have d4 : decide ((t.frames.length : Int) = 0) = false := by rw [decide_eq_false_iff_not]; omega
 by_cases h3 : fitsF s (vk, vn) = false
 ·rw [if_pos h3]
  clear hf h h0 h2 et
  refine FCf_of [ct_stFault', ct_Fits'] Tryz.func33 rfl Tryz.ntmps33 (by simp) Tryz.results33 rfl ?_
  refine rnst ?_
  refine goR ?_
  refine fzB 4 ?_
  refine fzB 7 ?_
  (any_goals refine go lv33 0 ?_)
  all_goals (try simp only [go_sem])
 ·rw [if_neg h3] at h; exact absurd rfl h
theorem throw_yes (p : ProgT) (s : StateT) (th : Nat) (t : ThreadT) (f : FrameT) (v : Int × Int) (hw : Pwf p) (hs : Swf s) (hf : faultS p s = 0) (ht : s.threads[th]? = some t) (hfr : t.frames[t.frames.length - 1]? = some f) (hv : fitsF s v = true) :
  FC Cx 33 [progV p, stateV s, Iv th, VV v.1 v.2] [] (.tup [stateV (thrS s th t v), eventsV (thrE p s th t f v), Iv 0]) [] := by
 have hR := rightS_iff.1 hf
 obtain ⟨hm, hth⟩ := right_small hw hR
 obtain ⟨h30, hfs⟩ := hth t (List.mem_of_getElem? ht)
 have hk := (List.getElem?_eq_some_iff.1 ht).1
 have hfk := (List.getElem?_eq_some_iff.1 hfr).1
 have l1 : (s.threads.map threadR).length = s.threads.length := List.length_map ..
 have lf : (t.frames.map frameR).length = t.frames.length := List.length_map ..
 have hg := getD_map threadR ht ([] : List RV)
 have d0 : decide (faultS p s = 0) = true := by simpa using hf
 have d2 : decide ((th : Int) < 0) = false := by rw [decide_eq_false_iff_not]; omega
 have d3 : decide ((s.threads.length : Int) ≤ (th : Int)) = false := by rw [decide_eq_false_iff_not]; omega
 have d4 : decide ((t.frames.length : Int) = 0) = false := by rw [decide_eq_false_iff_not]; omega
 have t1 : Int.toNat (th : Int) = th := by omega
 have hgo := check_go hw hR.prog
 have hfF : frameF p s f = true := by
  obtain ⟨low, ho, _⟩ := stackR_at (hR.threads t (List.mem_of_getElem? ht)).2 hfr
  exact on_frame ho
 have hA : ∀ y, y = [.r (.rp (progR p)), stateP s, Iv th] → CallOk Cx 86 y (eventA (atF p s th f)) := fun y hy => by
  subst hy; exact CallOk_of (uAt_c p s th t f hgo ht hfr hfF (by omega)) en86 rfl rfl
 have q1 := copy_Q s hm 300 301 rfl
 have q2 := do_Q s th t v (atF p s th f) ht (by omega) hm.cells hfs 5 300 301 1 1 1 rfl
 have en1 : Enters Cx.P 84 := en84
 have en2 : Enters Cx.P 85 := en85
 have hE : thrE p s th t f v = [{ atF p s th f with kind := 7, val := v }, { atF p s th f with kind := if (unwF v t.frames t.frames.length s.cells).2.2 = true then 8 else 17, val := v }] := rfl
 rw [← hE] at q2
 have eS : stateV (thrS s th t v) = .agg [cellsV (thrS s th t v).cells, valsV s.shapes, strsV s.texts, threadsV (thrS s th t v).threads, endsV s.ends, valsV s.said, Iv s.asked, Iv s.steps] := rfl
 rw [eS]
 generalize thrE p s th t f v = L at *
 generalize (thrS s th t v).cells = cs at *
 generalize (thrS s th t v).threads = ts at *
 obtain ⟨vk, vn⟩ := v
 dsimp only at *
 clear hE eS hfs hfF hR hth hfr hm hgo hf
 generalize atF p s th f = e0 at *
 refine FCf_of [ct_stFault', ct_Fits', ctN 84 [(7, 300), (16, 301)] [stateV s] (.agg [.os 7 1, valsV s.shapes, strsV s.texts, .os 16 1, endsV s.ends, valsV s.said, Iv s.asked, Iv s.steps]) [ownC 7 1 s.cells, ownT 16 1 s.threads] en1 q1, ctE 86 [.r (.rp (progR p)), stateP s, Iv th] (eventA e0) hA, ctQ 85 [(0, 5, 1), (1, 300, 1), (2, 301, 1)] [.os 0 0, Iv th, VV vk vn, eventA e0] [boxS s 0 0 1 0 2 0, ownC 1 0 s.cells, ownT 2 0 s.threads] (eventsV L) [boxS s 0 0 1 0 2 0, ownC 1 0 cs, ownT 2 0 ts] en2 q2] Tryz.func33 rfl Tryz.ntmps33 (by simp) Tryz.results33 rfl ?_
 refine rnst ?_
 refine goR ?_
 refine fzB 4 ?_
 refine fzB 7 ?_
 (any_goals refine goN lv33 0 ?_)
 (apply Rn_frzX 300 (cs.map cellR); (exact rfl); (exact rowsEB_map cellEB2); (exact rfl); (intro K0; (try simp only [go_sem]); exact ⟨id⟩))
 (apply Rn_frzX 301 (ts.map threadR); (exact rfl); (exact rowsEB_map threadEB2); (exact rfl); (intro K0; (try simp only [go_sem]); exact ⟨id⟩))
 (any_goals refine go lv33 0 ?_)
 all_goals (try simp only [go_sem])
def rowM (n : Nat) : List AV → List AV → Prop
 | [], [] => True
 | a :: l, b :: m => (a = b ∨ ∃ x y, a = .r x ∧ b = .r y ∧ nilB n x y) ∧ rowM n l m
 | _, _ => False
theorem rowM_len {n : Nat} : ∀ {l m : List AV}, rowM n l m → m.length = l.length
 | [], [], _ => rfl
 | a :: l, b :: m, h => by simp [rowM_len h.2]
 | [], _ :: _, h => h.elim
 | _ :: _, [], h => h.elim
theorem rowM_at {n : Nat} : ∀ {l m : List AV} {j : Nat} {b : AV}, rowM n l m → m[j]? = some b → ∃ a, l[j]? = some a ∧ (a = b ∨ ∃ x y, a = .r x ∧ b = .r y ∧ nilB n x y)
 | a :: l, b :: m, 0, b', h, hb => by simp at hb; subst hb; exact ⟨a, rfl, h.1⟩
 | a :: l, b :: m, j + 1, b', h, hb => by
  obtain ⟨a', h1, h2⟩ := rowM_at (j := j) h.2 (by simpa using hb)
  exact ⟨a', by simpa using h1, h2⟩
 | [], [], j, b, _, hb => by simp at hb
 | [], _ :: _, _, _, h, _ => h.elim
 | _ :: _, [], _, _, h, _ => h.elim
theorem AR.nilM {cur : Nat → Nat} {g : Gh} {w : World} {N : Nat → Prop} {n : Nat} {xs ys : List AV} {v : Value} (h : rowM n xs ys) (hv : AR cur g w N (.agg xs) v) : AR cur g w N (.agg ys) v := by
 cases hv with
 | agg _ us hs hu =>
  refine .agg _ us (by rw [hs, rowM_len h]) fun j y u hy hju => ?_
  obtain ⟨a, ha, hab⟩ := rowM_at h hy
  have := hu j a u ha hju
  rcases hab with rfl | ⟨x, z, rfl, rfl, hn⟩
  ·exact this
  ·cases this with | r this => exact .r (RR.nilD (nilB_ok n x z hn) this)
theorem FC_nilM (n : Nat) {C : Ctx} {f : Nat} {args : List AV} {rs0 rs1 : List (Nat × Nat × Res)} {xs ys : List AV} {y : AV} (hf : FC C f args rs0 (.tup [.agg xs, y]) rs1) (h : rowM n xs ys) : FC C f args rs0 (.tup [.agg ys, y]) rs1 := by
 refine ⟨fun e g w vs hok hs hvs => (hf.run e g w vs hok hs hvs).mono ?_⟩
 rintro x w' ⟨v, g', rfl, hs', hv, hk⟩
 refine ⟨v, g', rfl, hs', ?_, hk⟩
 cases hv with
 | tup _ us hs hu =>
  refine .tup _ us hs fun j x u hx hju => ?_
  match j with
  | 0 =>
   simp at hx; subst hx
   exact AR.nilM h (hu 0 _ u rfl hju)
  | 1 => exact hu 1 x u hx hju
  | j + 2 => simp at hx
abbrev frame1N (L : List (Int × Int)) : List NV := [.r (.v (.int .i64 0)), .r (.v (.int .i64 0)), .r (.v (.int .i64 (-1))), .r (.v (.int .i64 (-1))), .r (.v (.int .i64 5)), .r (.v (.int .i64 0)), .r (.rs 2 (L.map valR)), .r (.v (.slice none 0 0))]
abbrev own1T (v : Nat) (L : List (Int × Int)) : Nat × Nat × Res := (30, v, .sl 56 5 [[.nd 61 8 [frame1N L], Iv 0, Iv 0, Iv 0, Iv 0]])
theorem ins1T (v : Nat) (L : List (Int × Int)) (k : Nat) : withinRes (domR [own1T v L]) (lookR k [own1T v L]).2 := by
 have e : lookR k [own1T v L] = if k = 30 then (v, (own1T v L).2.2) else (0, .gone) := rfl
 rw [e]
 split
 ·exact fun row h => by
   rcases List.mem_cons.1 h with rfl | h
   ·rfl
   ·simp at h
 ·trivial
theorem start_own (p : ProgT) (hw : Pwf p) (hp : checkF p = 0) : FC Cx 14 [progV p] [] (.tup [.agg [cellsV [⟨4, 0, [], []⟩], valsV [(-1, -1)], strsV p.texts, .os 30 1, endsV [], valsV [], Iv 0, Iv 0], Iv 0]) [own1T 1 (List.replicate (p.fns.getD 0 fn0).regs.toNat (0, 0))] := by
 refine FC_nilM 2 (xs := [.r (.rs 4 [[.v (.int .i64 4), .v (.int .i64 0), .v (.slice none 0 0), .v (.slice none 0 0)]]), valsV [(-1, -1)], strsV p.texts, .os 30 1, NilS, NilS, Iv 0, Iv 0]) ?_ (by simp [rowM, nilB, nilX, rowsB, rowB])
 have d0 : decide (checkF p = 0) = true := by simpa using hp
 have hn := check_some hp
 have l1 : (p.fns.map fnR).length = p.fns.length := List.length_map ..
 have l2 : (p.texts.map strR).length = p.texts.length := List.length_map ..
 obtain ⟨F, hF⟩ : ∃ F, p.fns[0]? = some F := ⟨p.fns[0]'(by omega), List.getElem?_eq_getElem _⟩
 have gF := getD_map fnR hF ([] : List RV)
 have eF : p.fns.getD 0 fn0 = F := by rw [List.getD_eq_getElem?_getD, hF]; rfl
 obtain ⟨hpok, hfun, _, _⟩ := check_fn hw hp (List.mem_of_getElem? hF)
 have htx := hpok.texts
 have hr1 : 1 ≤ F.regs := by
  unfold functionF at hfun
  split at hfun
  ·cases hfun
  ·omega
 have hr2 := (hpok.fn F (List.mem_of_getElem? hF)).2.1
 rw [eF]
 have hins := ins1T 1 (List.replicate F.regs.toNat (0, 0))
 obtain ⟨L0, hL0⟩ : ∃ L, L = List.replicate F.regs.toNat ((0 : Int), (0 : Int)) := ⟨_, rfl⟩
 have hz : List.replicate F.regs.toNat [Iv 0, Iv 0] = L0.map valC := by rw [hL0]; simp
 rw [← hL0] at hins ⊢
 clear hL0 eF hp
 refine FCm_of [ct_check', ct_cloneStr]  Tryz.func14 rfl Tryz.ntmps14 (by simp) Tryz.results14 rfl (hins) ?_
 refine rnst ?_
 clear hins
 refine goR ?_
 refine fzB 1 ?_
 (any_goals refine go (dropL 5 lv14) 0 ?_)
 (apply Rn_frzS 18 (L0.map valR); (exact rfl); (exact (roValC L0).symm); (exact rfl); (intro K0; (try simp only [go_sem]); exact ⟨id⟩))
 (any_goals refine goN lv14 0 ?_)
 (apply Rn_closeS 30 0 0 28 [frame1N L0]; (exact rfl); (exact rfl); (exact rfl); (exact (by decide)); (exact rfl); (exact rfl); (intro K0; (try simp only [go_sem]); exact ⟨id⟩))
 (apply Rn_frzL 21; (exact rfl); (exact rfl); (exact rfl); (intro K0; (try simp only [go_sem]); exact ⟨id⟩))
 (apply Rn_frzL 23; (exact rfl); (exact rfl); (exact rfl); (intro K0; (try simp only [go_sem]); exact ⟨id⟩))
 (any_goals refine go lv14 0 ?_)
 all_goals (try simp only [go_sem])
 all_goals rfl
mutual
def flatO : AV → Bool
 | .r x => flatR x
 | .os _ _ => true
 | .agg cs => flatOL cs
 | .tup cs => flatOL cs
 | .any => true
 | _ => false
def flatOL : List AV → Bool
 | [] => true
 | x :: l => flatO x && flatOL l
end
theorem flatOL_get : ∀ {l : List AV}, flatOL l = true → ∀ (j : Nat) (x : AV), l[j]? = some x → flatO x = true
 | y :: l, h, 0, x, hx => by
  simp only [flatOL, Bool.and_eq_true] at h
  simp at hx; subst hx; exact h.1
 | y :: l, h, j + 1, x, hx => by
  simp only [flatOL, Bool.and_eq_true] at h
  exact flatOL_get h.2 j x (by simpa using hx)
theorem flatO_nd {x : AV} (h : flatO x = true) : isNd x = false := by cases x <;> first | rfl | (simp [flatO] at h)
theorem AR_flatO {cur cur' : Nat → Nat} {g g' : Gh} {w w' : World} {N N' : Nat → Prop} {x : AV} {v : Value} (h : AR cur g w N x v) {ok : Nat → Bool} (hw : within ok x = true) (hf : flatO x = true) (σ δ : Nat → Nat)
  (hc : ∀ k, ok k = true → cur k + δ k < cur' (σ k) ∨ cur k + δ k = cur' (σ k) ∧ g k = g' (σ k)) : AR cur' g' w' N' (ren σ δ x) v := by
 induction h with
 | r h => cases h <;> first | exact .r (.v _) | (simp [flatO, flatR] at hf; done) | exact .r (.nan _ ‹_›) | exact .r (.ln _ _ _) | exact .r (.un _)
 | os k ver v h1 h =>
  simp only [within] at hw
  refine .os _ _ v h1 ?_
  rcases hc k hw with h2 | ⟨h2, h3⟩ <;> rcases h with h | ⟨h, h4⟩
  ·left; omega
  ·left; omega
  ·left; omega
  ·right; exact ⟨by omega, by rw [← h3]; exact h4⟩
 | rf _ _ _ _ _ _ => simp [flatO] at hf
 | re _ _ _ _ _ _ _ _ => simp [flatO] at hf
 | agg cs xs hs' _ ih =>
  simp only [within] at hw
  refine .agg _ xs (by rw [renL_len]; exact hs') (fun j x y hx hy => ?_)
  rw [renL_get] at hx
  cases hj : cs[j]? with
  | none => simp [hj] at hx
  | some z => simp [hj] at hx; subst hx; exact ih j z y hj hy (withinL_get hw j z hj) (flatOL_get (by simpa [flatO] using hf) j z hj)
 | tup cs xs hs' _ ih =>
  simp only [within] at hw
  refine .tup _ xs (by rw [renL_len]; exact hs') (fun j x y hx hy => ?_)
  rw [renL_get] at hx
  cases hj : cs[j]? with
  | none => simp [hj] at hx
  | some z => simp [hj] at hx; subst hx; exact ih j z y hj hy (withinL_get hw j z hj) (flatOL_get (by simpa [flatO] using hf) j z hj)
 | any v => exact .any v
 | cl _ _ _ _ _ => simp [flatO] at hf
 | nd _ _ _ _ => simp [flatO] at hf
theorem Nest.bare {w w' : World} {N N' : Nat → Prop} {v : Value} {f : List Nat} (h : Nest w N v [] f) : Nest w' N' v [] f := by
 obtain ⟨h1, h2⟩ := h
 cases h1
 exact ⟨.nil, h2⟩
def flatRes (ok : Nat → Bool) : Res → Prop
 | .gone => True
 | .sl _ _ rows => ∀ row ∈ rows, withinL ok row = true ∧ flatOL row = true
 | _ => False
open Classical in
theorem call_len {C : Ctx} {f : Nat} {args : List AV} {rs1 : List (Nat × Nat × Res)} {r : AV} (hfc : FC C f args [] r rs1) {e : Env} {st : St} {g : Gh} {a : Act} {w : World} (hok : e.ok C) (hs : SR C e st g a w) (hG : C.G w) (hgs : C.gs ≤ w.heap.size)
  (σ δ : Nat → Nat) (ks : List Nat) (hks1 : ∀ k, domR rs1 k = true → k ∈ ks) (hinj : ∀ j ∈ ks, ∀ k ∈ ks, σ j = σ k → j = k)
  (h1 : ∀ k ∈ ks, domR rs1 k = true → st.cur (σ k) < (lookR k rs1).1 + δ k) (hin1 : ∀ k, flatRes (domR rs1) (lookR k rs1).2) (hr : within (domR rs1) r = true) (hrf : flatO r = true)
  {vs : Array Value} (hvs : ∀ cur' g', PW cur' g' w (fun _ => False) args vs) :
  Calls C.P f vs w fun x w' => ∃ v g2, x = .returned v ∧ SR C e { st with rs := backR σ δ rs1 st ks st.rs } g2 a w' ∧
   AR ({ st with rs := backR σ δ rs1 st ks st.rs } : St).cur g2 w' (e.N { st with rs := backR σ δ rs1 st ks st.rs } g2) (ren σ δ r) v := by
 let e1 : Env := ⟨w, fun _ => False, fun _ => False, (stR []).cur, gh0⟩
 have hno : ∀ g b, ¬ own (stR []) g b := fun g b ⟨k, hk⟩ => by simp [blk, lookR] at hk
 have hs1 : SR C e1 (stR []) gh0 act0 w := ⟨rfl, rfl, fun d => .any _, fun k => trivial, fun k k' b hk => by simp [blk, lookR] at hk, fun k b hk => by simp [blk, lookR] at hk, ⟨rfl, rfl, rfl, Nat.le_refl _, fun b _ _ => ⟨rfl, hno gh0 b⟩⟩, fun _ => .inr ⟨rfl, rfl⟩⟩
 have hok1 : e1.ok C := ⟨hG, hgs, fun b h => h.elim, fun b h => h.elim⟩
 have hN0 : e1.N (stR []) gh0 = fun _ => False := by
  funext b
  exact propext ⟨fun h => h.elim id (hno gh0 b), fun h => h.elim⟩
 refine (hfc.run e1 gh0 w vs hok1 hs1 (by rw [hN0]; exact hvs _ _)).mono ?_
 rintro x w' ⟨v, g', rfl, hs', hv, hh⟩
 let g2 : Gh := ⟨fun j => if h : ∃ k, k ∈ ks ∧ σ k = j then g' (Classical.choose h) else g j, fun j => if h : ∃ k, k ∈ ks ∧ σ k = j then g'.f (Classical.choose h) else g.f j⟩
 have G1 : ∀ k ∈ ks, g2 (σ k) = g' k := fun k hk => by
  have h : ∃ k', k' ∈ ks ∧ σ k' = σ k := ⟨k, hk, rfl⟩
  show (if h : ∃ k', k' ∈ ks ∧ σ k' = σ k then g' (Classical.choose h) else g (σ k)) = g' k
  rw [dif_pos h]
  obtain ⟨h2, h3⟩ := Classical.choose_spec h
  rw [hinj _ h2 _ hk h3]
 have G2 : ∀ j, (∀ k ∈ ks, σ k ≠ j) → g2 j = g j := fun j hj => by
  show (if h : ∃ k', k' ∈ ks ∧ σ k' = j then g' (Classical.choose h) else g j) = g j
  rw [dif_neg]
  rintro ⟨k, hk, he⟩
  exact hj k hk he
 have F1 : ∀ k ∈ ks, g2.f (σ k) = g'.f k := fun k hk => by
  have h : ∃ k', k' ∈ ks ∧ σ k' = σ k := ⟨k, hk, rfl⟩
  show (if h : ∃ k', k' ∈ ks ∧ σ k' = σ k then g'.f (Classical.choose h) else g.f (σ k)) = g'.f k
  rw [dif_pos h]
  obtain ⟨h2, h3⟩ := Classical.choose_spec h
  rw [hinj _ h2 _ hk h3]
 have F2 : ∀ j, (∀ k ∈ ks, σ k ≠ j) → g2.f j = g.f j := fun j hj => by
  show (if h : ∃ k', k' ∈ ks ∧ σ k' = j then g'.f (Classical.choose h) else g.f j) = g.f j
  rw [dif_neg]
  rintro ⟨k, hk, he⟩
  exact hj k hk he
 generalize hst2 : ({ st with rs := backR σ δ rs1 st ks st.rs } : St) = st2
 have L1 : ∀ k ∈ ks, lookR (σ k) st2.rs = (backV δ σ rs1 st k, renRes σ δ (lookR k rs1).2) := fun k hk => by rw [← hst2]; exact backR_yes hinj k hk
 have L2 : ∀ j, (∀ k ∈ ks, σ k ≠ j) → lookR j st2.rs = lookR j st.rs := fun j hj => by rw [← hst2]; exact backR_no hj
 have B1 : ∀ k ∈ ks, blk st2 g2 (σ k) = blk (stR rs1) g' k := fun k hk => blk_ren (σ := σ) (δ := δ) (by rw [L1 k hk]) (G1 k hk) (F1 k hk)
 have B2 : ∀ j, (∀ k ∈ ks, σ k ≠ j) → blk st2 g2 j = blk st g j := fun j hj => blk_of (by rw [L2 j hj]) (G2 j hj) (F2 j hj)
 have two : ∀ j, (∃ k ∈ ks, σ k = j) ∨ ∀ k ∈ ks, σ k ≠ j := fun j => by
  by_cases h : ∃ k ∈ ks, σ k = j
  ·exact .inl h
  ·exact .inr fun k hk he => h ⟨k, hk, he⟩
 -- what was there is not new
 have new : ∀ b, b < w.heap.size → w'.heap[b]? = w.heap[b]? ∧ ¬ own (stR rs1) g' b := fun b hb => hs'.ext.block b hb fun h => h
 have old : ∀ j, ∀ b, blk st g j b → ¬ own (stR rs1) g' b := fun j b hb => (new b (hs.low j b hb).2.1).2
 have hcur : ∀ j, st.cur j < st2.cur j ∨ st.cur j = st2.cur j ∧ g j = g2 j := fun j => by
  rcases two j with ⟨k, hk, rfl⟩ | hj
  ·have hv2 : st2.cur (σ k) = backV δ σ rs1 st k := by simp only [St.cur]; rw [L1 k hk]
   rw [hv2]
   unfold backV
   by_cases d1 : domR rs1 k = true
   ·rw [if_pos d1]; left; exact h1 k hk d1
   ·rw [if_neg d1]; left; omega
  ·right
   exact ⟨by simp only [St.cur]; rw [L2 j hj], (G2 j hj).symm⟩
 have own2 : ∀ b, own st2 g2 b → own (stR rs1) g' b ∨ ∃ j, (∀ k ∈ ks, σ k ≠ j) ∧ blk st g j b := by
  rintro b ⟨j, hj⟩
  rcases two j with ⟨k, hk, rfl⟩ | hn
  ·rw [B1 k hk] at hj; exact .inl ⟨k, hj⟩
  ·rw [B2 j hn] at hj; exact .inr ⟨j, hn, hj⟩
 have hx : Ext w (own st g) w' (own st2 g2) := by
  refine ⟨hs'.ext.os, hs'.ext.tape, hs'.ext.output, hs'.ext.size, fun b hb hn => ?_⟩
  obtain ⟨q1, q2⟩ := new b hb
  exact ⟨q1, fun h => (own2 b h).elim q2 fun ⟨j, _, hj⟩ => hn ⟨j, hj⟩⟩
 have hback : ∀ x v, within (domR rs1) x = true → flatO x = true → AR (stR rs1).cur g' w' (e1.N (stR rs1) g') x v → AR st2.cur g2 w' (e.N st2 g2) (ren σ δ x) v := fun x v hw hf hv =>
  AR_flatO hv hw hf σ δ (fun k hk => .inr ⟨by simp only [St.cur]; rw [L1 k (hks1 k hk)]; unfold backV; rw [if_pos hk], (G1 k (hks1 k hk)).symm⟩)
 have ht : st2.t = st.t := by rw [← hst2]
 have hn : st2.n = st.n := by rw [← hst2]
 refine ⟨v, g2, rfl, ⟨hs.defers, by rw [hn]; exact hs.size, fun d => by rw [ht]; exact (hs.temps d).lift hx hcur, fun j => ?_, fun j j' b hj hj' => ?_, fun j b hj => ?_, hs.ext.trans hx, hist_step hs.hist hcur⟩, hback _ _ hr hrf hv⟩
 ·rcases two j with ⟨k, hk, rfl⟩ | hj
  ·rw [L1 k hk]
   show ResR _ _ _ _ _ (renRes σ δ (lookR k rs1).2)
   have q := hs'.res k
   have hin := hin1 k
   revert q hin
   show ResR _ _ _ _ _ (lookR k rs1).2 → _ → _
   cases (lookR k rs1).2 with
   | gone => intro _ _; trivial
   | bx cells => intro _ h; exact h.elim
   | mp f n => intro _ h; exact h.elim
   | sl el sz rows =>
    rintro ⟨xs, q1, q2, q3, q5⟩ hin
    have hno : nds rows.flatten xs = [] := nds_none fun x hx => by
     obtain ⟨row, hrow, hxr⟩ := List.mem_flatten.1 hx
     obtain ⟨j, hj⟩ := List.mem_iff_getElem?.1 hxr
     exact flatO_nd (flatOL_get (hin row hrow).2 j x hj)
    refine ⟨xs, by rw [G1 k hk, List.length_map]; exact q1, fun row hrow => ?_, fun i j row x y hi hj hy => ?_, by rw [nds_renR, G1 k hk, F1 k hk, hno]; rw [hno] at q5; exact q5.bare⟩
    ·obtain ⟨row0, hr0, rfl⟩ := List.mem_map.1 hrow
     rw [renL_len]; exact q2 row0 hr0
    ·rw [List.getElem?_map] at hi
     cases hi0 : rows[i]? with
     | none => simp [hi0] at hi
     | some row0 =>
      simp [hi0] at hi
      subst hi
      rw [renL_get] at hj
      cases hc : row0[j]? with
      | none => simp [hc] at hj
      | some z =>
       simp [hc] at hj; subst hj
       have hm := hin row0 (List.mem_of_getElem? hi0)
       exact hback _ _ (withinL_get hm.1 j z hc) (flatOL_get hm.2 j z hc) (q3 i j row0 z y hi0 hc hy)
  ·rw [L2 j hj]
   refine (hs.res j).lift hx hcur (G2 j hj) (F2 j hj) fun hne b hb => ?_
   exact (new b (hs.low j b ⟨hne, hb⟩).2.1).1
 ·rcases two j with ⟨k, hk, rfl⟩ | hn1 <;> rcases two j' with ⟨k', hk', rfl⟩ | hn2
  ·rw [B1 k hk] at hj; rw [B1 k' hk'] at hj'
   rw [hs'.uniq k k' b hj hj']
  ·rw [B1 k hk] at hj; rw [B2 j' hn2] at hj'
   exact absurd ⟨k, hj⟩ (old j' b hj')
  ·rw [B2 j hn1] at hj; rw [B1 k' hk'] at hj'
   exact absurd ⟨k', hj'⟩ (old j b hj)
  ·rw [B2 j hn1] at hj; rw [B2 j' hn2] at hj'
   exact hs.uniq j j' b hj hj'
 ·rcases two j with ⟨k, hk, rfl⟩ | hn1
  ·rw [B1 k hk] at hj
   obtain ⟨q1, q2, _⟩ := hs'.low k b hj
   refine ⟨q1, q2, fun h => ?_⟩
   have h3 := hok.av b h
   have h4 := hs.ext.size
   exact (new b (Nat.lt_of_lt_of_le h3 h4)).2 ⟨k, hj⟩
  ·rw [B2 j hn1] at hj
   obtain ⟨q1, q2, q3⟩ := hs.low j b hj
   exact ⟨q1, Nat.lt_of_lt_of_le q2 hs'.ext.size, q3⟩
structure LOk {C : Ctx} (f : Nat) (m : List (Nat × Nat)) (args0 : List AV) (r0 : AV) (rs1 : List (Nat × Nat × Res)) : Prop where
 fc : FC C f args0 [] r0 rs1
 keys : (rs1.all fun p => m.any fun q => q.1 == p.1) = true
 nd : ndB (m.map (·.2)) = true
 nd1 : ndB (m.map (·.1)) = true
 res : within (domR rs1) r0 = true
 flat : flatO r0 = true
 in1 : ∀ p ∈ rs1, flatRes (domR rs1) p.2.2
 dom : ∀ q ∈ m, domR rs1 q.1 = true ∧ 1 ≤ (lookR q.1 rs1).1
def outL (m : List (Nat × Nat)) (rs1 : List (Nat × Nat × Res)) (st : St) : List (Loc × Cont) :=
 m.map fun q => (.R q.2, .s ((lookR q.1 rs1).1 + st.cur q.2) (renRes (mpS (m.map fun q => (q.1, q.2, st.cur q.2))) (mpD (m.map fun q => (q.1, q.2, st.cur q.2))) (lookR q.1 rs1).2))
def retL (m : List (Nat × Nat)) (r0 : AV) (st : St) : AV := ren (mpS (m.map fun q => (q.1, q.2, st.cur q.2))) (mpD (m.map fun q => (q.1, q.2, st.cur q.2))) r0
def callL (m : List (Nat × Nat)) (args0 : List AV) (r0 : AV) (rs1 : List (Nat × Nat × Res)) (c : Call) (fop : Operand) (caps : List AV) (o : Oper) (st : St) (K : List Loc → List (Loc × Cont) → Prop) : Prop :=
 lendAs st (c.args.toList.map (ev st) ++ caps) fun l ys => ys = args0 ∧ match o.dst with
  | some d => d < st.n ∧ K (rd (fop :: c.args.toList) ++ (l ++ m.map fun q => .R q.2)) (outL m rs1 st ++ [(.T d, .a (retL m r0 st))])
  | none => K (rd (fop :: c.args.toList) ++ (l ++ m.map fun q => .R q.2)) (outL m rs1 st ++ [])
theorem callL_ok {C : Ctx} {f : Nat} {m : List (Nat × Nat)} {args0 : List AV} {r0 : AV} {rs1 : List (Nat × Nat × Res)} (he : Enters C.P f) (q : LOk (C := C) f m args0 r0 rs1) {c : Call} {fop : Operand} {caps : List AV} {o : Oper} {st : St} {K : List Loc → List (Loc × Cont) → Prop} (ho : o.op = .call c) (hc : c.callee = .value fop) (hf : FnIs (ev st fop) f caps) (h : callL m args0 r0 rs1 c fop caps o st K) :
  ∃ l outs, K l outs ∧ LStep C o st.n (l.map fun x => (x, st.get x)) outs := by
 unfold callL at h
 obtain ⟨l, ys, ⟨rfl, h2⟩, hlen, hbor⟩ := lendAs_ok h
 have key : ∃ outs, K (rd (fop :: c.args.toList) ++ (l ++ m.map fun q => .R q.2)) outs ∧ (match o.dst with | some d => d < st.n ∧ outs = outL m rs1 st ++ [(.T d, .a (retL m r0 st))] | none => outs = outL m rs1 st ++ []) := by
  revert h2
  cases o.dst with
  | none => intro h2; exact ⟨_, h2, rfl⟩
  | some d => intro h2; exact ⟨_, h2.2, h2.1, rfl⟩
 obtain ⟨outs, hK, hdst⟩ := key
 refine ⟨_, outs, hK, ?_⟩
 intro e st' a w next Q hn hS ha hnext
 obtain ⟨hG, hgs⟩ := G_of hS
 obtain ⟨heok, g, hs⟩ := hS
 replace ha := Agree_of.1 ha
 obtain ⟨vs, hv, hpw⟩ := args_ok hs ha.left hf rfl
 have hcu : ∀ p ∈ m, st'.cur p.2 = st.cur p.2 := fun p hp => by
  have := ha.right.right.R (k := p.2) (List.mem_map.2 ⟨p, hp, rfl⟩)
  simp only [St.cur]; rw [this]
 have hm : (m.map fun q => (q.1, q.2, st'.cur q.2)) = m.map fun q => (q.1, q.2, st.cur q.2) := List.map_congr_left fun p hp => by rw [hcu p hp]
 have hmp := mpS_map (ndB_ok q.nd1) st.cur
 generalize hM : (m.map fun q => (q.1, q.2, st.cur q.2)) = M at *
 have hvs : ∀ cur' g', PW cur' g' w (fun _ => False) ys (c.args.map a.eval ++ vs) := fun cur' g' => ⟨by rw [hlen]; exact hpw.1, fun j x y hx hy => by
  have hj : j < (c.args.toList.map (ev st) ++ caps).length := by rw [← hlen]; exact (List.getElem?_eq_some_iff.1 hx).1
  have hj' := List.getElem?_eq_getElem hj
  exact Bor_ok (hbor j _ x hj' hx).1 hs ha.right.left (hbor j _ x hj' hx).2 (hpw.2 j _ y hj' hy) _ _⟩
 have hk : ∀ k, domR rs1 k = true → k ∈ m.map (·.1) := fun k hk => by
  obtain ⟨p, hp, he⟩ := List.any_eq_true.1 (List.all_eq_true.1 q.keys _ (domR_in hk))
  exact List.mem_map.2 ⟨p, hp, by simpa using he⟩
 have hinj : ∀ j ∈ m.map (·.1), ∀ k ∈ m.map (·.1), mpS M j = mpS M k → j = k := by
  have := mpS_inj (m := M) (by rw [← hM, List.map_map]; exact ndB_ok q.nd)
  rw [← hM, List.map_map] at this
  rw [← hM]
  exact this
 have hflat : ∀ k, flatRes (domR rs1) (lookR k rs1).2 := fun k => by
  by_cases hd : domR rs1 k = true
  ·exact q.in1 _ (domR_in hd)
  ·rw [domR_no hd]; trivial
 have hrun : (execOp a.eval o).run C.P w = .ok (.enter f (c.args.map a.eval ++ vs)) w := run_callv ho hc hv he
 refine upon_enter hrun ((call_len q.fc heok hs hG hgs (mpS M) (mpD M) (m.map (·.1)) hk hinj (fun k hkm _ => ?_) hflat q.res q.flat hvs).mono ?_)
 ·obtain ⟨p, hp, rfl⟩ := List.mem_map.1 hkm
  have h5 := (q.dom p hp).2
  have h6 := hmp p hp
  rw [h6.1, h6.2, hcu p hp]
  exact Nat.lt_add_of_pos_left h5
 rintro x w' ⟨v, g2, rfl, hs2, hav⟩
 refine ⟨v, rfl, hnext _ _ ⟨heok, g2, ?_⟩⟩
 have e1 : outL m rs1 st = (m.map (·.1)).map fun k => ((.R (mpS M k), .s (backV (mpD M) (mpS M) rs1 st' k) (renRes (mpS M) (mpD M) (lookR k rs1).2)) : Loc × Cont) := by
  unfold outL
  rw [hM, List.map_map]
  refine List.map_congr_left fun p hp => ?_
  simp only [Function.comp]
  rw [(hmp p hp).1]
  unfold backV
  rw [if_pos (q.dom p hp).1, (hmp p hp).2]
 have e2 : retL m r0 st = ren (mpS M) (mpD M) r0 := by unfold retL; rw [hM]
 rw [e1, e2] at hdst
 revert hdst
 cases hd : o.dst with
 | none => intro h; subst h; rw [upd_app, upd_back]; exact hs2
 | some d =>
  rintro ⟨hdn, rfl⟩
  rw [upd_app, upd_back]
  exact hs2.put (by show d < st'.n; rw [hn]; exact hdn) hav
noncomputable def ctL {C : Ctx} (f : Nat) (m : List (Nat × Nat)) (args0 : List AV) (r0 : AV) (rs1 : List (Nat × Nat × Res)) (he : Enters C.P f) (q : LOk (C := C) f m args0 r0 rs1) : Ct C where
 g := f
 run := callL m args0 r0 rs1
 ok := callL_ok he q
@[go_sem] theorem ctL_g {C : Ctx} (f : Nat) (m : List (Nat × Nat)) (args0 : List AV) (r0 : AV) (rs1 : List (Nat × Nat × Res)) (he : Enters C.P f) (q : LOk (C := C) f m args0 r0 rs1) : (ctL f m args0 r0 rs1 he q).g = f := rfl
@[go_sem] theorem ctL_run {C : Ctx} (f : Nat) (m : List (Nat × Nat)) (args0 : List AV) (r0 : AV) (rs1 : List (Nat × Nat × Res)) (he : Enters C.P f) (q : LOk (C := C) f m args0 r0 rs1) (c : Call) (fop : Operand) (cs : List AV) (o : Oper) (st : St) (K : List Loc → List (Loc × Cont) → Prop) : (ctL f m args0 r0 rs1 he q).run c fop cs o st K = callL m args0 r0 rs1 c fop cs o st K := rfl
attribute [go_sem] callL outL retL
theorem FC.thin {C : Ctx} {f : Nat} {args : List AV} {r r' : AV} {rs : List (Nat × Nat × Res)} {k e sz : Nat} {rows rows' : List (List AV)} (hf : FC C f args [] r rs) (hk : lookR k rs = (1, .sl e sz rows)) (hr : ∀ cur g w N v, AR cur g w N r v → AR cur g w N r' v) (hrf : flatO r' = true) (hrw : within (fun j => j == k) r' = true)
  (hl : rows'.length = rows.length) (hc : ∀ (i : Nat) (row row' : List AV), rows[i]? = some row → rows'[i]? = some row' → row'.length = row.length ∧ ∀ (j : Nat) (x : AV), row'[j]? = some x → x = .any ∨ row[j]? = some x) (hff : ∀ row ∈ rows', flatOL row = true ∧ withinL none0 row = true) :
  FC C f args [] r' [(k, 1, .sl e sz rows')] := by
 refine ⟨fun e0 g w vs hok hs hvs => (hf.run e0 g w vs hok hs hvs).mono ?_⟩
 rintro x w' ⟨v, g', rfl, hs', hv, hh⟩
 generalize hrs : [(k, 1, Res.sl e sz rows')] = rs'
 have k1 : lookR k rs' = (1, .sl e sz rows') := by rw [← hrs]; simp [lookR]
 have k2 : ∀ j, j ≠ k → lookR j rs' = (0, .gone) := fun j hj => by rw [← hrs]; simp [lookR, hj]
 have dk : ∀ j, domR rs' j = true → j = k := fun j hj => by
  by_cases h : j = k
  ·exact h
  ·unfold domR at hj; rw [k2 j h] at hj; simp at hj
 have dk' : domR rs k = true := by unfold domR; rw [hk]
 have ck : (stR rs').cur k = (stR rs).cur k := by simp only [St.cur, stR]; rw [k1, hk]
 have bk : ∀ j b, blk (stR rs') ⟨g', fun _ => []⟩ j b → j = k ∧ blk (stR rs) g' k b := fun j b hb => by
  by_cases h : j = k
  ·subst h
   refine ⟨rfl, ?_⟩
   unfold blk at hb ⊢
   simp only [stR] at hb ⊢
   rw [k1] at hb
   rw [hk]
   refine ⟨by simp, ?_⟩
   rcases hb.2 with h | h
   ·exact .inl h
   ·simp at h
  ·unfold blk at hb
   simp only [stR] at hb
   rw [k2 j h] at hb
   exact absurd rfl hb.1
 have hc0 : ∀ j, ((fun j => j == k) j) = true → (stR rs).cur j + 0 < (stR rs').cur (id j) ∨ (stR rs).cur j + 0 = (stR rs').cur (id j) ∧ g' j = (⟨g', fun _ => []⟩ : Gh) (id j) := fun j hj => by
  obtain rfl : j = k := by simpa using hj
  exact .inr ⟨by rw [Nat.add_zero]; exact ck.symm, rfl⟩
 refine ⟨v, ⟨g', fun _ => []⟩, rfl, ⟨rfl, rfl, fun d => .any _, fun j => ?_, fun j j' b hj hj' => ?_, fun j b hj => hs'.low k b (bk j b hj).2, ⟨hs'.ext.os, hs'.ext.tape, hs'.ext.output, hs'.ext.size, fun b hb hn => ⟨(hs'.ext.block b hb hn).1, fun ⟨j, hj⟩ => (hs'.ext.block b hb hn).2 ⟨k, (bk j b hj).2⟩⟩⟩, fun _ => .inr ⟨rfl, rfl⟩⟩, ?_, fun j hj => ?_⟩
 ·by_cases h : j = k
  ·subst h
   have q := hs'.res j
   show ResR _ _ _ _ _ (lookR j rs').2
   rw [k1]
   rw [show (lookR j (stR rs).rs).2 = .sl e sz rows by simp only [stR]; rw [hk]] at q
   obtain ⟨xs, q1, q2, q3, q5⟩ := q
   have hno : nds rows'.flatten xs = [] := nds_none fun x hx => by
    obtain ⟨row, hrow, hxr⟩ := List.mem_flatten.1 hx
    obtain ⟨i, hi⟩ := List.mem_iff_getElem?.1 hxr
    exact flatO_nd (flatOL_get (hff row hrow).1 i x hi)
   have at' : ∀ (i : Nat) (row' : List AV), rows'[i]? = some row' → ∃ row, rows[i]? = some row := fun i row' hi => ⟨rows[i]'(by have := (List.getElem?_eq_some_iff.1 hi).1; omega), List.getElem?_eq_getElem _⟩
   refine ⟨xs, by rw [hl]; exact q1, fun row' hrow' => ?_, fun i j row' x y hi hj hy => ?_, ?_⟩
   ·obtain ⟨i, hi⟩ := List.mem_iff_getElem?.1 hrow'
    obtain ⟨row, h1⟩ := at' i row' hi
    rw [(hc i row row' h1 hi).1]; exact q2 row (List.mem_of_getElem? h1)
   ·obtain ⟨row, h1⟩ := at' i row' hi
    rcases (hc i row row' h1 hi).2 j x hj with rfl | hx
    ·exact .any _
    ·have h3 := hff row' (List.mem_of_getElem? hi)
     have := AR_flatO (w' := w') (N' := (e0.re (stR rs') ⟨g', fun _ => []⟩).N (stR rs') ⟨g', fun _ => []⟩) (q3 i j row x y h1 hx hy) (ok := none0) (withinL_get h3.2 j x hj) (flatOL_get h3.1 j x hj) id (fun _ => 0) (cur' := (stR rs').cur) (g' := ⟨g', fun _ => []⟩) (fun k hk => by simp [none0] at hk)
     rwa [ren_id] at this
   ·rw [hno]
    refine ⟨.nil, ?_⟩
    show ((hblock (g' j)).toList ++ []).Nodup
    cases hblock (g' j) <;> simp
  ·show ResR _ _ _ _ _ (lookR j rs').2
   rw [k2 j h]; trivial
 ·rw [(bk j b hj).1, (bk j' b hj').1]
 ·have := AR_flatO (w' := w') (N' := (e0.re (stR rs') ⟨g', fun _ => []⟩).N (stR rs') ⟨g', fun _ => []⟩) (hr _ _ _ _ _ hv) (ok := fun j => j == k) hrw hrf id (fun _ => 0) (cur' := (stR rs').cur) (g' := ⟨g', fun _ => []⟩) hc0
  rwa [ren_id] at this
 ·obtain rfl := dk j hj
  rw [ck]; exact hh j dk'
theorem AR_ln {cur : Nat → Nat} {g : Gh} {w : World} {N : Nat → Prop} {sz : Nat} {rows : List (List RV)} {v : Value} (h : AR cur g w N (.r (.rs sz rows)) v) : AR cur g w N (.r (.ln rows.length)) v := by
 cases h with
 | r h => cases h with
  | nil => exact .r (.ln _ _ _)
  | rs => exact .r (.ln _ _ _)
theorem insThr (ts : List ThreadT) (k : Nat) : withinRes (domR [ownT 301 1 ts]) (lookR k [ownT 301 1 ts]).2 := by
 have e : lookR k [ownT 301 1 ts] = if k = 301 then (1, .sl 56 5 (ts.map threadA2)) else (0, .gone) := rfl
 rw [e]
 split
 ·exact fun row h => by obtain ⟨x, _, rfl⟩ := List.mem_map.1 h; rfl
 ·trivial
theorem throw_own (p : ProgT) (s : StateT) (th : Nat) (t : ThreadT) (f : FrameT) (v : Int × Int) (hw : Pwf p) (hs : Swf s) (hf : faultS p s = 0) (ht : s.threads[th]? = some t) (hfr : t.frames[t.frames.length - 1]? = some f) (hv : fitsF s v = true) :
  FC Cx 33 [progV p, stateV s, Iv th, VV v.1 v.2] [] (.tup [.agg [cellsV (thrS s th t v).cells, valsV s.shapes, strsV s.texts, .os 301 1, endsV s.ends, valsV s.said, Iv s.asked, Iv s.steps], eventsV (thrE p s th t f v), Iv 0]) [ownT 301 1 (thrS s th t v).threads] := by
 have hR := rightS_iff.1 hf
 obtain ⟨hm, hth⟩ := right_small hw hR
 obtain ⟨h30, hfs⟩ := hth t (List.mem_of_getElem? ht)
 have hk := (List.getElem?_eq_some_iff.1 ht).1
 have hfk := (List.getElem?_eq_some_iff.1 hfr).1
 have l1 : (s.threads.map threadR).length = s.threads.length := List.length_map ..
 have lf : (t.frames.map frameR).length = t.frames.length := List.length_map ..
 have hg := getD_map threadR ht ([] : List RV)
 have d0 : decide (faultS p s = 0) = true := by simpa using hf
 have d2 : decide ((th : Int) < 0) = false := by rw [decide_eq_false_iff_not]; omega
 have d3 : decide ((s.threads.length : Int) ≤ (th : Int)) = false := by rw [decide_eq_false_iff_not]; omega
 have d4 : decide ((t.frames.length : Int) = 0) = false := by rw [decide_eq_false_iff_not]; omega
 have t1 : Int.toNat (th : Int) = th := by omega
 have hgo := check_go hw hR.prog
 have hfF : frameF p s f = true := by
  obtain ⟨low, ho, _⟩ := stackR_at (hR.threads t (List.mem_of_getElem? ht)).2 hfr
  exact on_frame ho
 have hA : ∀ y, y = [.r (.rp (progR p)), stateP s, Iv th] → CallOk Cx 86 y (eventA (atF p s th f)) := fun y hy => by
  subst hy; exact CallOk_of (uAt_c p s th t f hgo ht hfr hfF (by omega)) en86 rfl rfl
 have q1 := copy_Q s hm 300 301 rfl
 have q2 := do_Q s th t v (atF p s th f) ht (by omega) hm.cells hfs 5 300 301 1 1 1 rfl
 have en1 : Enters Cx.P 84 := en84
 have en2 : Enters Cx.P 85 := en85
 have hE : thrE p s th t f v = [{ atF p s th f with kind := 7, val := v }, { atF p s th f with kind := if (unwF v t.frames t.frames.length s.cells).2.2 = true then 8 else 17, val := v }] := rfl
 rw [← hE] at q2
 have hins := insThr (thrS s th t v).threads
 generalize thrE p s th t f v = L at *
 generalize (thrS s th t v).cells = cs at *
 generalize (thrS s th t v).threads = ts at *
 obtain ⟨vk, vn⟩ := v
 dsimp only at *
 clear hE hfs hfF hR hth hfr hm hgo hf
 generalize atF p s th f = e0 at *
 refine FCm_of [ct_stFault', ct_Fits', ctN 84 [(7, 300), (16, 301)] [stateV s] (.agg [.os 7 1, valsV s.shapes, strsV s.texts, .os 16 1, endsV s.ends, valsV s.said, Iv s.asked, Iv s.steps]) [ownC 7 1 s.cells, ownT 16 1 s.threads] en1 q1, ctE 86 [.r (.rp (progR p)), stateP s, Iv th] (eventA e0) hA, ctQ 85 [(0, 5, 1), (1, 300, 1), (2, 301, 1)] [.os 0 0, Iv th, VV vk vn, eventA e0] [boxS s 0 0 1 0 2 0, ownC 1 0 s.cells, ownT 2 0 s.threads] (eventsV L) [boxS s 0 0 1 0 2 0, ownC 1 0 cs, ownT 2 0 ts] en2 q2]  Tryz.func33 rfl Tryz.ntmps33 (by simp) Tryz.results33 rfl (hins) ?_
 refine rnst ?_
 clear hins
 refine goR ?_
 refine fzB 4 ?_
 refine fzB 7 ?_
 (any_goals refine goN lv33 0 ?_)
 (apply Rn_frzX 300 (cs.map cellR); (exact rfl); (exact rowsEB_map cellEB2); (exact rfl); (intro K0; (try simp only [go_sem]); exact ⟨id⟩))
 (any_goals refine go lv33 0 ?_)
 all_goals (try simp only [go_sem])
 all_goals (first | rfl | exact ⟨rfl, rfl⟩)
theorem lnM {α : Type} {cur : Nat → Nat} {g : Gh} {w : World} {N : Nat → Prop} {sz : Nat} {f : α → List RV} {l : List α} {v : Value} (h : AR cur g w N (.r (.rs sz (l.map f))) v) : AR cur g w N (.r (.ln l.length)) v := by
 have := AR_ln h
 rwa [List.length_map] at this
abbrev threadY (t : ThreadT) : List AV := [.any, Iv t.state, Iv t.on, Iv t.val.1, Iv t.val.2]
theorem throw_thin (p : ProgT) (s : StateT) (th : Nat) (t : ThreadT) (f : FrameT) (v : Int × Int) (hw : Pwf p) (hs : Swf s) (hf : faultS p s = 0) (ht : s.threads[th]? = some t) (hfr : t.frames[t.frames.length - 1]? = some f) (hv : fitsF s v = true) :
  FC Cx 33 [progV p, stateV s, Iv th, VV v.1 v.2] [] (.tup [.agg [.r (.ln (thrS s th t v).cells.length), .r (.ln s.shapes.length), .r (.ln s.texts.length), .os 301 1, .r (.ln s.ends.length), .r (.ln s.said.length), Iv s.asked, Iv s.steps], .r (.ln 2), Iv 0]) [(301, 1, .sl 56 5 ((thrS s th t v).threads.map threadY))] := by
 refine (throw_own p s th t f v hw hs hf ht hfr hv).thin (k := 301) (rows := (thrS s th t v).threads.map threadA2) rfl (fun cur g w N v h => ?_) rfl rfl (by simp) (fun i row row' h1 h2 => ?_) (fun row hrow => ?_)
 ·cases h with
  | tup _ us hs hu =>
   refine .tup _ us hs fun j x u hx hju => ?_
   match j with
   | 0 =>
    simp at hx; subst hx
    have h0 := hu 0 _ u rfl hju
    cases h0 with
    | agg _ xs hxs hq =>
     refine .agg _ xs hxs fun i y z hy hz => ?_
     match i with
     | 0 => simp at hy; subst hy; exact lnM (f := cellR) (hq 0 _ z rfl hz)
     | 1 => simp at hy; subst hy; exact lnM (f := valR) (hq 1 _ z rfl hz)
     | 2 => simp at hy; subst hy; exact lnM (f := strR) (hq 2 _ z rfl hz)
     | 3 => simp at hy; subst hy; exact hq 3 _ z rfl hz
     | 4 => simp at hy; subst hy; exact lnM (f := endR) (hq 4 _ z rfl hz)
     | 5 => simp at hy; subst hy; exact lnM (f := valR) (hq 5 _ z rfl hz)
     | 6 => simp at hy; subst hy; exact hq 6 _ z rfl hz
     | 7 => simp at hy; subst hy; exact hq 7 _ z rfl hz
     | i + 8 => simp at hy
   | 1 =>
    simp at hx; subst hx
    exact AR_ln (hu 1 _ u rfl hju)
   | 2 => exact hu 2 x u hx hju
   | j + 3 => simp at hx
 ·rw [List.getElem?_map] at h1 h2
  cases h : (thrS s th t v).threads[i]? with
  | none => rw [h] at h1; cases h1
  | some y =>
   rw [h] at h1 h2
   simp at h1 h2
   subst h1; subst h2
   refine ⟨rfl, fun j x hx => ?_⟩
   match j with
   | 0 => simp at hx; subst hx; exact .inl rfl
   | 1 => exact .inr hx
   | 2 => exact .inr hx
   | 3 => exact .inr hx
   | 4 => exact .inr hx
   | j + 5 => simp at hx
 ·obtain ⟨y, _, rfl⟩ := List.mem_map.1 hrow
  exact ⟨rfl, rfl⟩
abbrev live1 : ProgT := smallP [⟨30, 1, 2, 0, 0⟩, ⟨31, 0, 0, 0, 0⟩, ⟨28, 0, 0, 0, 0⟩]
abbrev fr0 : FrameT := ⟨0, 0, -1, -1, (5, 0), [(0, 0), (0, 0), (0, 0)], []⟩
abbrev fr1 : FrameT := ⟨0, 1, -1, -1, (5, 0), [(0, 0), (0, 0), (0, 0)], [(1, 2)]⟩
abbrev stL (W : List ByteArray) (ts : List ThreadT) : StateT := ⟨[⟨4, 0, [], []⟩], [(-1, -1)], W, ts, [], [], 0, 0⟩
theorem live1_check : checkF live1 = 0 := by kernel_rfl
theorem live1_wf : Pwf live1 := small_wf _ (by decide)
theorem live1_start : startF live1 = stL wordsL [⟨[fr0], 0, 0, (0, 0)⟩] := by unfold startF; rw [if_pos live1_check]; rfl
theorem live1_s0 : faultS live1 (stL wordsL [⟨[fr0], 0, 0, (0, 0)⟩]) = 0 := by rw [← live1_start]; exact start_fault live1_wf live1_check
theorem live1_s1 : faultS live1 (stL wordsL [⟨[fr1], 0, 0, (0, 0)⟩]) = 0 := by
 have h0 := rightS_iff.1 live1_s0
 refine rightS_iff.2 ⟨live1_check, h0.heap, by kernel_rfl, rfl, by decide, by decide, by decide, fun c hc => h0.cells c hc, fun t ht => ?_, (show ([] : List Int).Nodup from List.nodup_nil), fun k c hk k5 => ?_⟩
 ·simp at ht; subst ht
  refine ⟨by kernel_rfl, ⟨by kernel_rfl, fun h => ?_⟩, trivial⟩
  exact absurd h (by decide)
 ·have := List.mem_of_getElem? hk
  simp at this; subst this; cases k5
theorem start_N (p : ProgT) (hw : Pwf p) (hp : checkF p = 0) (L : List (Int × Int)) (hL : List.replicate (p.fns.getD 0 fn0).regs.toNat (0, 0) = L) (a : Nat) : NOk (C := Cx) 14 [(30, a)] [progV p] (.tup [.agg [cellsV [⟨4, 0, [], []⟩], valsV [(-1, -1)], strsV p.texts, .os 30 1, endsV [], valsV [], Iv 0, Iv 0], Iv 0]) [own1T 1 L] := by
 subst hL
 exact ⟨start_own p hw hp, rfl, rfl, rfl, rfl, fun _ _ => rfl, rfl, fun q hq => by
  rcases List.mem_cons.1 hq with rfl | hq
  ·exact ins1T 1 _ 30
  ·simp at hq, fun q hq => by
  rcases List.mem_cons.1 hq with rfl | hq
  ·exact ⟨rfl, Nat.le_refl _⟩
  ·simp at hq⟩
theorem live1_wfS (ts : List ThreadT) (h : ∀ t ∈ ts, t.frames.length ≤ 9223372036854775807 ∧ ∀ f ∈ t.frames, Gwf f) (hl : ts.length ≤ 9) : Swf (stL wordsL ts) := by
 obtain ⟨⟨a1, a2, a3, _, a5, a6⟩, b, c, _⟩ := start_wf live1_wf
 rw [live1_start] at a1 a2 a3 a5 a6 b c
 exact ⟨⟨a1, a2, a3, by show ts.length ≤ _; omega, a5, a6⟩, b, c, h⟩
theorem unwindLives_c : FC Cx 39 [] [] (Bv true) [] := by
 have hg : ∀ n : Int, n = -1 → WI n := fun n h => by subst h; exact WI_of (by decide) (by decide)
 have w0 : Swf (stL wordsL [⟨[fr0], 0, 0, (0, 0)⟩]) := live1_wfS _ (fun t ht => by
  simp at ht; subst ht
  refine ⟨by simp, fun f hf => ?_⟩
  simp at hf; subst hf
  exact ⟨by simp, by simp, hg _ rfl⟩) (by simp)
 have w1 : Swf (stL wordsL [⟨[fr1], 0, 0, (0, 0)⟩]) := live1_wfS _ (fun t ht => by
  simp at ht; subst ht
  refine ⟨by simp, fun f hf => ?_⟩
  simp at hf; subst hf
  exact ⟨by simp, by simp, hg _ rfl⟩) (by simp)
 have hSm : ∀ y, y = [inssV [⟨30, 1, 2, 0, 0⟩, ⟨31, 0, 0, 0, 0⟩, ⟨28, 0, 0, 0, 0⟩]] → CallOk Cx 49 y (progV live1) := fun y hy => by
  subst hy; exact CallOk_of (small_c _) en49 rfl rfl
 have hN := start_N live1 live1_wf live1_check [(0, 0), (0, 0), (0, 0)] rfl 302
 have enS : Enters Cx.P 14 := en14
 have hT0 : LOk (C := Cx) 33 [(301, 304)] [progV live1, .agg [.r (.rs 4 [cellR ⟨4, 0, [], []⟩]), .r (.rs 2 [valR (-1, -1)]), .r (.rs 1 (wordsL.map strR)), .r (.rs 5 [[.rs 8 [[.v (.int .i64 0), .v (.int .i64 0), .v (.int .i64 (-1)), .v (.int .i64 (-1)), .v (.int .i64 5), .v (.int .i64 0), .rs 2 [valR (0, 0), valR (0, 0), valR (0, 0)], .rs 2 []]], .v (.int .i64 0), .v (.int .i64 0), .v (.int .i64 0), .v (.int .i64 0)]]), .r (.rs 3 []), .r (.rs 2 []), Iv 0, Iv 0], Iv 0, VV 2 5] (.tup [.agg [.r (.ln 1), .r (.ln 1), .r (.ln wordsL.length), .os 301 1, .r (.ln 0), .r (.ln 0), Iv 0, Iv 0], .r (.ln 2), Iv 0]) [(301, 1, .sl 56 5 [[.any, Iv 4, Iv 0, Iv 2, Iv 5]])] :=
  ⟨throw_thin live1 _ 0 ⟨[fr0], 0, 0, (0, 0)⟩ fr0 (2, 5) live1_wf w0 live1_s0 rfl rfl rfl, rfl, rfl, rfl, rfl, rfl, fun p hp => by
   rcases List.mem_cons.1 hp with rfl | hp
   ·exact fun row hrow => by
     rcases List.mem_cons.1 hrow with rfl | hrow
     ·exact ⟨rfl, rfl⟩
     ·simp at hrow
   ·simp at hp, fun q hq => by
   rcases List.mem_cons.1 hq with rfl | hq
   ·exact ⟨rfl, Nat.le_refl _⟩
   ·simp at hq⟩
 have enT : Enters Cx.P 33 := en33
 have hT1 : ∀ y, y = [progV live1, .agg [.r (.rs 4 [cellR ⟨4, 0, [], []⟩]), .r (.rs 2 [valR (-1, -1)]), .r (.rs 1 (wordsL.map strR)), .r (.rs 5 [[.rs 8 [[.v (.int .i64 0), .v (.int .i64 1), .v (.int .i64 (-1)), .v (.int .i64 (-1)), .v (.int .i64 5), .v (.int .i64 0), .rs 2 [valR (0, 0), valR (0, 0), valR (0, 0)], .rs 2 [[.v (.int .i64 1), .v (.int .i64 2)]]]], .v (.int .i64 0), .v (.int .i64 0), .v (.int .i64 0), .v (.int .i64 0)]]), .r (.rs 3 []), .r (.rs 2 []), Iv 0, Iv 0], Iv 0, VV 2 5] → CallOk Cx 33 y (.tup [.agg [.r (.rs 4 [cellR ⟨4, 0, [], []⟩]), .r (.rs 2 [valR (-1, -1)]), .r (.rs 1 (wordsL.map strR)), .r (.rs 5 [[.rs 8 [[.v (.int .i64 0), .v (.int .i64 2), .v (.int .i64 (-1)), .v (.int .i64 (-1)), .v (.int .i64 5), .v (.int .i64 0), .rs 2 [[.v (.int .i64 0), .v (.int .i64 0)], [.v (.int .i64 2), .v (.int .i64 5)], [.v (.int .i64 0), .v (.int .i64 0)]], .rs 2 []]], .v (.int .i64 0), .v (.int .i64 0), .v (.int .i64 0), .v (.int .i64 0)]]), .r (.rs 3 []), .r (.rs 2 []), Iv 0, Iv 0], .r (.rs 12 [[.v (.int .i64 7), .v (.int .i64 0), .v (.int .i64 0), .v (.int .i64 0), .v (.int .i64 1), .v (.int .i64 0), .v (.int .i64 0), .v (.int .i64 0), .v (.int .i64 2), .v (.int .i64 5), .v (.int .i64 0), .v (.int .i64 0)], [.v (.int .i64 8), .v (.int .i64 0), .v (.int .i64 0), .v (.int .i64 0), .v (.int .i64 1), .v (.int .i64 0), .v (.int .i64 0), .v (.int .i64 0), .v (.int .i64 2), .v (.int .i64 5), .v (.int .i64 0), .v (.int .i64 0)]]), Iv 0]) := fun y hy => by
  subst hy; exact CallOk_of (throw_yes live1 _ 0 ⟨[fr1], 0, 0, (0, 0)⟩ fr1 (2, 5) live1_wf w1 live1_s1 rfl rfl rfl) en33 rfl rfl
 have eT : live1.texts = wordsL := rfl
 rw [eT] at hN
 clear w0 w1 hg eT
 generalize live1 = P at *
 generalize wordsL = W at *
 refine FCp_st [ctE 49 [inssV [⟨30, 1, 2, 0, 0⟩, ⟨31, 0, 0, 0, 0⟩, ⟨28, 0, 0, 0, 0⟩]] (progV P) hSm, ctN 14 [(30, 302)] [progV P] (.tup [.agg [cellsV [⟨4, 0, [], []⟩], valsV [(-1, -1)], strsV W, .os 30 1, endsV [], valsV [], Iv 0, Iv 0], Iv 0]) [own1T 1 [(0, 0), (0, 0), (0, 0)]] enS hN, ct_num, ctL 33 [(301, 304)] [progV P, .agg [.r (.rs 4 [cellR ⟨4, 0, [], []⟩]), .r (.rs 2 [valR (-1, -1)]), .r (.rs 1 (W.map strR)), .r (.rs 5 [[.rs 8 [[.v (.int .i64 0), .v (.int .i64 0), .v (.int .i64 (-1)), .v (.int .i64 (-1)), .v (.int .i64 5), .v (.int .i64 0), .rs 2 [valR (0, 0), valR (0, 0), valR (0, 0)], .rs 2 []]], .v (.int .i64 0), .v (.int .i64 0), .v (.int .i64 0), .v (.int .i64 0)]]), .r (.rs 3 []), .r (.rs 2 []), Iv 0, Iv 0], Iv 0, VV 2 5] (.tup [.agg [.r (.ln 1), .r (.ln 1), .r (.ln W.length), .os 301 1, .r (.ln 0), .r (.ln 0), Iv 0, Iv 0], .r (.ln 2), Iv 0]) [(301, 1, .sl 56 5 [[.any, Iv 4, Iv 0, Iv 2, Iv 5]])] enT hT0] Tryz.func39 Tryz.ntmps39 Tryz.results39 ?_
 (any_goals refine goF ((1000000, [13]) :: dropL 3 lv39) 0 ?_)
 (apply Rn_openS 302 0 0 303; (exact rfl); (exact rfl); (exact rfl); (exact rfl); (exact rfl); (intro K0; (try simp only [go_sem]); exact ⟨id⟩))
 (apply Rn_tellL 303 [[Iv 0, Iv 0, Iv (-1), Iv (-1), Iv 5, Iv 0, .r (.rs 2 [valR (0, 0), valR (0, 0), valR (0, 0)]), .r (.rs 2 [])]]; (exact rfl); (exact rfl); (exact (by simp [noNd, isNd])); (exact (by simp [rowsA, rowA, nilT])); (exact rfl); (intro K0; (try simp only [go_sem]); exact ⟨id⟩))
 (any_goals refine go (dropL 7 lv39) 0 ?_)
 (apply Rn_closeS 303 0 7 66 [[.r (.v (.int .i64 1)), .r (.v (.int .i64 2))]]; (exact rfl); (exact rfl); (exact rfl); (exact (by decide)); (exact rfl); (exact rfl); (intro K0; (try simp only [go_sem]); exact ⟨id⟩))
 (apply Rn_closeS 302 0 0 303 [[.r (.v (.int .i64 0)), .r (.v (.int .i64 1)), .r (.v (.int .i64 (-1))), .r (.v (.int .i64 (-1))), .r (.v (.int .i64 5)), .r (.v (.int .i64 0)), .r (.rs 2 [valR (0, 0), valR (0, 0), valR (0, 0)]), .nd 81 2 [[.r (.v (.int .i64 1)), .r (.v (.int .i64 2))]]]]; (exact rfl); (exact rfl); (exact rfl); (exact (by decide)); (exact rfl); (exact rfl); (intro K0; (try simp only [go_sem]); exact ⟨id⟩))
 (apply Rn_frzX 302 [[.rs 8 [[.v (.int .i64 0), .v (.int .i64 1), .v (.int .i64 (-1)), .v (.int .i64 (-1)), .v (.int .i64 5), .v (.int .i64 0), .rs 2 [valR (0, 0), valR (0, 0), valR (0, 0)], .rs 2 [[.v (.int .i64 1), .v (.int .i64 2)]]]], .v (.int .i64 0), .v (.int .i64 0), .v (.int .i64 0), .v (.int .i64 0)]]; (exact rfl); (exact ⟨⟨rfl, rfl, rfl, rfl, rfl, trivial⟩, trivial⟩); (exact rfl); (intro K0; (try simp only [go_sem]); exact ⟨id⟩))
 refine Rn_T [ct_num, ctE 33 [progV P, .agg [.r (.rs 4 [cellR ⟨4, 0, [], []⟩]), .r (.rs 2 [valR (-1, -1)]), .r (.rs 1 (W.map strR)), .r (.rs 5 [[.rs 8 [[.v (.int .i64 0), .v (.int .i64 1), .v (.int .i64 (-1)), .v (.int .i64 (-1)), .v (.int .i64 5), .v (.int .i64 0), .rs 2 [valR (0, 0), valR (0, 0), valR (0, 0)], .rs 2 [[.v (.int .i64 1), .v (.int .i64 2)]]]], .v (.int .i64 0), .v (.int .i64 0), .v (.int .i64 0), .v (.int .i64 0)]]), .r (.rs 3 []), .r (.rs 2 []), Iv 0, Iv 0], Iv 0, VV 2 5] (.tup [.agg [.r (.rs 4 [cellR ⟨4, 0, [], []⟩]), .r (.rs 2 [valR (-1, -1)]), .r (.rs 1 (W.map strR)), .r (.rs 5 [[.rs 8 [[.v (.int .i64 0), .v (.int .i64 2), .v (.int .i64 (-1)), .v (.int .i64 (-1)), .v (.int .i64 5), .v (.int .i64 0), .rs 2 [[.v (.int .i64 0), .v (.int .i64 0)], [.v (.int .i64 2), .v (.int .i64 5)], [.v (.int .i64 0), .v (.int .i64 0)]], .rs 2 []]], .v (.int .i64 0), .v (.int .i64 0), .v (.int .i64 0), .v (.int .i64 0)]]), .r (.rs 3 []), .r (.rs 2 []), Iv 0, Iv 0], .r (.rs 12 [[.v (.int .i64 7), .v (.int .i64 0), .v (.int .i64 0), .v (.int .i64 0), .v (.int .i64 1), .v (.int .i64 0), .v (.int .i64 0), .v (.int .i64 0), .v (.int .i64 2), .v (.int .i64 5), .v (.int .i64 0), .v (.int .i64 0)], [.v (.int .i64 8), .v (.int .i64 0), .v (.int .i64 0), .v (.int .i64 0), .v (.int .i64 1), .v (.int .i64 0), .v (.int .i64 0), .v (.int .i64 0), .v (.int .i64 2), .v (.int .i64 5), .v (.int .i64 0), .v (.int .i64 0)]]), Iv 0]) hT1] ?_
 (any_goals refine go lv39 0 ?_)
 all_goals (try simp only [go_sem])
 trace_state
theorem uDeep_no (p : ProgT) (s : StateT) (th : Int) (v : Int × Int) (hw : Pwf p) (hs : Swf s) (h : throwE p s th v ≠ 0) : FC Cx 8 [progV p, stateV s, Iv th, VV v.1 v.2] [] (Bv true) [] := by
 have hT : ∀ y, y = [progV p, stateV s, Iv th, VV v.1 v.2] → CallOk Cx 33 y (.tup [stateV emptyS, eventsV [], Iv (throwE p s th v)]) := fun y hy => by
  subst hy; exact CallOk_of (throw_no p s th v hw hs h) en33 rfl rfl
 have hU : ∀ y, y = [] → CallOk Cx 39 y (Bv true) := fun y hy => by
  subst hy; exact CallOk_of unwindLives_c en39 rfl rfl
 obtain ⟨vk, vn⟩ := v
 dsimp only at *
 have d0 : decide (throwE p s th (vk, vn) = 0) = false := by simpa using h
 generalize emptyS = Z at *
 generalize throwE p s th (vk, vn) = E at *
 clear h
 refine FCp_st [ctE 33 [progV p, stateV s, Iv th, VV vk vn] (.tup [stateV Z, eventsV [], Iv E]) hT, ctE 39 [] (Bv true) hU] Tryz.func8 Tryz.ntmps8 Tryz.results8 ?_
 refine goR ?_
 refine fzB 4 ?_
 refine fzB 5 ?_
 refine fzB 7 ?_
 (any_goals refine go lv8 0 ?_)
 all_goals (try simp only [go_sem])
theorem uDeep_yes (p : ProgT) (s : StateT) (th : Nat) (t : ThreadT) (f : FrameT) (v : Int × Int) (hw : Pwf p) (hs : Swf s) (hf : faultS p s = 0) (ht : s.threads[th]? = some t) (hfr : t.frames[t.frames.length - 1]? = some f) (hv : fitsF s v = true) :
  FC Cx 8 [progV p, stateV s, Iv th, VV v.1 v.2] [] (Bv true) [] := by
 have hT : ∀ y, y = [progV p, stateV s, Iv th, VV v.1 v.2] → CallOk Cx 33 y (.tup [stateV (thrS s th t v), eventsV (thrE p s th t f v), Iv 0]) := fun y hy => by
  subst hy; exact CallOk_of (throw_yes p s th t f v hw hs hf ht hfr hv) en33 rfl rfl
 have hU : ∀ y, y = [] → CallOk Cx 39 y (Bv true) := fun y hy => by
  subst hy; exact CallOk_of unwindLives_c en39 rfl rfl
 have hR := rightS_iff.1 hf
 obtain ⟨hm, hth⟩ := right_small hw hR
 obtain ⟨h30, hfs⟩ := hth t (List.mem_of_getElem? ht)
 have hk := (List.getElem?_eq_some_iff.1 ht).1
 have hfk := (List.getElem?_eq_some_iff.1 hfr).1
 have l1 : (s.threads.map threadR).length = s.threads.length := List.length_map ..
 have lf : (t.frames.map frameR).length = t.frames.length := List.length_map ..
 have hg := getD_map threadR ht ([] : List RV)
 have t1 : Int.toNat (th : Int) = th := by omega
 have eX : stateV (thrS s th t v) = .agg [cellsV (thrS s th t v).cells, valsV s.shapes, strsV s.texts, threadsV (s.threads.set th (thrT v t (unwF v t.frames t.frames.length s.cells))), endsV s.ends, valsV s.said, Iv s.asked, Iv s.steps] := rfl
 have eL : thrE p s th t f v = [{ atF p s th f with kind := 7, val := v }, { atF p s th f with kind := if (unwF v t.frames t.frames.length s.cells).2.2 = true then 8 else 17, val := v }] := rfl
 rw [eX, eL] at hT
 obtain ⟨U, hU0⟩ : ∃ U, U = unwF v t.frames t.frames.length s.cells := ⟨_, rfl⟩
 rw [← hU0] at hT
 have hn : (s.threads.set th (thrT v t U))[th]? = some (thrT v t U) := List.getElem?_set_self hk
 have hgn := getD_map threadR hn ([] : List RV)
 have l2 : ((s.threads.set th (thrT v t U)).map threadR).length = s.threads.length := by rw [List.length_map, List.length_set]
 generalize s.threads.set th (thrT v t U) = ts at *
 generalize (thrS s th t v).cells = C0 at *
 have w1 : IntKind.i64.wrap ((t.frames.length : Int) - 1) = (t.frames.length : Int) - 1 := by rw [wrap_id] <;> omega
 generalize he1 : ({ atF p s th f with kind := 7, val := v } : EventT) = e1 at *
 obtain ⟨e2, he2, hk2⟩ : ∃ e2 : EventT, ({ atF p s th f with kind := if U.2.2 = true then 8 else 17, val := v } : EventT) = e2 ∧ e2.kind = if U.2.2 = true then 8 else 17 := ⟨_, rfl, rfl⟩
 rw [he2] at hT
 obtain ⟨vk, vn⟩ := v
 dsimp only at *
 clear hR hth hfr hf he1 he2 eX eL hv hs hw hm
 refine FCp_st [ctE 33 [progV p, stateV s, Iv th, VV vk vn] (.tup [.agg [cellsV C0, valsV s.shapes, strsV s.texts, threadsV ts, endsV s.ends, valsV s.said, Iv s.asked, Iv s.steps], eventsV [e1, e2], Iv 0]) hT, ctE 39 [] (Bv true) hU] Tryz.func8 Tryz.ntmps8 Tryz.results8 ?_
 refine goR ?_
 refine fzB 4 ?_
 refine fzB 5 ?_
 refine fzB 7 ?_
 (any_goals refine go lv8 0 ?_)
 refine Rn_loopS (fun m : Nat => m ≤ t.frames.length ∧ ∃ cs, U = unwF (vk, vn) t.frames m cs) (fun m => ⟨163, [(2, Iv th), (7, .r (.rp [.v (.int .i64 vk), .v (.int .i64 vn)])), (9, .os 9 1), (10, eventsV [e1, e2]), (12, framesV t.frames), (13, Iv ((m : Int) - 1))], [(4, 2, .gone), (5, 2, .gone), (7, 2, .gone), (9, 1, .bx [cellsV C0, valsV s.shapes, strsV s.texts, threadsV ts, endsV s.ends, valsV s.said, Iv s.asked, Iv s.steps])]⟩) (fun m => m) t.frames.length ⟨Nat.le_refl _, s.cells, hU0⟩ ?_
 rintro m ⟨hm, cs, hu⟩
 clear w1 hU0
 cases m with
 | zero =>
  have hu0 : U = (cs, [], false) := hu
  subst hu0
  have hk3 : e2.kind = 17 := hk2
  replace hgn : (ts.map threadR).getD th [] = [.rs 8 [], .v (.int .i64 4), .v (.int .i64 0), .v (.int .i64 vk), .v (.int .i64 vn)] := hgn
  rw [show ((0 : Nat) : Int) - 1 = -1 from rfl]
  clear hu hn hk2
  obtain ⟨a1, a2, a3, a4, a5, a6, a7, a8, ⟨a9, a10⟩, ⟨a11, a12⟩⟩ := e2
  dsimp only at hk3
  subst hk3
  (any_goals refine go lv8 0 ?_)
  all_goals (try simp only [go_sem])
 | succ k =>
  rw [show ((k + 1 : Nat) : Int) - 1 = (k : Int) by omega]
  obtain ⟨f', hf'⟩ : ∃ f', t.frames[k]? = some f' := ⟨t.frames[k]'(by omega), List.getElem?_eq_getElem _⟩
  obtain ⟨⟨hf1, hf2⟩, hf3⟩ := hfs f' (List.mem_of_getElem? hf')
  have gf := getD_map frameR hf' ([] : List RV)
  have t2 : Int.toNat (k : Int) = k := by omega
  have d1 : decide ((0 : Int) ≤ (k : Int)) = true := by rw [decide_eq_true_eq]; omega
  have w1 : IntKind.i64.wrap ((k : Int) - 1) = (k : Int) - 1 := by rw [wrap_id] <;> omega
  have lt : (f'.tries.map tryR).length = f'.tries.length := List.length_map ..
  by_cases ht0 : f'.tries.length = 0
  ·have hu2 : unwF (vk, vn) t.frames (k + 1) cs = unwF (vk, vn) t.frames k (killC f' cs) := by
    rw [unwF, hf']
    dsimp only
    rw [List.getElem?_eq_none (by omega)]
   have d2 : decide ((f'.tries.length : Int) = 0) = true := by rw [decide_eq_true_eq]; omega
   rw [hu2] at hu
   clear hf1 hf2 hf3 hn hgn hk2 hu2
   (any_goals refine go lv8 0 ?_)
   exact ⟨k, ⟨by omega, _, hu⟩, by omega, Le_subA⟩
  ·obtain ⟨y, hy⟩ : ∃ y, f'.tries[f'.tries.length - 1]? = some y := ⟨f'.tries[f'.tries.length - 1]'(by omega), List.getElem?_eq_getElem _⟩
   obtain ⟨y0, y1⟩ := hf2 y (List.mem_of_getElem? hy)
   have gy := getD_map tryR hy ([] : List RV)
   have hu2 : unwF (vk, vn) t.frames (k + 1) cs = (cs, t.frames.take k ++ [{ f' with tries := f'.tries.take (f'.tries.length - 1), pc := y.2, regs := f'.regs.set y.1.toNat (vk, vn) }], true) := by
    rw [unwF, hf']
    dsimp only
    rw [hy]
   rw [hu2] at hu
   subst hu
   have hk3 : e2.kind = 8 := hk2
   obtain ⟨F, hF⟩ : ∃ F, F = t.frames.take k ++ [{ f' with tries := f'.tries.take (f'.tries.length - 1), pc := y.2, regs := f'.regs.set y.1.toNat (vk, vn) }] := ⟨_, rfl⟩
   replace hgn : (ts.map threadR).getD th [] = threadR ⟨F, 0, 0, t.val⟩ := by rw [hgn, hF]; rfl
   have lF : (F.map frameR).length = k + 1 := by rw [List.length_map, hF, List.length_append, List.length_take]; simp; omega
   have hFk : F[k]? = some { f' with tries := f'.tries.take (f'.tries.length - 1), pc := y.2, regs := f'.regs.set y.1.toNat (vk, vn) } := by
    rw [hF, List.getElem?_append_right (by rw [List.length_take]; omega), List.length_take, show k - min k t.frames.length = 0 by omega]
    rfl
   have gF := getD_map frameR hFk ([] : List RV)
   have hz : (f'.regs.set y.1.toNat (vk, vn))[y.1.toNat]? = some (vk, vn) := List.getElem?_set_self (by omega)
   have gz := getD_map valR hz ([] : List RV)
   have lr : ((f'.regs.set y.1.toNat (vk, vn)).map valR).length = f'.regs.length := by rw [List.length_map, List.length_set]
   have l3 : ((f'.tries.take (f'.tries.length - 1)).map tryR).length = f'.tries.length - 1 := by rw [List.length_map, List.length_take]; omega
   have c3 : ((f'.tries.length - 1 : Nat) : Int) = (f'.tries.length : Int) - 1 := by omega
   have t3 : Int.toNat ((f'.tries.length : Int) - 1) = f'.tries.length - 1 := by omega
   have w2 : IntKind.i64.wrap ((f'.tries.length : Int) - 1) = (f'.tries.length : Int) - 1 := by rw [wrap_id] <;> omega
   have w3 : IntKind.i64.wrap ((k : Int) + 1) = (k : Int) + 1 := by rw [wrap_id] <;> omega
   have c4 : ((k + 1 : Nat) : Int) = (k : Int) + 1 := by omega
   have d2 : decide ((f'.tries.length : Int) = 0) = false := by rw [decide_eq_false_iff_not]; omega
   have d3 : decide ((k : Int) < 0) = false := by rw [decide_eq_false_iff_not]; omega
   generalize (f'.regs.set y.1.toNat (vk, vn)) = RR at *
   generalize f'.tries.take (f'.tries.length - 1) = TT at *
   clear hf1 hf2 hf3 hn hk2 hu2 hF hFk hz hy
   obtain ⟨a1, a2, a3, a4, a5, a6, a7, a8, ⟨a9, a10⟩, ⟨a11, a12⟩⟩ := e2
   dsimp only at hk3
   subst hk3
   obtain ⟨fn, pc, tov, gen, ⟨sk, sn⟩, regs, tries⟩ := f'
   obtain ⟨yr, ya⟩ := y
   dsimp only at *
   (any_goals refine go lv8 0 ?_)
   all_goals (try simp only [go_sem])
theorem unwindDeep_c (p : ProgT) (s : StateT) (th : Int) (v : Int × Int) (hw : Pwf p) (hs : Swf s) : FC Cx 8 [progV p, stateV s, Iv th, VV v.1 v.2] [] (Bv true) [] := by
 by_cases h : throwE p s th v = 0
 case neg => exact uDeep_no p s th v hw hs h
 have hE : throwE p s th v = if faultS p s ≠ 0 then faultS p s else if th < 0 ∨ (s.threads.length : Int) ≤ th then 5 else if (s.threads.getD th.toNat thread0).frames.length = 0 then 8 else if fitsF s v = false then 1 else 0 := rfl
 rw [h] at hE
 by_cases hf : faultS p s = 0
 case neg => rw [if_pos hf] at hE; exact absurd hE.symm hf
 rw [if_neg (by simpa using hf)] at hE
 by_cases h0 : th < 0 ∨ (s.threads.length : Int) ≤ th
 ·rw [if_pos h0] at hE; cases hE
 rw [if_neg h0] at hE
 obtain ⟨t, ht⟩ : ∃ t, s.threads[th.toNat]? = some t := ⟨s.threads[th.toNat]'(by omega), List.getElem?_eq_getElem _⟩
 have et : s.threads.getD th.toNat thread0 = t := by rw [List.getD_eq_getElem?_getD, ht]; rfl
 rw [et] at hE
 by_cases h2 : t.frames.length = 0
 ·rw [if_pos h2] at hE; cases hE
 rw [if_neg h2] at hE
 by_cases h3 : fitsF s v = false
 ·rw [if_pos h3] at hE; cases hE
 obtain ⟨f, hfr⟩ : ∃ f, t.frames[t.frames.length - 1]? = some f := ⟨t.frames[t.frames.length - 1]'(by omega), List.getElem?_eq_getElem _⟩
 have := uDeep_yes p s th.toNat t f v hw hs hf ht hfr (by simpa using h3)
 rwa [show ((th.toNat : Nat) : Int) = th by omega] at this
end Go.Proofs.YtbhnmolmkembdaaGreatDoor
