/- Whether a program may be run. No condition: the contract of the program's function. -/
import Derived.Test.YtjbhpoolghfhiaaDoorCd14
namespace Go.Proofs.YtjbhpoolghfhiaaDoor
set_option linter.unusedVariables false
set_option linter.unusedSimpArgs false
set_option maxHeartbeats 10000000
open Go
set_option maxRecDepth 10000



/-- What the arguments' form gives. -/
structure Pwf (p : ProgT) : Prop where
  sz : Psz p
  fn : ∀ f ∈ p.fns, f.code.length ≤ 9223372036854775807 ∧ f.caught.length ≤ 9223372036854775807

theorem large_ok {p : ProgT} (hw : Pwf p) (h : largeF p = false) : Pok p := by
  simp only [largeF, Bool.or_eq_false_iff, decide_eq_false_iff_not] at h
  obtain ⟨⟨⟨⟨h1, h2⟩, h3⟩, h4⟩, h5⟩ := h
  refine ⟨by omega, by omega, by omega, fun s hs => ?_, fun f hf => ?_⟩
  · have := List.any_eq_false.1 h4 s hs
    simp [bigS] at this; omega
  · have := List.any_eq_false.1 h5 f hf
    simp [bigF] at this
    exact ⟨by omega, by omega, (hw.fn f hf).2⟩

def firstF (p : ProgT) : Bool := match p.fns with
  | [] => false
  | f :: _ => decide (f.params = 0) && !decide ((0 : Int) < (f.caught.length : Int)) && !f.gen
def checkF (p : ProgT) : Int :=
  if largeF p = true then 2 else if tablesF p = false then 3 else if firstF p = false then 3 else if (p.fns.any fun f => !functionF p f) = true then 3 else 0

theorem check1_c (p : ProgT) (f : FnT) (hp : Pok p) (hf : f ∈ p.fns) : FC Cx 50 [fnA f, .r (.rp (progR p))] [] (Bv (!functionF p f)) [] := by
  refine FCp_of [ct_function'] Tryd.func50 rfl Tryd.ntmps50 (by simp) Tryd.results50 rfl ?_
  apply Rn_st; (intro K0; simp only [go_sem]; exact ⟨id⟩)
  refine goR (L := []) (n := 0) ?_
  (apply Rn_frzB 2; (exact rfl); (exact rfl); (exact rfl); (intro K0; (try simp only [go_sem]); exact ⟨id⟩))
  (any_goals refine go lv50 0 ?_)
  repeat' (first | (refine Br.go (fun h h' => ?_) (fun h h' => ?_)) | (refine Br.mk (fun h => ?_) (fun h => ?_)))
  all_goals (try simp only [go_sem])

theorem check_c (p : ProgT) (hw : Pwf p) : FC Cx 24 [progV p] [] (Iv (checkF p)) [] := by
  have hsz := hw.sz
  have l1 : (p.fns.map fnR).length = p.fns.length := List.length_map ..
  unfold checkF
  cases hL : largeF p with
  | true =>
    rw [if_pos rfl]
    refine FCp_of [ct_large'] Tryd.func24 rfl Tryd.ntmps24 (by simp) Tryd.results24 rfl ?_
    apply Rn_st; (intro K0; simp only [go_sem]; exact ⟨id⟩)
    refine goR (L := []) (n := 0) ?_
    (apply Rn_frzB 1; (exact rfl); (exact rfl); (exact rfl); (intro K0; (try simp only [go_sem]); exact ⟨id⟩))
    (any_goals refine go lv24 0 ?_)
    repeat' (first | (refine Br.go (fun h h' => ?_) (fun h h' => ?_)) | (refine Br.mk (fun h => ?_) (fun h => ?_)))
    all_goals (try simp only [go_sem])
  | false =>
    rw [if_neg (by simp)]
    have hp := large_ok hw hL
    cases hT : tablesF p with
    | false =>
      rw [if_pos rfl]
      refine FCp_of [ct_large', ct_tables'] Tryd.func24 rfl Tryd.ntmps24 (by simp) Tryd.results24 rfl ?_
      apply Rn_st; (intro K0; simp only [go_sem]; exact ⟨id⟩)
      refine goR (L := []) (n := 0) ?_
      (apply Rn_frzB 1; (exact rfl); (exact rfl); (exact rfl); (intro K0; (try simp only [go_sem]); exact ⟨id⟩))
      (any_goals refine go lv24 0 ?_)
      repeat' (first | (refine Br.go (fun h h' => ?_) (fun h h' => ?_)) | (refine Br.mk (fun h => ?_) (fun h => ?_)))
      all_goals (try simp only [go_sem])
    | true =>
      rw [if_neg (by simp)]
      cases hfs : p.fns with
      | nil =>
        have hF : firstF p = false := by unfold firstF; rw [hfs]
        rw [if_pos hF]
        have hl : p.fns.length = 0 := by rw [hfs]; rfl
        have d0 : decide ((p.fns.length : Int) = 0) = true := by rw [hl]; rfl
        clear hfs
        refine FCp_of [ct_large', ct_tables'] Tryd.func24 rfl Tryd.ntmps24 (by simp) Tryd.results24 rfl ?_
        apply Rn_st; (intro K0; simp only [go_sem]; exact ⟨id⟩)
        refine goR (L := []) (n := 0) ?_
        (apply Rn_frzB 1; (exact rfl); (exact rfl); (exact rfl); (intro K0; (try simp only [go_sem]); exact ⟨id⟩))
        (any_goals refine go lv24 0 ?_)
        repeat' (first | (refine Br.go (fun h h' => ?_) (fun h h' => ?_)) | (refine Br.mk (fun h => ?_) (fun h => ?_)))
        all_goals (try simp only [go_sem])
      | cons f0 rest =>
        have hi : p.fns[0]? = some f0 := by rw [hfs]; rfl
        rw [← hfs]
        have hl : 0 < p.fns.length := by rw [hfs]; exact Nat.succ_pos _
        have hF : firstF p = (decide (f0.params = 0) && !decide ((0 : Int) < (f0.caught.length : Int)) && !f0.gen) := by unfold firstF; rw [hfs]
        clear hfs
        have b0 : (0 : Int) < (p.fns.length : Int) := by omega
        have d0 : decide ((p.fns.length : Int) = 0) = false := by rw [decide_eq_false_iff_not]; omega
        have g0 := getD_map fnR hi ([] : List RV)
        have l2 : (f0.caught.map intR).length = f0.caught.length := List.length_map ..
        have hA : ∀ y, y = [fnsV p.fns, .r (.fn 50 [.rp (progR p)])] → CallOk Cx 49 y (Bv (p.fns.any fun f => !functionF p f)) := fun y hy => by
          subst hy
          have := CallOk_of (anyFn_c p.fns 50 [.rp (progR p)] (fun y => ∃ f ∈ p.fns, y = fnA f) (fun y => !functionF p (fnV y)) (by
            rintro _ ⟨f, hf, rfl⟩
            rw [fnV_at]
            exact CallOk_of (check1_c p f hp hf) en50 rfl rfl) (fun x hx => ⟨x, hx, rfl⟩) hsz.fns) en49 rfl rfl
          simpa only [fnV_at] using this
        rw [hF]
        refine FCp_of [ct_large', ct_tables', ctE 49 [fnsV p.fns, .r (.fn 50 [.rp (progR p)])] (Bv (p.fns.any fun f => !functionF p f)) hA] Tryd.func24 rfl Tryd.ntmps24 (by simp) Tryd.results24 rfl ?_
        apply Rn_st; (intro K0; simp only [go_sem]; exact ⟨id⟩)
        refine goR (L := []) (n := 0) ?_
        (apply Rn_frzB 1; (exact rfl); (exact rfl); (exact rfl); (intro K0; (try simp only [go_sem]); exact ⟨id⟩))
        (any_goals refine go lv24 0 ?_)
        repeat' (first | (refine Br.go (fun h h' => ?_) (fun h h' => ?_)) | (refine Br.mk (fun h => ?_) (fun h => ?_)))
        all_goals (try simp only [go_sem])
        · rw [if_pos (by simp [h'])]
        · rw [if_pos (by rcases h' with h' | h'; (rw [decide_eq_true h']; simp); (rw [h']; simp))]
        · rename_i h1 _ h2
          rw [if_neg (by rw [decide_eq_false h2.1, h2.2, decide_eq_true h1]; decide), if_pos h']
        · rename_i h1 _ h2
          rw [if_neg (by rw [decide_eq_false h2.1, h2.2, decide_eq_true h1]; decide), if_neg (by rw [h']; simp)]
theorem check'_c (xs ys zs : List (List RV)) (h : (xs = (fnsOf xs).map fnR ∧ ys = (valsOf ys).map valR ∧ zs = (strsOf zs).map strR) ∧ Pwf ⟨fnsOf xs, valsOf ys, strsOf zs⟩) : FC Cx 24 [.agg [.r (.rs 5 xs), .r (.rs 2 ys), .r (.rs 1 zs)]] [] (Iv (checkF ⟨fnsOf xs, valsOf ys, strsOf zs⟩)) [] := by
  have := check_c ⟨fnsOf xs, valsOf ys, strsOf zs⟩ h.2
  rwa [prog_at h.1] at this
/-- How calls of this function are met. -/
def sp_check' (args : List AV) (K : AV → Prop) : Prop := match args with
  | [.agg [.r (.rs 5 xs), .r (.rs 2 ys), .r (.rs 1 zs)]] => ((xs = (fnsOf xs).map fnR ∧ ys = (valsOf ys).map valR ∧ zs = (strsOf zs).map strR) ∧ Pwf ⟨fnsOf xs, valsOf ys, strsOf zs⟩) ∧ K (Iv (checkF ⟨fnsOf xs, valsOf ys, strsOf zs⟩))
  | _ => False
theorem sp_check'_ok (args : List AV) (K : AV → Prop) (h : sp_check' args K) : ∃ r, CallOk Cx 24 args r ∧ K r := by
  unfold sp_check' at h
  split at h
  · exact ⟨_, CallOk_of (check'_c _ _ _ h.1) en24 rfl rfl, h.2⟩
  · exact h.elim
noncomputable def ct_check' : Ct Cx := .pure 24 sp_check' sp_check'_ok
@[go_sem] theorem ct_check'_g : ct_check'.g = 24 := rfl
@[go_sem] theorem ct_check'_run (c : Call) (fop : Operand) (caps : List RV) (o : Oper) (st : St) (K : List Loc → List (Loc × Cont) → Prop) : ct_check'.run c fop caps o st K = callT Cx sp_check' c fop caps o st K := rfl
@[go_sem] theorem sp_check'_eq (args : List AV) (K : AV → Prop) : sp_check' args K = (match args with
    | [.agg [.r (.rs 5 xs), .r (.rs 2 ys), .r (.rs 1 zs)]] => ((xs = (fnsOf xs).map fnR ∧ ys = (valsOf ys).map valR ∧ zs = (strsOf zs).map strR) ∧ Pwf ⟨fnsOf xs, valsOf ys, strsOf zs⟩) ∧ K (Iv (checkF ⟨fnsOf xs, valsOf ys, strsOf zs⟩))
    | _ => False) := rfl

end Go.Proofs.YtjbhpoolghfhiaaDoor
