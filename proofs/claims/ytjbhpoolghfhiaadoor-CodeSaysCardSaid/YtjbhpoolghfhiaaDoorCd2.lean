/- What the checks of a program's orders come to. No condition: contracts of the program's functions. -/
import Derived.Test.YtjbhpoolghfhiaaDoorCd1
namespace Go.Proofs.YtjbhpoolghfhiaaDoor
set_option linter.unusedVariables false
set_option linter.unusedSimpArgs false
set_option maxHeartbeats 10000000
open Go
set_option maxRecDepth 10000


/-- A function in its program. -/
abbrev lookA (p : ProgT) (f : FnT) : AV := .agg [fnsV p.fns, valsV p.consts, strsV p.texts, Iv f.params, Iv f.regs, Bv f.gen, intsV f.caught, inssV f.code]

theorem prog_at {xs ys zs : List (List RV)} (h : xs = (fnsOf xs).map fnR ∧ ys = (valsOf ys).map valR ∧ zs = (strsOf zs).map strR) : progV ⟨fnsOf xs, valsOf ys, strsOf zs⟩ = .agg [.r (.rs 5 xs), .r (.rs 2 ys), .r (.rs 1 zs)] := by
  show AV.agg [fnsV (fnsOf xs), valsV (valsOf ys), strsV (strsOf zs)] = _
  rw [fnsOf_at h.1, valsOf_at h.2.1, strsOf_at h.2.2]
theorem fn_at {pa rg : Int} {ge : Bool} {us vs : List (List RV)} (h : us = (intsOf us).map intR ∧ vs = (inssOf vs).map insR) : fnA ⟨pa, rg, ge, intsOf us, inssOf vs⟩ = .agg [Iv pa, Iv rg, Bv ge, .r (.rs 1 us), .r (.rs 5 vs)] := by
  show AV.agg [Iv pa, Iv rg, Bv ge, intsV (intsOf us), inssV (inssOf vs)] = _
  rw [intsOf_at h.1, inssOf_at h.2]
theorem look_at {xs ys zs : List (List RV)} {pa rg : Int} {ge : Bool} {us vs : List (List RV)} (h : (xs = (fnsOf xs).map fnR ∧ ys = (valsOf ys).map valR ∧ zs = (strsOf zs).map strR) ∧ us = (intsOf us).map intR ∧ vs = (inssOf vs).map insR) : lookA ⟨fnsOf xs, valsOf ys, strsOf zs⟩ ⟨pa, rg, ge, intsOf us, inssOf vs⟩ = .agg [.r (.rs 5 xs), .r (.rs 2 ys), .r (.rs 1 zs), Iv pa, Iv rg, Bv ge, .r (.rs 1 us), .r (.rs 5 vs)] := by
  show AV.agg [fnsV (fnsOf xs), valsV (valsOf ys), strsV (strsOf zs), Iv pa, Iv rg, Bv ge, intsV (intsOf us), inssV (inssOf vs)] = _
  rw [fnsOf_at h.1.1, valsOf_at h.1.2.1, strsOf_at h.1.2.2, intsOf_at h.2.1, inssOf_at h.2.2]

/-- No longer than may be. -/
def ML : Nat := 140737488351232
structure Fok (f : FnT) : Prop where
  caught : f.caught.length ≤ 9223372036854775807
  code : f.code.length ≤ 9223372036854775807
  regs : 1 ≤ f.regs ∧ f.regs ≤ 60
structure Psz (p : ProgT) : Prop where
  fns : p.fns.length ≤ 9223372036854775807
  consts : p.consts.length ≤ 9223372036854775807
  texts : p.texts.length ≤ 9223372036854775807

def wiF (n lo hi : Int) : Bool := decide (lo ≤ n ∧ n ≤ hi)
theorem cwithin_c (n lo hi : Int) : FC Cx 76 [Iv n, Iv lo, Iv hi] [] (Bv (wiF n lo hi)) [] := by
  refine FCp_of [] Tryd.func76 rfl Tryd.ntmps76 (by simp) Tryd.results76 rfl ?_
  apply Rn_st; (intro K0; simp only [go_sem]; exact ⟨id⟩)
  (any_goals refine go lv76 0 ?_)
  repeat' (first | (refine Br.go (fun h h' => ?_) (fun h h' => ?_)) | (refine Br.mk (fun h => ?_) (fun h => ?_)))
  all_goals (try simp only [go_sem])
  all_goals simp_all [wiF]
  all_goals omega
/-- How calls of this function are met. -/
def sp_cwithin (args : List AV) (K : AV → Prop) : Prop := match args with
  | [.r (.v (.int .i64 n)), .r (.v (.int .i64 lo)), .r (.v (.int .i64 hi))] => K (Bv (wiF n lo hi))
  | _ => False
theorem sp_cwithin_ok (args : List AV) (K : AV → Prop) (h : sp_cwithin args K) : ∃ r, CallOk Cx 76 args r ∧ K r := by
  unfold sp_cwithin at h
  split at h
  · exact ⟨_, CallOk_of (cwithin_c _ _ _) en76 rfl rfl, h⟩
  · exact h.elim
noncomputable def ct_cwithin : Ct Cx := .pure 76 sp_cwithin sp_cwithin_ok
@[go_sem] theorem ct_cwithin_g : ct_cwithin.g = 76 := rfl
@[go_sem] theorem ct_cwithin_run (c : Call) (fop : Operand) (caps : List RV) (o : Oper) (st : St) (K : List Loc → List (Loc × Cont) → Prop) : ct_cwithin.run c fop caps o st K = callT Cx sp_cwithin c fop caps o st K := rfl
@[go_sem] theorem sp_cwithin_eq (args : List AV) (K : AV → Prop) : sp_cwithin args K = (match args with
    | [.r (.v (.int .i64 n)), .r (.v (.int .i64 lo)), .r (.v (.int .i64 hi))] => K (Bv (wiF n lo hi))
    | _ => False) := rfl

theorem reg_c (p : ProgT) (f : FnT) (n : Int) (h : Fok f) : FC Cx 78 [lookA p f, Iv n] [] (Bv (wiF n 0 (f.regs - 1))) [] := by
  have hw : IntKind.i64.wrap (f.regs - 1) = f.regs - 1 := by have := h.regs; rw [wrap_id] <;> omega
  refine FCp_of [ct_cwithin] Tryd.func78 rfl Tryd.ntmps78 (by simp) Tryd.results78 rfl ?_
  apply Rn_st; (intro K0; simp only [go_sem]; exact ⟨id⟩)
  refine goR (L := []) (n := 0) ?_
  (apply Rn_frzB 2; (exact rfl); (exact rfl); (exact rfl); (intro K0; (try simp only [go_sem]); exact ⟨id⟩))
  (any_goals refine go lv78 0 ?_)
  repeat' (first | (refine Br.go (fun h h' => ?_) (fun h h' => ?_)) | (refine Br.mk (fun h => ?_) (fun h => ?_)))
  all_goals (try simp only [go_sem])
theorem reg'_c (xs ys zs : List (List RV)) (pa rg : Int) (ge : Bool) (us vs : List (List RV)) (n : Int) (h : ((xs = (fnsOf xs).map fnR ∧ ys = (valsOf ys).map valR ∧ zs = (strsOf zs).map strR) ∧ us = (intsOf us).map intR ∧ vs = (inssOf vs).map insR) ∧ Fok ⟨pa, rg, ge, intsOf us, inssOf vs⟩) : FC Cx 78 [.agg [.r (.rs 5 xs), .r (.rs 2 ys), .r (.rs 1 zs), Iv pa, Iv rg, Bv ge, .r (.rs 1 us), .r (.rs 5 vs)], Iv n] [] (Bv (wiF n 0 (rg - 1))) [] := by
  have := reg_c ⟨fnsOf xs, valsOf ys, strsOf zs⟩ ⟨pa, rg, ge, intsOf us, inssOf vs⟩ n h.2
  rwa [look_at h.1] at this
/-- How calls of this function are met. -/
def sp_reg' (args : List AV) (K : AV → Prop) : Prop := match args with
  | [.agg [.r (.rs 5 xs), .r (.rs 2 ys), .r (.rs 1 zs), .r (.v (.int .i64 pa)), .r (.v (.int .i64 rg)), .r (.v (.bool ge)), .r (.rs 1 us), .r (.rs 5 vs)], .r (.v (.int .i64 n))] => (((xs = (fnsOf xs).map fnR ∧ ys = (valsOf ys).map valR ∧ zs = (strsOf zs).map strR) ∧ us = (intsOf us).map intR ∧ vs = (inssOf vs).map insR) ∧ Fok ⟨pa, rg, ge, intsOf us, inssOf vs⟩) ∧ K (Bv (wiF n 0 (rg - 1)))
  | _ => False
theorem sp_reg'_ok (args : List AV) (K : AV → Prop) (h : sp_reg' args K) : ∃ r, CallOk Cx 78 args r ∧ K r := by
  unfold sp_reg' at h
  split at h
  · exact ⟨_, CallOk_of (reg'_c _ _ _ _ _ _ _ _ _ h.1) en78 rfl rfl, h.2⟩
  · exact h.elim
noncomputable def ct_reg' : Ct Cx := .pure 78 sp_reg' sp_reg'_ok
@[go_sem] theorem ct_reg'_g : ct_reg'.g = 78 := rfl
@[go_sem] theorem ct_reg'_run (c : Call) (fop : Operand) (caps : List RV) (o : Oper) (st : St) (K : List Loc → List (Loc × Cont) → Prop) : ct_reg'.run c fop caps o st K = callT Cx sp_reg' c fop caps o st K := rfl
@[go_sem] theorem sp_reg'_eq (args : List AV) (K : AV → Prop) : sp_reg' args K = (match args with
    | [.agg [.r (.rs 5 xs), .r (.rs 2 ys), .r (.rs 1 zs), .r (.v (.int .i64 pa)), .r (.v (.int .i64 rg)), .r (.v (.bool ge)), .r (.rs 1 us), .r (.rs 5 vs)], .r (.v (.int .i64 n))] => (((xs = (fnsOf xs).map fnR ∧ ys = (valsOf ys).map valR ∧ zs = (strsOf zs).map strR) ∧ us = (intsOf us).map intR ∧ vs = (inssOf vs).map insR) ∧ Fok ⟨pa, rg, ge, intsOf us, inssOf vs⟩) ∧ K (Bv (wiF n 0 (rg - 1)))
    | _ => False) := rfl

theorem at_c (p : ProgT) (f : FnT) (n : Int) (h : Fok f) : FC Cx 83 [lookA p f, Iv n] [] (Bv (wiF n 0 ((f.code.length : Int) - 1))) [] := by
  have hw : IntKind.i64.wrap ((f.code.length : Int) - 1) = (f.code.length : Int) - 1 := by have := h.code; rw [wrap_id] <;> omega
  have hl : (f.code.map insR).length = f.code.length := List.length_map ..
  refine FCp_of [ct_cwithin] Tryd.func83 rfl Tryd.ntmps83 (by simp) Tryd.results83 rfl ?_
  apply Rn_st; (intro K0; simp only [go_sem]; exact ⟨id⟩)
  refine goR (L := []) (n := 0) ?_
  (apply Rn_frzB 2; (exact rfl); (exact rfl); (exact rfl); (intro K0; (try simp only [go_sem]); exact ⟨id⟩))
  (any_goals refine go lv83 0 ?_)
  repeat' (first | (refine Br.go (fun h h' => ?_) (fun h h' => ?_)) | (refine Br.mk (fun h => ?_) (fun h => ?_)))
  all_goals (try simp only [go_sem])
theorem at'_c (xs ys zs : List (List RV)) (pa rg : Int) (ge : Bool) (us vs : List (List RV)) (n : Int) (h : ((xs = (fnsOf xs).map fnR ∧ ys = (valsOf ys).map valR ∧ zs = (strsOf zs).map strR) ∧ us = (intsOf us).map intR ∧ vs = (inssOf vs).map insR) ∧ Fok ⟨pa, rg, ge, intsOf us, inssOf vs⟩) : FC Cx 83 [.agg [.r (.rs 5 xs), .r (.rs 2 ys), .r (.rs 1 zs), Iv pa, Iv rg, Bv ge, .r (.rs 1 us), .r (.rs 5 vs)], Iv n] [] (Bv (wiF n 0 (((inssOf vs).length : Int) - 1))) [] := by
  have := at_c ⟨fnsOf xs, valsOf ys, strsOf zs⟩ ⟨pa, rg, ge, intsOf us, inssOf vs⟩ n h.2
  rwa [look_at h.1] at this
/-- How calls of this function are met. -/
def sp_at' (args : List AV) (K : AV → Prop) : Prop := match args with
  | [.agg [.r (.rs 5 xs), .r (.rs 2 ys), .r (.rs 1 zs), .r (.v (.int .i64 pa)), .r (.v (.int .i64 rg)), .r (.v (.bool ge)), .r (.rs 1 us), .r (.rs 5 vs)], .r (.v (.int .i64 n))] => (((xs = (fnsOf xs).map fnR ∧ ys = (valsOf ys).map valR ∧ zs = (strsOf zs).map strR) ∧ us = (intsOf us).map intR ∧ vs = (inssOf vs).map insR) ∧ Fok ⟨pa, rg, ge, intsOf us, inssOf vs⟩) ∧ K (Bv (wiF n 0 (((inssOf vs).length : Int) - 1)))
  | _ => False
theorem sp_at'_ok (args : List AV) (K : AV → Prop) (h : sp_at' args K) : ∃ r, CallOk Cx 83 args r ∧ K r := by
  unfold sp_at' at h
  split at h
  · exact ⟨_, CallOk_of (at'_c _ _ _ _ _ _ _ _ _ h.1) en83 rfl rfl, h.2⟩
  · exact h.elim
noncomputable def ct_at' : Ct Cx := .pure 83 sp_at' sp_at'_ok
@[go_sem] theorem ct_at'_g : ct_at'.g = 83 := rfl
@[go_sem] theorem ct_at'_run (c : Call) (fop : Operand) (caps : List RV) (o : Oper) (st : St) (K : List Loc → List (Loc × Cont) → Prop) : ct_at'.run c fop caps o st K = callT Cx sp_at' c fop caps o st K := rfl
@[go_sem] theorem sp_at'_eq (args : List AV) (K : AV → Prop) : sp_at' args K = (match args with
    | [.agg [.r (.rs 5 xs), .r (.rs 2 ys), .r (.rs 1 zs), .r (.v (.int .i64 pa)), .r (.v (.int .i64 rg)), .r (.v (.bool ge)), .r (.rs 1 us), .r (.rs 5 vs)], .r (.v (.int .i64 n))] => (((xs = (fnsOf xs).map fnR ∧ ys = (valsOf ys).map valR ∧ zs = (strsOf zs).map strR) ∧ us = (intsOf us).map intR ∧ vs = (inssOf vs).map insR) ∧ Fok ⟨pa, rg, ge, intsOf us, inssOf vs⟩) ∧ K (Bv (wiF n 0 (((inssOf vs).length : Int) - 1)))
    | _ => False) := rfl

theorem text_c (p : ProgT) (f : FnT) (n : Int) (h : Psz p) : FC Cx 82 [lookA p f, Iv n] [] (Bv (wiF n 0 ((p.texts.length : Int) - 1))) [] := by
  have hw : IntKind.i64.wrap ((p.texts.length : Int) - 1) = (p.texts.length : Int) - 1 := by have := h.texts; rw [wrap_id] <;> omega
  have hl : (p.texts.map strR).length = p.texts.length := List.length_map ..
  refine FCp_of [ct_cwithin] Tryd.func82 rfl Tryd.ntmps82 (by simp) Tryd.results82 rfl ?_
  apply Rn_st; (intro K0; simp only [go_sem]; exact ⟨id⟩)
  refine goR (L := []) (n := 0) ?_
  (apply Rn_frzB 2; (exact rfl); (exact rfl); (exact rfl); (intro K0; (try simp only [go_sem]); exact ⟨id⟩))
  (any_goals refine go lv82 0 ?_)
  repeat' (first | (refine Br.go (fun h h' => ?_) (fun h h' => ?_)) | (refine Br.mk (fun h => ?_) (fun h => ?_)))
  all_goals (try simp only [go_sem])
theorem text'_c (xs ys zs : List (List RV)) (pa rg : Int) (ge : Bool) (us vs : List (List RV)) (n : Int) (h : ((xs = (fnsOf xs).map fnR ∧ ys = (valsOf ys).map valR ∧ zs = (strsOf zs).map strR) ∧ us = (intsOf us).map intR ∧ vs = (inssOf vs).map insR) ∧ Psz ⟨fnsOf xs, valsOf ys, strsOf zs⟩) : FC Cx 82 [.agg [.r (.rs 5 xs), .r (.rs 2 ys), .r (.rs 1 zs), Iv pa, Iv rg, Bv ge, .r (.rs 1 us), .r (.rs 5 vs)], Iv n] [] (Bv (wiF n 0 (((strsOf zs).length : Int) - 1))) [] := by
  have := text_c ⟨fnsOf xs, valsOf ys, strsOf zs⟩ ⟨pa, rg, ge, intsOf us, inssOf vs⟩ n h.2
  rwa [look_at h.1] at this
/-- How calls of this function are met. -/
def sp_text' (args : List AV) (K : AV → Prop) : Prop := match args with
  | [.agg [.r (.rs 5 xs), .r (.rs 2 ys), .r (.rs 1 zs), .r (.v (.int .i64 pa)), .r (.v (.int .i64 rg)), .r (.v (.bool ge)), .r (.rs 1 us), .r (.rs 5 vs)], .r (.v (.int .i64 n))] => (((xs = (fnsOf xs).map fnR ∧ ys = (valsOf ys).map valR ∧ zs = (strsOf zs).map strR) ∧ us = (intsOf us).map intR ∧ vs = (inssOf vs).map insR) ∧ Psz ⟨fnsOf xs, valsOf ys, strsOf zs⟩) ∧ K (Bv (wiF n 0 (((strsOf zs).length : Int) - 1)))
  | _ => False
theorem sp_text'_ok (args : List AV) (K : AV → Prop) (h : sp_text' args K) : ∃ r, CallOk Cx 82 args r ∧ K r := by
  unfold sp_text' at h
  split at h
  · exact ⟨_, CallOk_of (text'_c _ _ _ _ _ _ _ _ _ h.1) en82 rfl rfl, h.2⟩
  · exact h.elim
noncomputable def ct_text' : Ct Cx := .pure 82 sp_text' sp_text'_ok
@[go_sem] theorem ct_text'_g : ct_text'.g = 82 := rfl
@[go_sem] theorem ct_text'_run (c : Call) (fop : Operand) (caps : List RV) (o : Oper) (st : St) (K : List Loc → List (Loc × Cont) → Prop) : ct_text'.run c fop caps o st K = callT Cx sp_text' c fop caps o st K := rfl
@[go_sem] theorem sp_text'_eq (args : List AV) (K : AV → Prop) : sp_text' args K = (match args with
    | [.agg [.r (.rs 5 xs), .r (.rs 2 ys), .r (.rs 1 zs), .r (.v (.int .i64 pa)), .r (.v (.int .i64 rg)), .r (.v (.bool ge)), .r (.rs 1 us), .r (.rs 5 vs)], .r (.v (.int .i64 n))] => (((xs = (fnsOf xs).map fnR ∧ ys = (valsOf ys).map valR ∧ zs = (strsOf zs).map strR) ∧ us = (intsOf us).map intR ∧ vs = (inssOf vs).map insR) ∧ Psz ⟨fnsOf xs, valsOf ys, strsOf zs⟩) ∧ K (Bv (wiF n 0 (((strsOf zs).length : Int) - 1)))
    | _ => False) := rfl

/-- How many there are of what is named. -/
def namesF (p : ProgT) (f : FnT) (c n : Int) : Bool :=
  if c = 114 then wiF n 0 (f.regs - 1) else if c = 107 then wiF n 0 ((p.consts.length : Int) - 1) else if c = 116 then wiF n 0 ((p.texts.length : Int) - 1) else if c = 97 then wiF n 0 ((f.code.length : Int) - 1) else
  if c = 117 then wiF n 0 ((f.caught.length : Int) - 1) else if c = 102 then wiF n 1 ((p.fns.length : Int) - 1) else if c = 108 ∨ c = 99 ∨ c = 110 then wiF n 0 f.regs else decide (n = 0)

theorem names_c (p : ProgT) (f : FnT) (c n : Int) (hf : Fok f) (hp : Psz p) : FC Cx 77 [lookA p f, .r (.v (.int .u8 c)), Iv n] [] (Bv (namesF p f c n)) [] := by
  have hw1 : IntKind.i64.wrap ((p.consts.length : Int) - 1) = (p.consts.length : Int) - 1 := by have := hp.consts; rw [wrap_id] <;> omega
  have hw2 : IntKind.i64.wrap ((f.caught.length : Int) - 1) = (f.caught.length : Int) - 1 := by have := hf.caught; rw [wrap_id] <;> omega
  have hw3 : IntKind.i64.wrap ((p.fns.length : Int) - 1) = (p.fns.length : Int) - 1 := by have := hp.fns; rw [wrap_id] <;> omega
  have hl1 : (p.consts.map valR).length = p.consts.length := List.length_map ..
  have hl2 : (f.caught.map intR).length = f.caught.length := List.length_map ..
  have hl3 : (p.fns.map fnR).length = p.fns.length := List.length_map ..
  refine FCp_of [ct_cwithin, ct_reg', ct_at', ct_text'] Tryd.func77 rfl Tryd.ntmps77 (by simp) Tryd.results77 rfl ?_
  apply Rn_st; (intro K0; simp only [go_sem]; exact ⟨id⟩)
  refine goR (L := []) (n := 0) ?_
  (apply Rn_frzB 3; (exact rfl); (exact rfl); (exact rfl); (intro K0; (try simp only [go_sem]); exact ⟨id⟩))
  (any_goals refine go lv77 0 ?_)
  repeat' (first | (refine Br.go (fun h h' => ?_) (fun h h' => ?_)) | (refine Br.mk (fun h => ?_) (fun h => ?_)))
  all_goals (try simp only [go_sem])
  all_goals (simp_all [namesF])
theorem names'_c (xs ys zs : List (List RV)) (pa rg : Int) (ge : Bool) (us vs : List (List RV)) (c n : Int) (h : ((xs = (fnsOf xs).map fnR ∧ ys = (valsOf ys).map valR ∧ zs = (strsOf zs).map strR) ∧ us = (intsOf us).map intR ∧ vs = (inssOf vs).map insR) ∧ Fok ⟨pa, rg, ge, intsOf us, inssOf vs⟩ ∧ Psz ⟨fnsOf xs, valsOf ys, strsOf zs⟩) : FC Cx 77 [.agg [.r (.rs 5 xs), .r (.rs 2 ys), .r (.rs 1 zs), Iv pa, Iv rg, Bv ge, .r (.rs 1 us), .r (.rs 5 vs)], .r (.v (.int .u8 c)), Iv n] [] (Bv (namesF ⟨fnsOf xs, valsOf ys, strsOf zs⟩ ⟨pa, rg, ge, intsOf us, inssOf vs⟩ c n)) [] := by
  have := names_c ⟨fnsOf xs, valsOf ys, strsOf zs⟩ ⟨pa, rg, ge, intsOf us, inssOf vs⟩ c n h.2.1 h.2.2
  rwa [look_at h.1] at this
/-- How calls of this function are met. -/
def sp_names' (args : List AV) (K : AV → Prop) : Prop := match args with
  | [.agg [.r (.rs 5 xs), .r (.rs 2 ys), .r (.rs 1 zs), .r (.v (.int .i64 pa)), .r (.v (.int .i64 rg)), .r (.v (.bool ge)), .r (.rs 1 us), .r (.rs 5 vs)], .r (.v (.int .u8 c)), .r (.v (.int .i64 n))] => (((xs = (fnsOf xs).map fnR ∧ ys = (valsOf ys).map valR ∧ zs = (strsOf zs).map strR) ∧ us = (intsOf us).map intR ∧ vs = (inssOf vs).map insR) ∧ Fok ⟨pa, rg, ge, intsOf us, inssOf vs⟩ ∧ Psz ⟨fnsOf xs, valsOf ys, strsOf zs⟩) ∧ K (Bv (namesF ⟨fnsOf xs, valsOf ys, strsOf zs⟩ ⟨pa, rg, ge, intsOf us, inssOf vs⟩ c n))
  | _ => False
theorem sp_names'_ok (args : List AV) (K : AV → Prop) (h : sp_names' args K) : ∃ r, CallOk Cx 77 args r ∧ K r := by
  unfold sp_names' at h
  split at h
  · exact ⟨_, CallOk_of (names'_c _ _ _ _ _ _ _ _ _ _ h.1) en77 rfl rfl, h.2⟩
  · exact h.elim
noncomputable def ct_names' : Ct Cx := .pure 77 sp_names' sp_names'_ok
@[go_sem] theorem ct_names'_g : ct_names'.g = 77 := rfl
@[go_sem] theorem ct_names'_run (c : Call) (fop : Operand) (caps : List RV) (o : Oper) (st : St) (K : List Loc → List (Loc × Cont) → Prop) : ct_names'.run c fop caps o st K = callT Cx sp_names' c fop caps o st K := rfl
@[go_sem] theorem sp_names'_eq (args : List AV) (K : AV → Prop) : sp_names' args K = (match args with
    | [.agg [.r (.rs 5 xs), .r (.rs 2 ys), .r (.rs 1 zs), .r (.v (.int .i64 pa)), .r (.v (.int .i64 rg)), .r (.v (.bool ge)), .r (.rs 1 us), .r (.rs 5 vs)], .r (.v (.int .u8 c)), .r (.v (.int .i64 n))] => (((xs = (fnsOf xs).map fnR ∧ ys = (valsOf ys).map valR ∧ zs = (strsOf zs).map strR) ∧ us = (intsOf us).map intR ∧ vs = (inssOf vs).map insR) ∧ Fok ⟨pa, rg, ge, intsOf us, inssOf vs⟩ ∧ Psz ⟨fnsOf xs, valsOf ys, strsOf zs⟩) ∧ K (Bv (namesF ⟨fnsOf xs, valsOf ys, strsOf zs⟩ ⟨pa, rg, ge, intsOf us, inssOf vs⟩ c n))
    | _ => False) := rfl

end Go.Proofs.YtjbhpoolghfhiaaDoor
