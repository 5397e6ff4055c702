/- The document's forms of orders, and how many there are of what is named. No condition: contracts of the document's functions. -/
import Derived.Test.YtjbhpoolghfhiaaDoorCd6
import Derived.Test.YtjbhpoolghfhiaaDoorRv1
namespace Go.Proofs.YtjbhpoolghfhiaaDoor
set_option linter.unusedVariables false
set_option linter.unusedSimpArgs false
set_option maxHeartbeats 10000000
open Go
set_option maxRecDepth 10000



/-- What an order names, by its kind, as the document says it. -/
def dformsT : List ByteArray := [⟨#[]⟩, ⟨#[114, 107, 46]⟩, ⟨#[114, 114, 46]⟩, ⟨#[114, 114, 114]⟩, ⟨#[114, 114, 114]⟩, ⟨#[114, 114, 114]⟩, ⟨#[114, 114, 114]⟩, ⟨#[114, 114, 114]⟩, ⟨#[114, 114, 114]⟩, ⟨#[114, 114, 114]⟩, ⟨#[114, 114, 114]⟩, ⟨#[114, 114, 46]⟩, ⟨#[114, 114, 46]⟩, ⟨#[112, 46, 46]⟩, ⟨#[112, 46, 46]⟩, ⟨#[114, 112, 46]⟩, ⟨#[114, 46, 46]⟩, ⟨#[114, 114, 116]⟩, ⟨#[114, 116, 114]⟩, ⟨#[114, 108, 110]⟩, ⟨#[114, 114, 114]⟩, ⟨#[114, 114, 114]⟩, ⟨#[114, 46, 46]⟩, ⟨#[114, 114, 46]⟩, ⟨#[114, 114, 46]⟩, ⟨#[114, 117, 46]⟩, ⟨#[114, 102, 46]⟩, ⟨#[114, 114, 110]⟩, ⟨#[114, 46, 46]⟩, ⟨#[114, 46, 46]⟩, ⟨#[114, 112, 46]⟩, ⟨#[46, 46, 46]⟩, ⟨#[114, 114, 46]⟩, ⟨#[114, 46, 46]⟩, ⟨#[114, 46, 46]⟩, ⟨#[114, 114, 46]⟩, ⟨#[114, 114, 46]⟩, ⟨#[114, 46, 46]⟩, ⟨#[114, 46, 46]⟩]
def dformF (op : Int) : ByteArray := if op < 1 ∨ 39 ≤ op then ⟨#[]⟩ else dformsT.getD op.toNat ⟨#[]⟩
theorem dformF_size {op : Int} (h : ¬ (op < 1 ∨ 39 ≤ op)) : (dformF op).size = 3 := by
  rcases ors h with rfl | rfl | rfl | rfl | rfl | rfl | rfl | rfl | rfl | rfl | rfl | rfl | rfl | rfl | rfl | rfl | rfl | rfl | rfl | rfl | rfl | rfl | rfl | rfl | rfl | rfl | rfl | rfl | rfl | rfl | rfl | rfl | rfl | rfl | rfl | rfl | rfl | rfl <;> rfl

theorem dform_c (op : Int) : FC Cx 70 [Iv op] [] (Sv (dformF op)) [] := by
  refine FCp_of [] Tryd.func70 rfl Tryd.ntmps70 (by simp) Tryd.results70 rfl ?_
  apply Rn_st; (intro K0; simp only [go_sem]; exact ⟨id⟩)
  (any_goals refine go lv70 0 ?_)
  repeat' (first | (refine Br.go (fun h h' => ?_) (fun h h' => ?_)) | (refine Br.mk (fun h => ?_) (fun h => ?_)))
  all_goals (try simp only [go_sem])
  all_goals (first | (subst h'; rfl) | (have hx : op < 1 ∨ 39 ≤ op := (by omega); exact congrArg Sv (if_pos hx).symm) | trace_state)
/-- How calls of this function are met. -/
def sp_dform (args : List AV) (K : AV → Prop) : Prop := match args with
  | [.r (.v (.int .i64 op))] => K (Sv (dformF op))
  | _ => False
theorem sp_dform_ok (args : List AV) (K : AV → Prop) (h : sp_dform args K) : ∃ r, CallOk Cx 70 args r ∧ K r := by
  unfold sp_dform at h
  split at h
  · exact ⟨_, CallOk_of (dform_c _) en70 rfl rfl, h⟩
  · exact h.elim
noncomputable def ct_dform : Ct Cx := .pure 70 sp_dform sp_dform_ok
@[go_sem] theorem ct_dform_g : ct_dform.g = 70 := rfl
@[go_sem] theorem ct_dform_run (c : Call) (fop : Operand) (caps : List RV) (o : Oper) (st : St) (K : List Loc → List (Loc × Cont) → Prop) : ct_dform.run c fop caps o st K = callT Cx sp_dform c fop caps o st K := rfl
@[go_sem] theorem sp_dform_eq (args : List AV) (K : AV → Prop) : sp_dform args K = (match args with
    | [.r (.v (.int .i64 op))] => K (Sv (dformF op))
    | _ => False) := rfl

/-- How many there are of what is named. -/
def mostF (p : ProgT) (f : FnT) (c : Int) : Int :=
  if c = 114 then f.regs else if c = 107 then p.consts.length else if c = 116 then p.texts.length else if c = 112 then f.code.length else
  if c = 117 then f.caught.length else if c = 102 then p.fns.length else if c = 108 ∨ c = 110 then f.regs + 1 else 1

theorem most_c (p : ProgT) (f : FnT) (c : Int) (hf : Fok f) (hp : Psz p) : FC Cx 71 [progV p, fnA f, .r (.v (.int .u8 c))] [] (Iv (mostF p f c)) [] := by
  have hw : IntKind.i64.wrap (f.regs + 1) = f.regs + 1 := by have := hf.regs; rw [wrap_id] <;> omega
  have hl1 : (p.consts.map valR).length = p.consts.length := List.length_map ..
  have hl2 : (f.caught.map intR).length = f.caught.length := List.length_map ..
  have hl3 : (p.fns.map fnR).length = p.fns.length := List.length_map ..
  have hl4 : (p.texts.map strR).length = p.texts.length := List.length_map ..
  have hl5 : (f.code.map insR).length = f.code.length := List.length_map ..
  refine FCp_of [] Tryd.func71 rfl Tryd.ntmps71 (by simp) Tryd.results71 rfl ?_
  apply Rn_st; (intro K0; simp only [go_sem]; exact ⟨id⟩)
  refine goR (L := []) (n := 0) ?_
  (apply Rn_frzB 3; (exact rfl); (exact rfl); (exact rfl); (intro K0; (try simp only [go_sem]); exact ⟨id⟩))
  (apply Rn_frzB 4; (exact rfl); (exact rfl); (exact rfl); (intro K0; (try simp only [go_sem]); exact ⟨id⟩))
  (any_goals refine go lv71 0 ?_)
  repeat' (first | (refine Br.go (fun h h' => ?_) (fun h h' => ?_)) | (refine Br.mk (fun h => ?_) (fun h => ?_)))
  all_goals (try simp only [go_sem])
  all_goals (simp_all [mostF])
theorem most'_c (xs ys zs : List (List RV)) (pa rg : Int) (ge : Bool) (us vs : List (List RV)) (c : Int) (h : ((xs = (fnsOf xs).map fnR ∧ ys = (valsOf ys).map valR ∧ zs = (strsOf zs).map strR) ∧ us = (intsOf us).map intR ∧ vs = (inssOf vs).map insR) ∧ Fok ⟨pa, rg, ge, intsOf us, inssOf vs⟩ ∧ Psz ⟨fnsOf xs, valsOf ys, strsOf zs⟩) : FC Cx 71 [.agg [.r (.rs 5 xs), .r (.rs 2 ys), .r (.rs 1 zs)], .agg [Iv pa, Iv rg, Bv ge, .r (.rs 1 us), .r (.rs 5 vs)], .r (.v (.int .u8 c))] [] (Iv (mostF ⟨fnsOf xs, valsOf ys, strsOf zs⟩ ⟨pa, rg, ge, intsOf us, inssOf vs⟩ c)) [] := by
  have := most_c ⟨fnsOf xs, valsOf ys, strsOf zs⟩ ⟨pa, rg, ge, intsOf us, inssOf vs⟩ c h.2.1 h.2.2
  rwa [prog_at h.1.1, fn_at h.1.2] at this
/-- How calls of this function are met. -/
def sp_most' (args : List AV) (K : AV → Prop) : Prop := match args with
  | [.agg [.r (.rs 5 xs), .r (.rs 2 ys), .r (.rs 1 zs)], .agg [.r (.v (.int .i64 pa)), .r (.v (.int .i64 rg)), .r (.v (.bool ge)), .r (.rs 1 us), .r (.rs 5 vs)], .r (.v (.int .u8 c))] => (((xs = (fnsOf xs).map fnR ∧ ys = (valsOf ys).map valR ∧ zs = (strsOf zs).map strR) ∧ us = (intsOf us).map intR ∧ vs = (inssOf vs).map insR) ∧ Fok ⟨pa, rg, ge, intsOf us, inssOf vs⟩ ∧ Psz ⟨fnsOf xs, valsOf ys, strsOf zs⟩) ∧ K (Iv (mostF ⟨fnsOf xs, valsOf ys, strsOf zs⟩ ⟨pa, rg, ge, intsOf us, inssOf vs⟩ c))
  | _ => False
theorem sp_most'_ok (args : List AV) (K : AV → Prop) (h : sp_most' args K) : ∃ r, CallOk Cx 71 args r ∧ K r := by
  unfold sp_most' at h
  split at h
  · exact ⟨_, CallOk_of (most'_c _ _ _ _ _ _ _ _ _ h.1) en71 rfl rfl, h.2⟩
  · exact h.elim
noncomputable def ct_most' : Ct Cx := .pure 71 sp_most' sp_most'_ok
@[go_sem] theorem ct_most'_g : ct_most'.g = 71 := rfl
@[go_sem] theorem ct_most'_run (c : Call) (fop : Operand) (caps : List RV) (o : Oper) (st : St) (K : List Loc → List (Loc × Cont) → Prop) : ct_most'.run c fop caps o st K = callT Cx sp_most' c fop caps o st K := rfl
@[go_sem] theorem sp_most'_eq (args : List AV) (K : AV → Prop) : sp_most' args K = (match args with
    | [.agg [.r (.rs 5 xs), .r (.rs 2 ys), .r (.rs 1 zs)], .agg [.r (.v (.int .i64 pa)), .r (.v (.int .i64 rg)), .r (.v (.bool ge)), .r (.rs 1 us), .r (.rs 5 vs)], .r (.v (.int .u8 c))] => (((xs = (fnsOf xs).map fnR ∧ ys = (valsOf ys).map valR ∧ zs = (strsOf zs).map strR) ∧ us = (intsOf us).map intR ∧ vs = (inssOf vs).map insR) ∧ Fok ⟨pa, rg, ge, intsOf us, inssOf vs⟩ ∧ Psz ⟨fnsOf xs, valsOf ys, strsOf zs⟩) ∧ K (Iv (mostF ⟨fnsOf xs, valsOf ys, strsOf zs⟩ ⟨pa, rg, ge, intsOf us, inssOf vs⟩ c))
    | _ => False) := rfl

end Go.Proofs.YtjbhpoolghfhiaaDoor
