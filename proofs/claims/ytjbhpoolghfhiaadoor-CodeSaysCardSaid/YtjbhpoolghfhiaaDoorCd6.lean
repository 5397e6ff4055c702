/- Orders, whichever; what makes a function right, but for its ways. No condition: contracts of the program's functions. -/
import Derived.Test.YtjbhpoolghfhiaaDoorCd5
namespace Go.Proofs.YtjbhpoolghfhiaaDoor
set_option linter.unusedVariables false
set_option linter.unusedSimpArgs false
set_option maxHeartbeats 10000000
open Go
set_option maxRecDepth 10000



theorem formF_ne {op : Int} (h : ¬ (op < 1 ∨ 39 ≤ op)) : decide (formF op = ⟨#[]⟩) = false := by
  rw [decide_eq_false_iff_not]; intro e
  have := formF_size h
  rw [e] at this; cases this

theorem order_c (p : ProgT) (f : FnT) (n : Int) (i : InsT) (hf : Fok f) (hp : Psz p) (hc : ∀ g ∈ p.fns, g.caught.length ≤ 9223372036854775807) : FC Cx 69 [lookA p f, Iv n, insA i] [] (Bv (orderF p f n i)) [] := by
  obtain ⟨op, a, b, c, line⟩ := i
  unfold orderF
  by_cases hop : op < 1 ∨ 39 ≤ op
  · rw [if_pos hop]
    exact ord0_c p f n op a b c line hf hp (by rw [formF, if_pos hop]; rfl)
  rw [if_neg hop]
  have hE := formF_ne hop
  have hs := formF_size hop
  cases e0 : wiF line 0 2000 with
  | false => rw [if_pos (by simp [orderN, e0])]; exact ordN0_c p f n op a b c line hf hp hE hs e0
  | true =>
  cases e1 : namesF p f (fB op 0) a with
  | false => rw [if_pos (by simp [orderN, e0, e1])]; exact ordN1_c p f n op a b c line hf hp hE hs e0 e1
  | true =>
  cases e2 : namesF p f (fB op 1) b with
  | false => rw [if_pos (by simp [orderN, e0, e1, e2])]; exact ordN2_c p f n op a b c line hf hp hE hs e0 e1 e2
  | true =>
  cases e3 : namesF p f (fB op 2) c with
  | false => rw [if_pos (by simp [orderN, e0, e1, e2, e3])]; exact ordN3_c p f n op a b c line hf hp hE hs e0 e1 e2 e3
  | true =>
  rw [if_neg (by simp [orderN, e0, e1, e2, e3])]
  have hr := hf.regs
  by_cases o1 : op = 14
  · subst o1; exact ord14_c p f n a b c line hf hp hE hs e0 e1 e2 e3
  rw [if_neg (show ¬ (InsT.mk op a b c line).op = 14 from o1)]
  by_cases o2 : op = 19
  · subst o2
    have h2 : wiF b 0 f.regs = true := e2
    have h3 : wiF c 0 f.regs = true := e3
    rw [wiF_iff] at h2 h3
    exact ord19_c p f n a b c line hf hp hE hs e0 e1 e2 e3 (by rw [wrap_id] <;> omega)
  rw [if_neg (show ¬ (InsT.mk op a b c line).op = 19 from o2)]
  by_cases o3 : op = 27
  · subst o3
    have h2 : wiF b 0 f.regs = true := e2
    have h3 : wiF c 0 f.regs = true := e3
    rw [wiF_iff] at h2 h3
    exact ord27_c p f n a b c line hf hp hE hs e0 e1 e2 e3 (by rw [wrap_id] <;> omega)
  rw [if_neg (show ¬ (InsT.mk op a b c line).op = 27 from o3)]
  by_cases o4 : op = 26
  · subst o4
    have h2 : wiF b 1 ((p.fns.length : Int) - 1) = true := e2
    rw [wiF_iff] at h2
    have hg : p.fns[b.toNat]? = some (p.fns[b.toNat]'(by omega)) := List.getElem?_eq_getElem (by omega)
    have := ord26_c p f n a b c line hf hp hE hs e0 e1 e2 e3 _ hg (by omega) (hc _ (List.mem_of_getElem? hg))
    rw [if_pos rfl]
    show FC Cx _ _ _ (Bv (caughtF f (p.fns.getD b.toNat fn0))) _
    rw [List.getD, hg]; exact this
  rw [if_neg (show ¬ (InsT.mk op a b c line).op = 26 from o4)]
  by_cases o5 : op = 32
  · subst o5; exact ord32_c p f n a b c line hf hp hE hs e0 e1 e2 e3
  rw [if_neg (show ¬ (InsT.mk op a b c line).op = 32 from o5)]
  exact ordx_c p f n op a b c line hf hp hE hs e0 e1 e2 e3 (by simpa using o1) (by simpa using o2) (by simpa using o3) (by simpa using o4) (by simpa using o5)
theorem order'_c (xs ys zs : List (List RV)) (pa rg : Int) (ge : Bool) (us vs : List (List RV)) (n op a b c li : Int) (h : ((xs = (fnsOf xs).map fnR ∧ ys = (valsOf ys).map valR ∧ zs = (strsOf zs).map strR) ∧ us = (intsOf us).map intR ∧ vs = (inssOf vs).map insR) ∧ Fok ⟨pa, rg, ge, intsOf us, inssOf vs⟩ ∧ Psz ⟨fnsOf xs, valsOf ys, strsOf zs⟩ ∧ ∀ g ∈ fnsOf xs, g.caught.length ≤ 9223372036854775807) : FC Cx 69 [.agg [.r (.rs 5 xs), .r (.rs 2 ys), .r (.rs 1 zs), Iv pa, Iv rg, Bv ge, .r (.rs 1 us), .r (.rs 5 vs)], Iv n, .agg [Iv op, Iv a, Iv b, Iv c, Iv li]] [] (Bv (orderF ⟨fnsOf xs, valsOf ys, strsOf zs⟩ ⟨pa, rg, ge, intsOf us, inssOf vs⟩ n ⟨op, a, b, c, li⟩)) [] := by
  have := order_c ⟨fnsOf xs, valsOf ys, strsOf zs⟩ ⟨pa, rg, ge, intsOf us, inssOf vs⟩ n ⟨op, a, b, c, li⟩ h.2.1 h.2.2.1 h.2.2.2
  rwa [look_at h.1] at this
/-- How calls of this function are met. -/
def sp_order' (args : List AV) (K : AV → Prop) : Prop := match args with
  | [.agg [.r (.rs 5 xs), .r (.rs 2 ys), .r (.rs 1 zs), .r (.v (.int .i64 pa)), .r (.v (.int .i64 rg)), .r (.v (.bool ge)), .r (.rs 1 us), .r (.rs 5 vs)], .r (.v (.int .i64 n)), .agg [.r (.v (.int .i64 op)), .r (.v (.int .i64 a)), .r (.v (.int .i64 b)), .r (.v (.int .i64 c)), .r (.v (.int .i64 li))]] => (((xs = (fnsOf xs).map fnR ∧ ys = (valsOf ys).map valR ∧ zs = (strsOf zs).map strR) ∧ us = (intsOf us).map intR ∧ vs = (inssOf vs).map insR) ∧ Fok ⟨pa, rg, ge, intsOf us, inssOf vs⟩ ∧ Psz ⟨fnsOf xs, valsOf ys, strsOf zs⟩ ∧ ∀ g ∈ fnsOf xs, g.caught.length ≤ 9223372036854775807) ∧ K (Bv (orderF ⟨fnsOf xs, valsOf ys, strsOf zs⟩ ⟨pa, rg, ge, intsOf us, inssOf vs⟩ n ⟨op, a, b, c, li⟩))
  | _ => False
theorem sp_order'_ok (args : List AV) (K : AV → Prop) (h : sp_order' args K) : ∃ r, CallOk Cx 69 args r ∧ K r := by
  unfold sp_order' at h
  split at h
  · exact ⟨_, CallOk_of (order'_c _ _ _ _ _ _ _ _ _ _ _ _ _ _ h.1) en69 rfl rfl, h.2⟩
  · exact h.elim
noncomputable def ct_order' : Ct Cx := .pure 69 sp_order' sp_order'_ok
@[go_sem] theorem ct_order'_g : ct_order'.g = 69 := rfl
@[go_sem] theorem ct_order'_run (c : Call) (fop : Operand) (caps : List RV) (o : Oper) (st : St) (K : List Loc → List (Loc × Cont) → Prop) : ct_order'.run c fop caps o st K = callT Cx sp_order' c fop caps o st K := rfl
@[go_sem] theorem sp_order'_eq (args : List AV) (K : AV → Prop) : sp_order' args K = (match args with
    | [.agg [.r (.rs 5 xs), .r (.rs 2 ys), .r (.rs 1 zs), .r (.v (.int .i64 pa)), .r (.v (.int .i64 rg)), .r (.v (.bool ge)), .r (.rs 1 us), .r (.rs 5 vs)], .r (.v (.int .i64 n)), .agg [.r (.v (.int .i64 op)), .r (.v (.int .i64 a)), .r (.v (.int .i64 b)), .r (.v (.int .i64 c)), .r (.v (.int .i64 li))]] => (((xs = (fnsOf xs).map fnR ∧ ys = (valsOf ys).map valR ∧ zs = (strsOf zs).map strR) ∧ us = (intsOf us).map intR ∧ vs = (inssOf vs).map insR) ∧ Fok ⟨pa, rg, ge, intsOf us, inssOf vs⟩ ∧ Psz ⟨fnsOf xs, valsOf ys, strsOf zs⟩ ∧ ∀ g ∈ fnsOf xs, g.caught.length ≤ 9223372036854775807) ∧ K (Bv (orderF ⟨fnsOf xs, valsOf ys, strsOf zs⟩ ⟨pa, rg, ge, intsOf us, inssOf vs⟩ n ⟨op, a, b, c, li⟩))
    | _ => False) := rfl

end Go.Proofs.YtjbhpoolghfhiaaDoor
