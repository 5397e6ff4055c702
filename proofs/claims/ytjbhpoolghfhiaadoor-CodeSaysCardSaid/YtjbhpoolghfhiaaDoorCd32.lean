/- The document's orderRight, whatever is handed in. No condition: contracts of the document's functions. -/
import Derived.Test.YtjbhpoolghfhiaaDoorCd31
namespace Go.Proofs.YtjbhpoolghfhiaaDoor
set_option linter.unusedVariables false
set_option linter.unusedSimpArgs false
set_option maxHeartbeats 10000000
open Go
set_option maxRecDepth 10000



theorem most_wrap {p : ProgT} {f : FnT} (hf : Fok f) (hp : Psz p) (ch : Int) : IntKind.i64.wrap (mostF p f ch - 1) = mostF p f ch - 1 := by
  have h1 := hp.fns; have h2 := hp.consts; have h3 := hp.texts; have h4 := hf.caught; have h5 := hf.code; have hr := hf.regs
  have : 0 ≤ mostF p f ch ∧ mostF p f ch ≤ 9223372036854775807 := by
    unfold mostF
    repeat' split
    all_goals omega
  rw [wrap_id] <;> omega

theorem dnam_split {p : ProgT} {f : FnT} {d x : Int} : dnam p f d x = (!(!decide (0 ≤ x ∧ x ≤ mostF p f d - 1)) && !(decide (d = 102) && decide (x = 0))) := by
  unfold dnam; rw [Bool.not_not]

theorem oright0_c (p : ProgT) (f : FnT) (n op a b c line : Int) (hf : Fok f) (hp : Psz p) (hcau : ∀ g ∈ p.fns, g.caught.length ≤ 9223372036854775807) :
    FC Cx 52 [progV p, fnA f, Iv n, insA ⟨op, a, b, c, line⟩] [] (Bv (dorderF p f n ⟨op, a, b, c, line⟩)) [] := by
  have wm := most_wrap (p := p) hf hp
  have hr := hf.regs
  unfold dorderF
  simp only [dnam_split]
  cases hE : (decide (dformF op = ⟨#[]⟩) || !decide (0 ≤ line ∧ line ≤ 2000)) with
  | true => rw [if_pos rfl]; exact or0_c p f n op a b c line hf hp hE
  | false =>
    rw [if_neg (by simp)]
    have hop : ¬ (op < 1 ∨ 39 ≤ op) := by
      have h1 := hE
      simp only [Bool.or_eq_false_iff] at h1
      rw [dform_none] at h1
      simpa using h1.1
    have hs := dformF_size hop
    cases k0 : (!decide (0 ≤ a ∧ a ≤ mostF p f (dB op 0) - 1)) with
    | true => exact orK0_c p f n op a b c line hf hp hE hs wm k0
    | false =>
    cases m0 : (decide (dB op 0 = 102) && decide (a = 0)) with
    | true => exact orM0_c p f n op a b c line hf hp hE hs wm k0 m0
    | false =>
    cases k1 : (!decide (0 ≤ b ∧ b ≤ mostF p f (dB op 1) - 1)) with
    | true => exact orK1_c p f n op a b c line hf hp hE hs wm k0 m0 k1
    | false =>
    cases m1 : (decide (dB op 1 = 102) && decide (b = 0)) with
    | true => exact orM1_c p f n op a b c line hf hp hE hs wm k0 m0 k1 m1
    | false =>
    cases k2 : (!decide (0 ≤ c ∧ c ≤ mostF p f (dB op 2) - 1)) with
    | true => exact orK2_c p f n op a b c line hf hp hE hs wm k0 m0 k1 m1 k2
    | false =>
    cases m2 : (decide (dB op 2 = 102) && decide (c = 0)) with
    | true => exact orM2_c p f n op a b c line hf hp hE hs wm k0 m0 k1 m1 k2 m2
    | false =>
    rw [if_neg (by decide)]
    have q1 : 0 ≤ b ∧ b ≤ mostF p f (dB op 1) - 1 := by simpa using k1
    have q2 : 0 ≤ c ∧ c ≤ mostF p f (dB op 2) - 1 := by simpa using k2
    cases o1 : decide (op = 14) with
    | true => rw [if_pos (by simpa using o1)]; exact or14_c p f n op a b c line hf hp hE hs wm k0 m0 k1 m1 k2 m2 o1
    | false =>
    rw [if_neg (by simpa using o1)]
    cases o2 : decide (op = 19) with
    | true =>
      have e : op = 19 := by simpa using o2
      rw [if_pos e]
      have e1 : mostF p f (dB op 1) = f.regs + 1 := by rw [e]; rfl
      have e2 : mostF p f (dB op 2) = f.regs + 1 := by rw [e]; rfl
      rw [e1] at q1; rw [e2] at q2
      exact or19_c p f n op a b c line hf hp hE hs wm k0 m0 k1 m1 k2 m2 o1 o2 (by rw [wrap_id] <;> omega)
    | false =>
    rw [if_neg (by simpa using o2)]
    cases o3 : decide (op = 27) with
    | true =>
      have e : op = 27 := by simpa using o3
      rw [if_pos e]
      have e1 : mostF p f (dB op 1) = f.regs := by rw [e]; rfl
      have e2 : mostF p f (dB op 2) = f.regs + 1 := by rw [e]; rfl
      rw [e1] at q1; rw [e2] at q2
      exact or27_c p f n op a b c line hf hp hE hs wm k0 m0 k1 m1 k2 m2 o1 o2 o3 (by rw [wrap_id] <;> omega)
    | false =>
    rw [if_neg (by simpa using o3)]
    cases o4 : decide (op = 32) with
    | true => rw [if_pos (by simpa using o4)]; exact or32_c p f n op a b c line hf hp hE hs wm k0 m0 k1 m1 k2 m2 o1 o2 o3 o4
    | false =>
    rw [if_neg (by simpa using o4)]
    cases o5 : decide (op = 26) with
    | true =>
      have e : op = 26 := by simpa using o5
      rw [if_pos e]
      have e1 : mostF p f (dB op 1) = (p.fns.length : Int) := by rw [e]; rfl
      rw [e1] at q1
      have hlt : b.toNat < p.fns.length := by omega
      have hg : p.fns[b.toNat]? = some p.fns[b.toNat] := List.getElem?_eq_getElem hlt
      have hgd : p.fns.getD b.toNat fn0 = p.fns[b.toNat] := by simp [List.getD, hg]
      rw [hgd]
      exact or26_c p f n op a b c line hf hp hE hs wm k0 m0 k1 m1 k2 m2 o1 o2 o3 o4 o5 _ hg q1.1 (hcau _ (List.getElem_mem hlt))
    | false =>
      rw [if_neg (by simpa using o5)]
      exact orX_c p f n op a b c line hf hp hE hs wm k0 m0 k1 m1 k2 m2 o1 o2 o3 o4 o5

theorem oright_c (p : ProgT) (f : FnT) (n : Int) (i : InsT) (hf : Fok f) (hp : Psz p) (hcau : ∀ g ∈ p.fns, g.caught.length ≤ 9223372036854775807) :
    FC Cx 52 [progV p, fnA f, Iv n, insA i] [] (Bv (orderF p f n i)) [] := by
  rw [← dorder_eq p f n i (by have := hf.regs; omega)]
  exact oright0_c p f n i.op i.a i.b i.c i.line hf hp hcau

/-- What the program's functions have caught is not too much to count. -/
def Cau (p : ProgT) : Prop := ∀ g ∈ p.fns, g.caught.length ≤ 9223372036854775807
theorem oright'_c (xs ys zs : List (List RV)) (pa rg : Int) (ge : Bool) (us vs : List (List RV)) (n op a b c line : Int) (h : ((xs = (fnsOf xs).map fnR ∧ ys = (valsOf ys).map valR ∧ zs = (strsOf zs).map strR) ∧ us = (intsOf us).map intR ∧ vs = (inssOf vs).map insR) ∧ Fok ⟨pa, rg, ge, intsOf us, inssOf vs⟩ ∧ Psz ⟨fnsOf xs, valsOf ys, strsOf zs⟩ ∧ Cau ⟨fnsOf xs, valsOf ys, strsOf zs⟩) : FC Cx 52 [.agg [.r (.rs 5 xs), .r (.rs 2 ys), .r (.rs 1 zs)], .agg [Iv pa, Iv rg, Bv ge, .r (.rs 1 us), .r (.rs 5 vs)], Iv n, .agg [Iv op, Iv a, Iv b, Iv c, Iv line]] [] (Bv (orderF ⟨fnsOf xs, valsOf ys, strsOf zs⟩ ⟨pa, rg, ge, intsOf us, inssOf vs⟩ n ⟨op, a, b, c, line⟩)) [] := by
  have := oright_c ⟨fnsOf xs, valsOf ys, strsOf zs⟩ ⟨pa, rg, ge, intsOf us, inssOf vs⟩ n ⟨op, a, b, c, line⟩ h.2.1 h.2.2.1 h.2.2.2
  rwa [prog_at h.1.1, fn_at h.1.2] at this
/-- How calls of this function are met. -/
def sp_oright' (args : List AV) (K : AV → Prop) : Prop := match args with
  | [.agg [.r (.rs 5 xs), .r (.rs 2 ys), .r (.rs 1 zs)], .agg [.r (.v (.int .i64 pa)), .r (.v (.int .i64 rg)), .r (.v (.bool ge)), .r (.rs 1 us), .r (.rs 5 vs)], .r (.v (.int .i64 n)), .agg [.r (.v (.int .i64 op)), .r (.v (.int .i64 a)), .r (.v (.int .i64 b)), .r (.v (.int .i64 c)), .r (.v (.int .i64 line))]] => (((xs = (fnsOf xs).map fnR ∧ ys = (valsOf ys).map valR ∧ zs = (strsOf zs).map strR) ∧ us = (intsOf us).map intR ∧ vs = (inssOf vs).map insR) ∧ Fok ⟨pa, rg, ge, intsOf us, inssOf vs⟩ ∧ Psz ⟨fnsOf xs, valsOf ys, strsOf zs⟩ ∧ Cau ⟨fnsOf xs, valsOf ys, strsOf zs⟩) ∧ K (Bv (orderF ⟨fnsOf xs, valsOf ys, strsOf zs⟩ ⟨pa, rg, ge, intsOf us, inssOf vs⟩ n ⟨op, a, b, c, line⟩))
  | _ => False
theorem sp_oright'_ok (args : List AV) (K : AV → Prop) (h : sp_oright' args K) : ∃ r, CallOk Cx 52 args r ∧ K r := by
  unfold sp_oright' at h
  split at h
  · exact ⟨_, CallOk_of (oright'_c _ _ _ _ _ _ _ _ _ _ _ _ _ _ h.1) en52 rfl rfl, h.2⟩
  · exact h.elim
noncomputable def ct_oright' : Ct Cx := .pure 52 sp_oright' sp_oright'_ok
@[go_sem] theorem ct_oright'_g : ct_oright'.g = 52 := rfl
@[go_sem] theorem ct_oright'_run (c : Call) (fop : Operand) (caps : List RV) (o : Oper) (st : St) (K : List Loc → List (Loc × Cont) → Prop) : ct_oright'.run c fop caps o st K = callT Cx sp_oright' c fop caps o st K := rfl
@[go_sem] theorem sp_oright'_eq (args : List AV) (K : AV → Prop) : sp_oright' args K = (match args with
    | [.agg [.r (.rs 5 xs), .r (.rs 2 ys), .r (.rs 1 zs)], .agg [.r (.v (.int .i64 pa)), .r (.v (.int .i64 rg)), .r (.v (.bool ge)), .r (.rs 1 us), .r (.rs 5 vs)], .r (.v (.int .i64 n)), .agg [.r (.v (.int .i64 op)), .r (.v (.int .i64 a)), .r (.v (.int .i64 b)), .r (.v (.int .i64 c)), .r (.v (.int .i64 line))]] => (((xs = (fnsOf xs).map fnR ∧ ys = (valsOf ys).map valR ∧ zs = (strsOf zs).map strR) ∧ us = (intsOf us).map intR ∧ vs = (inssOf vs).map insR) ∧ Fok ⟨pa, rg, ge, intsOf us, inssOf vs⟩ ∧ Psz ⟨fnsOf xs, valsOf ys, strsOf zs⟩ ∧ Cau ⟨fnsOf xs, valsOf ys, strsOf zs⟩) ∧ K (Bv (orderF ⟨fnsOf xs, valsOf ys, strsOf zs⟩ ⟨pa, rg, ge, intsOf us, inssOf vs⟩ n ⟨op, a, b, c, line⟩))
    | _ => False) := rfl

end Go.Proofs.YtjbhpoolghfhiaaDoor
