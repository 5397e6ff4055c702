/- The walk's answers, read-only; whether a function is right; whether a program is too large. No condition: contracts of the program's functions. -/
import Derived.Test.YtjbhpoolghfhiaaDoorCd11
namespace Go.Proofs.YtjbhpoolghfhiaaDoor
set_option linter.unusedVariables false
set_option linter.unusedSimpArgs false
set_option maxHeartbeats 10000000
open Go
set_option maxRecDepth 10000



/-- What is handed back together, and that nobody turns any more. -/
theorem FC.freezeT {C : Ctx} {f : Nat} {args : List AV} {rs0 rs1 : List (Nat × Nat × Res)} {xs ys : List AV} (hf : FC C f args rs0 (.tup xs) rs1) {l : List Loc} (hn : ys.length = xs.length) (hb : ∀ (j : Nat) (x y : AV), xs[j]? = some x → ys[j]? = some y → Bor l (stR rs1) x y) : FC C f args rs0 (.tup ys) [] := by
  refine ⟨fun e g w vs hok hs hvs => (hf.run e g w vs hok hs hvs).mono ?_⟩
  rintro x w' ⟨v, g', rfl, hs', hv, _⟩
  have hno : ∀ b, ¬ own (stR []) g' b := fun b ⟨k, hk⟩ => by simp [blk, lookR] at hk
  obtain ⟨f1, _⟩ := hs'.final (rs1 := []) (fun k hk => by simp [domR, lookR] at hk) (fun k => trivial)
  refine ⟨v, g', rfl, f1, ?_, fun k hk => by simp [domR, lookR] at hk⟩
  cases hv with
  | tup _ vs' hs2 hvs' =>
    refine .tup _ vs' (by rw [hn]; exact hs2) fun j y u hy hu => ?_
    have hlt := (List.getElem?_eq_some_iff.1 hy).1
    have hx : xs[j]? = some (xs[j]'(by omega)) := List.getElem?_eq_getElem (by omega)
    exact Bor_ok' (hb j _ y hx hy) hs' (Agree_of.1 (Agree_of.2 fun _ _ => rfl)) (fun k b _ hk hN => hN.elim (hs'.low k b hk).2.2 (hno b)) (fun b hN => hN.elim .inl fun h => absurd h (hno b)) (hvs' j _ u hx hu) _ _

abbrev trsR (l : List (Int × Int)) : List RV := [.rs 2 (l.map tryR)]
abbrev trssV (l : List (List (Int × Int))) : AV := .r (.rs 1 (l.map trsR))
def trssOf (xs : List (List RV)) : List (List (Int × Int)) := xs.map fun r => match r with | [.rs _ l] => triesOf l | _ => []
@[go_sem] theorem trssOf_map (l : List (List (Int × Int))) : trssOf (l.map trsR) = l := by
  unfold trssOf; rw [List.map_map]; conv => rhs; rw [← List.map_id l]
  exact List.map_congr_left fun x _ => triesOf_map x
theorem ro_trs (l : List (List (Int × Int))) : ((l.map trsR).map fun r => r.map AV.r) = l.map trsC := by rw [List.map_map]; rfl
theorem ro_bool (l : List Bool) : ((l.map boolR).map fun r => r.map AV.r) = l.map boolC := by rw [List.map_map]; rfl

theorem Bor.more {l l' : List Loc} {st : St} {x y : AV} (h : Bor l st x y) (hl : ∀ k, k ∈ l → k ∈ l') : Bor l' st x y := h.mono hl

theorem triesR_c (f : FnT) (hc : Cok f) : FC Cx 44 [fnA f] [] (.tup [trssV (walkF f).out, boolsV (walkF f).seen, Bv (!(walkF f).bad)]) [] := by
  refine (tries_c f hc).freezeT (l := [.R 15, .R 11]) rfl fun j x y hx hy => ?_
  match j with
  | 0 =>
    simp at hx hy; subst hx; subst hy
    exact (Bor_sl (rowsR := (walkF f).out.map trsR) (by rw [ro_trs]; rfl)).more fun k hk => by simp at hk; simp [hk]
  | 1 =>
    simp at hx hy; subst hx; subst hy
    exact (Bor_sl (rowsR := (walkF f).seen.map boolR) (by rw [ro_bool]; rfl)).more fun k hk => by simp at hk; simp [hk]
  | 2 => simp at hx hy; subst hx; subst hy; exact .same _ rfl
  | j + 3 => simp at hx
theorem triesR'_c (pa rg : Int) (ge : Bool) (us vs : List (List RV)) (h : (us = (intsOf us).map intR ∧ vs = (inssOf vs).map insR) ∧ Cok ⟨pa, rg, ge, intsOf us, inssOf vs⟩) : FC Cx 44 [.agg [Iv pa, Iv rg, Bv ge, .r (.rs 1 us), .r (.rs 5 vs)]] [] (.tup [trssV (walkF ⟨pa, rg, ge, intsOf us, inssOf vs⟩).out, boolsV (walkF ⟨pa, rg, ge, intsOf us, inssOf vs⟩).seen, Bv (!(walkF ⟨pa, rg, ge, intsOf us, inssOf vs⟩).bad)]) [] := by
  have := triesR_c ⟨pa, rg, ge, intsOf us, inssOf vs⟩ h.2
  rwa [fn_at h.1] at this
/-- How calls of this function are met. -/
def sp_triesR' (args : List AV) (K : AV → Prop) : Prop := match args with
  | [.agg [.r (.v (.int .i64 pa)), .r (.v (.int .i64 rg)), .r (.v (.bool ge)), .r (.rs 1 us), .r (.rs 5 vs)]] => ((us = (intsOf us).map intR ∧ vs = (inssOf vs).map insR) ∧ Cok ⟨pa, rg, ge, intsOf us, inssOf vs⟩) ∧ K (.tup [trssV (walkF ⟨pa, rg, ge, intsOf us, inssOf vs⟩).out, boolsV (walkF ⟨pa, rg, ge, intsOf us, inssOf vs⟩).seen, Bv (!(walkF ⟨pa, rg, ge, intsOf us, inssOf vs⟩).bad)])
  | _ => False
theorem sp_triesR'_ok (args : List AV) (K : AV → Prop) (h : sp_triesR' args K) : ∃ r, CallOk Cx 44 args r ∧ K r := by
  unfold sp_triesR' at h
  split at h
  · exact ⟨_, CallOk_of (triesR'_c _ _ _ _ _ h.1) en44 rfl rfl, h.2⟩
  · exact h.elim
noncomputable def ct_triesR' : Ct Cx := .pure 44 sp_triesR' sp_triesR'_ok
@[go_sem] theorem ct_triesR'_g : ct_triesR'.g = 44 := rfl
@[go_sem] theorem ct_triesR'_run (c : Call) (fop : Operand) (caps : List RV) (o : Oper) (st : St) (K : List Loc → List (Loc × Cont) → Prop) : ct_triesR'.run c fop caps o st K = callT Cx sp_triesR' c fop caps o st K := rfl
@[go_sem] theorem sp_triesR'_eq (args : List AV) (K : AV → Prop) : sp_triesR' args K = (match args with
    | [.agg [.r (.v (.int .i64 pa)), .r (.v (.int .i64 rg)), .r (.v (.bool ge)), .r (.rs 1 us), .r (.rs 5 vs)]] => ((us = (intsOf us).map intR ∧ vs = (inssOf vs).map insR) ∧ Cok ⟨pa, rg, ge, intsOf us, inssOf vs⟩) ∧ K (.tup [trssV (walkF ⟨pa, rg, ge, intsOf us, inssOf vs⟩).out, boolsV (walkF ⟨pa, rg, ge, intsOf us, inssOf vs⟩).seen, Bv (!(walkF ⟨pa, rg, ge, intsOf us, inssOf vs⟩).bad)])
    | _ => False) := rfl

/-- A program of which the sizes are told. -/
structure Pok (p : ProgT) : Prop where
  fns : p.fns.length ≤ 60
  consts : p.consts.length ≤ 200
  texts : p.texts.length ≤ 200
  bytes : ∀ s ∈ p.texts, s.size ≤ 200
  fn : ∀ f ∈ p.fns, f.code.length ≤ 600 ∧ f.regs ≤ 60 ∧ f.caught.length ≤ 9223372036854775807
theorem Pok.sz {p : ProgT} (h : Pok p) : Psz p := ⟨by have := h.fns; omega, by have := h.consts; omega, by have := h.texts; omega⟩
theorem Pok.cau {p : ProgT} (h : Pok p) : ∀ g ∈ p.fns, g.caught.length ≤ 9223372036854775807 := fun g hg => (h.fn g hg).2.2

/-- All orders are right. -/
def ordersF (p : ProgT) (f : FnT) : Bool := (List.range f.code.length).all fun k => orderF p f k (f.code.getD k ins0)
def functionF (p : ProgT) (f : FnT) : Bool :=
  if f.params < 0 ∨ f.regs < 1 ∨ f.regs < f.params then false else if ordersF p f = false then false else !(walkF f).bad

theorem ord_code {p : ProgT} {f : FnT} (hl : f.code.length ≤ 600) (h : ordersF p f = true) : Cok f := by
  have key : ∀ i ∈ f.code, ∃ n : Int, orderF p f n i = true := fun i hi => by
    obtain ⟨k, hk, rfl⟩ := List.getElem_of_mem hi
    refine ⟨k, ?_⟩
    have := List.all_eq_true.1 h k (List.mem_range.2 hk)
    simpa [List.getD, List.getElem?_eq_getElem hk] using this
  have ord : ∀ i ∈ f.code, orderN p f i = true := fun i hi => by
    obtain ⟨n, hn⟩ := key i hi
    unfold orderF at hn
    split at hn
    · cases hn
    · split at hn
      · cases hn
      · rename_i h; simpa using h
  refine ⟨hl, fun i hi ho => ?_, fun i hi ho => ?_⟩
  · have := ord i hi
    simp only [orderN, Bool.and_eq_true] at this
    have h1 := this.1.1.2
    have e : fB i.op 0 = 97 := by rcases ho with h | h <;> rw [h] <;> rfl
    rw [e] at h1
    have : wiF i.a 0 ((f.code.length : Int) - 1) = true := h1
    exact (wiF_iff.1 this).1
  · have := ord i hi
    simp only [orderN, Bool.and_eq_true] at this
    have h1 := this.1.2
    have e : fB i.op 1 = 97 := by rcases ho with h | h <;> rw [h] <;> rfl
    rw [e] at h1
    have : wiF i.b 0 ((f.code.length : Int) - 1) = true := h1
    exact (wiF_iff.1 this).1

theorem function_c (p : ProgT) (f : FnT) (hp : Pok p) (hf : f ∈ p.fns) : FC Cx 51 [progV p, fnA f] [] (Bv (functionF p f)) [] := by
  obtain ⟨hl, hr, hcau⟩ := hp.fn f hf
  have hps := hp.sz
  have hpc := hp.cau
  have l0 : (f.code.map insR).length = f.code.length := List.length_map ..
  unfold functionF
  by_cases hx : f.params < 0 ∨ f.regs < 1 ∨ f.regs < f.params
  · rw [if_pos hx]
    have d0 : (decide (f.params < 0) || decide (f.regs < 1) || decide (f.regs < f.params)) = true := by simp; omega
    refine FCp_of [ct_order', ct_triesR'] Tryd.func51 rfl Tryd.ntmps51 (by simp) Tryd.results51 rfl ?_
    apply Rn_st; (intro K0; simp only [go_sem]; exact ⟨id⟩)
    refine goR (L := []) (n := 0) ?_
    (apply Rn_frzB 2; (exact rfl); (exact rfl); (exact rfl); (intro K0; (try simp only [go_sem]); exact ⟨id⟩))
    (apply Rn_frzB 3; (exact rfl); (exact rfl); (exact rfl); (intro K0; (try simp only [go_sem]); exact ⟨id⟩))
    (any_goals refine go lv51 0 ?_)
    repeat' (first | (refine Br.go (fun h h' => ?_) (fun h h' => ?_)) | (refine Br.mk (fun h => ?_) (fun h => ?_)))
    all_goals (try simp only [go_sem])
  · rw [if_neg hx]
    have fok : Fok f := ⟨hcau, by omega, by omega, hr⟩
    have d1 : decide (f.params < 0) = false := by rw [decide_eq_false_iff_not]; omega
    have d2 : decide (f.regs < 1) = false := by rw [decide_eq_false_iff_not]; omega
    have d3 : decide (f.regs < f.params) = false := by rw [decide_eq_false_iff_not]; omega
    refine FCp_of [ct_order', ct_triesR'] Tryd.func51 rfl Tryd.ntmps51 (by simp) Tryd.results51 rfl ?_
    apply Rn_st; (intro K0; simp only [go_sem]; exact ⟨id⟩)
    refine goR (L := []) (n := 0) ?_
    (apply Rn_frzB 2; (exact rfl); (exact rfl); (exact rfl); (intro K0; (try simp only [go_sem]); exact ⟨id⟩))
    (apply Rn_frzB 3; (exact rfl); (exact rfl); (exact rfl); (intro K0; (try simp only [go_sem]); exact ⟨id⟩))
    (any_goals refine go lv51 0 ?_)
    repeat' (first | (refine Br.go (fun h h' => ?_) (fun h h' => ?_)) | (refine Br.mk (fun h => ?_) (fun h => ?_)))
    refine Rn_loopR [3, 5, 30, 31, 32] (fun i : Nat => i ≤ f.code.length ∧ ∀ j, j < i → orderF p f j (f.code.getD j ins0) = true)
      (fun i => ⟨50, [(3, .r (.rp (fnR f))), (5, .os 5 1), (30, inssV f.code), (31, Iv f.code.length), (32, Iv i)], [(2, 2, .gone), (3, 2, .gone), (5, 1, .bx [fnsV p.fns, valsV p.consts, strsV p.texts, Iv f.params, Iv f.regs, Bv f.gen, intsV f.caught, inssV f.code]), (7, i, .gone)]⟩) (fun i => f.code.length - i) 0 rfl rfl ⟨rfl, .inl ⟨rfl, rfl⟩, rfl, .inl ⟨rfl, rfl⟩, rfl, .inl ⟨rfl, rfl⟩, rfl, rfl, trivial⟩ ⟨Nat.zero_le _, fun j hj => by omega⟩ ?_
    rintro i ⟨hi, hno⟩
    have t1 : Int.toNat (i : Int) = i := by omega
    by_cases hlt : i < f.code.length
    · have e1 : decide ((i : Int) < (f.code.length : Int)) = true := by rw [decide_eq_true_eq]; omega
      obtain ⟨x, hx'⟩ : ∃ x, f.code[i]? = some x := ⟨f.code[i], List.getElem?_eq_getElem hlt⟩
      have hg := getD_map insR hx' ([] : List RV)
      have hgd : f.code.getD i ins0 = x := by simp [List.getD, hx']
      have w1 : IntKind.i64.wrap ((i : Int) + 1) = ((i + 1 : Nat) : Int) := by rw [wrap_id] <;> omega
      cases ho : orderF p f i x with
      | true =>
        (any_goals refine go lv51 0 ?_)
        repeat' (first | (refine Br.go (fun h h' => ?_) (fun h h' => ?_)) | (refine Br.mk (fun h => ?_) (fun h => ?_)))
        all_goals (try simp only [go_sem])
        refine ⟨i + 1, ⟨by omega, fun j hj => ?_⟩, by omega, Le_keepR [3, 5, 30, 31, 32] rfl rfl ⟨rfl, .inl ⟨rfl, rfl⟩, rfl, .inl ⟨rfl, rfl⟩, rfl, .inl ⟨rfl, rfl⟩, rfl, .inr ⟨rfl, Nat.le_refl _⟩, trivial⟩⟩
        rcases Nat.lt_succ_iff_lt_or_eq.1 hj with h3 | h3
        · exact hno j h3
        · subst h3; rw [hgd]; exact ho
      | false =>
        have hF : ordersF p f = false := by
          rw [Bool.eq_false_iff]; intro hall
          have := List.all_eq_true.1 hall i (List.mem_range.2 hlt)
          rw [hgd, ho] at this; cases this
        (any_goals refine go lv51 0 ?_)
        repeat' (first | (refine Br.go (fun h h' => ?_) (fun h h' => ?_)) | (refine Br.mk (fun h => ?_) (fun h => ?_)))
        all_goals (try simp only [go_sem])
        rw [if_pos hF]
    · have e1 : decide ((i : Int) < (f.code.length : Int)) = false := by rw [decide_eq_false_iff_not]; omega
      have hT : ordersF p f = true := List.all_eq_true.2 fun j hj => hno j (by have := List.mem_range.1 hj; omega)
      have hcok := ord_code hl hT
      (any_goals refine go lv51 0 ?_)
      repeat' (first | (refine Br.go (fun h h' => ?_) (fun h h' => ?_)) | (refine Br.mk (fun h => ?_) (fun h => ?_)))
      all_goals (try simp only [go_sem])
      rw [if_neg (by rw [hT]; simp)]
theorem function'_c (xs ys zs : List (List RV)) (pa rg : Int) (ge : Bool) (us vs : List (List RV)) (h : ((xs = (fnsOf xs).map fnR ∧ ys = (valsOf ys).map valR ∧ zs = (strsOf zs).map strR) ∧ us = (intsOf us).map intR ∧ vs = (inssOf vs).map insR) ∧ Pok ⟨fnsOf xs, valsOf ys, strsOf zs⟩ ∧ (⟨pa, rg, ge, intsOf us, inssOf vs⟩ : FnT) ∈ fnsOf xs) : FC Cx 51 [.agg [.r (.rs 5 xs), .r (.rs 2 ys), .r (.rs 1 zs)], .agg [Iv pa, Iv rg, Bv ge, .r (.rs 1 us), .r (.rs 5 vs)]] [] (Bv (functionF ⟨fnsOf xs, valsOf ys, strsOf zs⟩ ⟨pa, rg, ge, intsOf us, inssOf vs⟩)) [] := by
  have := function_c ⟨fnsOf xs, valsOf ys, strsOf zs⟩ ⟨pa, rg, ge, intsOf us, inssOf vs⟩ h.2.1 h.2.2
  rwa [prog_at h.1.1, fn_at h.1.2] at this
/-- How calls of this function are met. -/
def sp_function' (args : List AV) (K : AV → Prop) : Prop := match args with
  | [.agg [.r (.rs 5 xs), .r (.rs 2 ys), .r (.rs 1 zs)], .agg [.r (.v (.int .i64 pa)), .r (.v (.int .i64 rg)), .r (.v (.bool ge)), .r (.rs 1 us), .r (.rs 5 vs)]] => (((xs = (fnsOf xs).map fnR ∧ ys = (valsOf ys).map valR ∧ zs = (strsOf zs).map strR) ∧ us = (intsOf us).map intR ∧ vs = (inssOf vs).map insR) ∧ Pok ⟨fnsOf xs, valsOf ys, strsOf zs⟩ ∧ (⟨pa, rg, ge, intsOf us, inssOf vs⟩ : FnT) ∈ fnsOf xs) ∧ K (Bv (functionF ⟨fnsOf xs, valsOf ys, strsOf zs⟩ ⟨pa, rg, ge, intsOf us, inssOf vs⟩))
  | _ => False
theorem sp_function'_ok (args : List AV) (K : AV → Prop) (h : sp_function' args K) : ∃ r, CallOk Cx 51 args r ∧ K r := by
  unfold sp_function' at h
  split at h
  · exact ⟨_, CallOk_of (function'_c _ _ _ _ _ _ _ _ h.1) en51 rfl rfl, h.2⟩
  · exact h.elim
noncomputable def ct_function' : Ct Cx := .pure 51 sp_function' sp_function'_ok
@[go_sem] theorem ct_function'_g : ct_function'.g = 51 := rfl
@[go_sem] theorem ct_function'_run (c : Call) (fop : Operand) (caps : List RV) (o : Oper) (st : St) (K : List Loc → List (Loc × Cont) → Prop) : ct_function'.run c fop caps o st K = callT Cx sp_function' c fop caps o st K := rfl
@[go_sem] theorem sp_function'_eq (args : List AV) (K : AV → Prop) : sp_function' args K = (match args with
    | [.agg [.r (.rs 5 xs), .r (.rs 2 ys), .r (.rs 1 zs)], .agg [.r (.v (.int .i64 pa)), .r (.v (.int .i64 rg)), .r (.v (.bool ge)), .r (.rs 1 us), .r (.rs 5 vs)]] => (((xs = (fnsOf xs).map fnR ∧ ys = (valsOf ys).map valR ∧ zs = (strsOf zs).map strR) ∧ us = (intsOf us).map intR ∧ vs = (inssOf vs).map insR) ∧ Pok ⟨fnsOf xs, valsOf ys, strsOf zs⟩ ∧ (⟨pa, rg, ge, intsOf us, inssOf vs⟩ : FnT) ∈ fnsOf xs) ∧ K (Bv (functionF ⟨fnsOf xs, valsOf ys, strsOf zs⟩ ⟨pa, rg, ge, intsOf us, inssOf vs⟩))
    | _ => False) := rfl

end Go.Proofs.YtjbhpoolghfhiaaDoor
