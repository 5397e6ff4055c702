/- The document's FrameRight, CanGo. No condition: contracts of the document's functions. -/
import Derived.Test.YtbhnmolmkembdaaGreatDoorQ6
import Derived.Test.YtbhnmolmkembdaaGreatDoorQ4
import Derived.Test.YtbhnmolmkembdaaGreatDoorQ5
namespace Go.Proofs.YtbhnmolmkembdaaGreatDoor
set_option linter.unusedVariables false
set_option linter.unusedSimpArgs false
set_option maxHeartbeats 10000000
open Go
set_option maxRecDepth 10000
theorem all_take_no {l : List (Int × Int)} {q : Int × Int → Bool} {i : Nat} {x : Int × Int} (hx : l[i]? = some x) (h : q x = false) : l.all q = false := by
  rw [List.all_eq_false]; exact ⟨x, List.mem_of_getElem? hx, by rw [h]; simp⟩
theorem all_take_yes {l : List (Int × Int)} {q : Int × Int → Bool} (h : ∀ j x, j < l.length → l[j]? = some x → q x = true) : l.all q = true :=
  List.all_eq_true.2 fun x hx => by
    obtain ⟨j, hj⟩ := List.mem_iff_getElem?.1 hx
    exact h j x (List.getElem?_eq_some_iff.1 hj).1 hj
theorem frameRight_c (p : ProgT) (s : StateT) (f : FrameT) (hp : Pgo p) (hf : Gwf f) (hsl : s.cells.length ≤ 9223372036854775807) : FC Cx 80 [progV p, stateV s, frameA f] [] (Bv (frameF p s f)) [] := by
  have l0 : (p.fns.map fnR).length = p.fns.length := List.length_map ..
  have l1 : (f.regs.map valR).length = f.regs.length := List.length_map ..
  have lc : (s.cells.map cellR).length = s.cells.length := List.length_map ..
  have h60 := hp.fns
  have w1 : IntKind.i64.wrap ((p.fns.length : Int) - 1) = (p.fns.length : Int) - 1 := by rw [wrap_id] <;> omega
  have lt : (f.tries.map tryR).length = f.tries.length := List.length_map ..
  have ht := hf.tries
  have hreg := hf.regs
  unfold frameF
  obtain ⟨fn, pc, tov, gen, ⟨sk, sn⟩, regs, tries⟩ := f
  dsimp only at *
  cases hfn : decide (0 ≤ fn ∧ fn ≤ (p.fns.length : Int) - 1) with
  | false =>
    simp only [Bool.false_and]
    refine FCp_st [ct_rBetween, ct_rkind', ct_known2', ct_same'] Tryz.func80 Tryz.ntmps80 Tryz.results80 ?_
    refine goR ?_
    refine fzB 3 ?_
    refine fzB 4 ?_
    refine fzB 5 ?_
    (any_goals refine go lv80 0 ?_)
    all_goals (try simp only [go_sem])
  | true =>
  have hfn' : 0 ≤ fn ∧ fn ≤ (p.fns.length : Int) - 1 := by simpa using hfn
  obtain ⟨F, hF⟩ : ∃ F, p.fns[fn.toNat]? = some F := ⟨p.fns[fn.toNat]'(by omega), List.getElem?_eq_getElem _⟩
  have gF := getD_map fnR hF ([] : List RV)
  have eFn : p.fns.getD fn.toNat fn0 = F := by simp [List.getD, hF]
  rw [eFn]
  have hm := List.mem_of_getElem? hF
  have hcok := hp.cok F hm
  have hbad := hp.go F hm
  have h0 := (walk_first hcok hbad).hi
  have h00 : 0 < F.code.length := by omega
  have hkl := kn2_len hcok h00
  have h600 := hcok.len
  have lcd : (F.code.map insR).length = F.code.length := List.length_map ..
  have w2 : IntKind.i64.wrap ((F.code.length : Int) - 1) = (F.code.length : Int) - 1 := by rw [wrap_id] <;> omega
  clear h0
  cases hre : refF s (sk, sn) 4 with
  | false =>
    simp only [Bool.and_false, Bool.false_and]
    refine FCp_st [ct_rBetween, ct_rkind', ct_known2', ct_same'] Tryz.func80 Tryz.ntmps80 Tryz.results80 ?_
    refine goR ?_
    refine fzB 3 ?_
    refine fzB 4 ?_
    refine fzB 5 ?_
    (any_goals refine go lv80 0 ?_)
    all_goals (try simp only [go_sem])
  | true =>
  have hr2 := hre
  unfold refF at hr2
  simp only [Bool.and_eq_true, decide_eq_true_eq] at hr2
  obtain ⟨⟨⟨hsk, n0⟩, n1⟩, hkk⟩ := hr2
  clear hsk hkk
  obtain ⟨c, hc⟩ : ∃ c, s.cells[sn.toNat]? = some c := ⟨s.cells[sn.toNat]'(by omega), List.getElem?_eq_getElem _⟩
  have gC := getD_map cellR hc ([] : List RV)
  rw [kind_at hc]
  cases hnum : decide (c.num = fn) with
  | false =>
    simp only [Bool.and_false, Bool.false_and]
    refine FCp_st [ct_rBetween, ct_rkind', ct_known2', ct_same'] Tryz.func80 Tryz.ntmps80 Tryz.results80 ?_
    refine goR ?_
    refine fzB 3 ?_
    refine fzB 4 ?_
    refine fzB 5 ?_
    (any_goals refine go lv80 0 ?_)
    all_goals (try simp only [go_sem])
  | true =>
  cases hre2 : decide ((regs.length : Int) = F.regs) with
  | false =>
    simp only [Bool.and_false, Bool.false_and]
    refine FCp_st [ct_rBetween, ct_rkind', ct_known2', ct_same'] Tryz.func80 Tryz.ntmps80 Tryz.results80 ?_
    refine goR ?_
    refine fzB 3 ?_
    refine fzB 4 ?_
    refine fzB 5 ?_
    (any_goals refine go lv80 0 ?_)
    all_goals (try simp only [go_sem])
  | true =>
  cases hpc : decide (0 ≤ pc ∧ pc ≤ (F.code.length : Int) - 1) with
  | false =>
    simp only [Bool.and_false, Bool.false_and]
    refine FCp_st [ct_rBetween, ct_rkind', ct_known2', ct_same'] Tryz.func80 Tryz.ntmps80 Tryz.results80 ?_
    refine goR ?_
    refine fzB 3 ?_
    refine fzB 4 ?_
    refine fzB 5 ?_
    (any_goals refine go lv80 0 ?_)
    all_goals (try simp only [go_sem])
  | true =>
  have hpc' : 0 ≤ pc ∧ pc ≤ (F.code.length : Int) - 1 := by simpa using hpc
  have hkn := kn2_at hcok hbad (k := pc.toNat) (by omega)
  obtain ⟨b, hbi⟩ : ∃ b, (walkF F).seen.getD pc.toNat false = b := ⟨_, rfl⟩
  obtain ⟨o, hoi⟩ : ∃ b, (walkF F).out.getD pc.toNat [] = b := ⟨_, rfl⟩
  rw [hbi, hoi] at hkn
  rw [hbi, hoi]
  clear hbi hoi
  cases b with
  | false =>
    simp only [Bool.and_false, Bool.false_and]
    refine FCp_st [ct_rBetween, ct_rkind', ct_known2', ct_same'] Tryz.func80 Tryz.ntmps80 Tryz.results80 ?_
    refine goR ?_
    refine fzB 3 ?_
    refine fzB 4 ?_
    refine fzB 5 ?_
    (any_goals refine go lv80 0 ?_)
    all_goals (try simp only [go_sem])
  | true =>
  cases hto : decide (tries = o) with
  | false =>
    simp only [Bool.and_false, Bool.false_and]
    refine FCp_st [ct_rBetween, ct_rkind', ct_known2', ct_same'] Tryz.func80 Tryz.ntmps80 Tryz.results80 ?_
    refine goR ?_
    refine fzB 3 ?_
    refine fzB 4 ?_
    refine fzB 5 ?_
    (any_goals refine go lv80 0 ?_)
    all_goals (try simp only [go_sem])
  | true =>
  simp only [Bool.true_and]
  refine FCp_st [ct_rBetween, ct_rkind', ct_known2', ct_same', ct_rfits'] Tryz.func80 Tryz.ntmps80 Tryz.results80 ?_
  refine goR ?_
  refine fzB 3 ?_
  refine fzB 4 ?_
  refine fzB 5 ?_
  (any_goals refine go lv80 0 ?_)
  refine Rn_loopS (fun x : Nat × Nat => x.1 ≤ regs.length ∧ ∀ j v, j < x.1 → regs[j]? = some v → fitsF s v = true) (fun x => ⟨100, [(4, stateP s), (89, valsV regs), (90, Iv regs.length), (91, Iv x.1)], [(3, 2, .gone), (4, 2, .gone), (5, 2, .gone), (7, 1, .gone), (11, x.2, .gone)]⟩) (fun x => regs.length - x.1) (0, 0) ⟨Nat.zero_le _, fun j v hj => by omega⟩ ?_
  rintro ⟨i, u⟩ ⟨hi, hno⟩
  dsimp only at hi hno ⊢
  by_cases hlt : i < regs.length
  case neg =>
    obtain rfl : i = regs.length := by omega
    have e1 := each_end regs
    rw [all_take_yes fun j x hj hx => hno j x hj hx]
    clear hno
    (any_goals refine go lv80 0 ?_)
    all_goals (try simp only [go_sem])
  obtain ⟨v, hx, hg, h1, h2, hw⟩ := each_at valR regs hlt hreg
  rcases Bool.eq_false_or_eq_true (fitsF s v) with hv | hv
  · have nx : ∀ j v, j < i + 1 → regs[j]? = some v → fitsF s v = true := fun j v' hj hv' => by
      rcases Nat.lt_succ_iff_lt_or_eq.1 hj with h3 | h3
      · exact hno j v' h3 hv'
      · subst h3; rw [hx] at hv'; cases hv'; exact hv
    clear hno
    (any_goals refine go lv80 0 ?_)
    refine ⟨(i + 1, u + 9), ⟨by dsimp only; omega, nx⟩, by dsimp only; omega, ?_⟩
    dsimp only
    exact Le_subA
  · rw [all_take_no hx hv]
    clear hno
    (any_goals refine go lv80 0 ?_)
    all_goals (try simp only [go_sem])
theorem frameRight'_c (xs ys zs : List (List RV)) (ca sh tx th en sd : List (List RV)) (aq sq : Int) (f1 f2 f3 f4 f5 f6 : Int) (us vs : List (List RV)) (h : (((xs = (fnsOf xs).map fnR ∧ ys = (valsOf ys).map valR ∧ zs = (strsOf zs).map strR) ∧ ca = (cellsOf ca).map cellR ∧ sh = (valsOf sh).map valR ∧ tx = (strsOf tx).map strR ∧ th = (threadsOf th).map threadR ∧ en = (endsOf en).map endR ∧ sd = (valsOf sd).map valR) ∧ us = (valsOf us).map valR ∧ vs = (triesOf vs).map tryR) ∧ Pgo ⟨fnsOf xs, valsOf ys, strsOf zs⟩ ∧ Gwf ⟨f1, f2, f3, f4, (f5, f6), valsOf us, triesOf vs⟩ ∧ (cellsOf ca).length ≤ 9223372036854775807) : FC Cx 80 [.agg [.r (.rs 5 xs), .r (.rs 2 ys), .r (.rs 1 zs)], .agg [.r (.rs 4 ca), .r (.rs 2 sh), .r (.rs 1 tx), .r (.rs 5 th), .r (.rs 3 en), .r (.rs 2 sd), Iv aq, Iv sq], .agg [Iv f1, Iv f2, Iv f3, Iv f4, Iv f5, Iv f6, .r (.rs 2 us), .r (.rs 2 vs)]] [] (Bv (frameF ⟨fnsOf xs, valsOf ys, strsOf zs⟩ ⟨cellsOf ca, valsOf sh, strsOf tx, threadsOf th, endsOf en, valsOf sd, aq, sq⟩ ⟨f1, f2, f3, f4, (f5, f6), valsOf us, triesOf vs⟩)) [] := by
  have := frameRight_c ⟨fnsOf xs, valsOf ys, strsOf zs⟩ ⟨cellsOf ca, valsOf sh, strsOf tx, threadsOf th, endsOf en, valsOf sd, aq, sq⟩ ⟨f1, f2, f3, f4, (f5, f6), valsOf us, triesOf vs⟩ h.2.1 h.2.2.1 h.2.2.2
  rwa [prog_at h.1.1.1, state_at _ _ _ _ _ _ _ _ h.1.1.2, show frameA ⟨f1, f2, f3, f4, (f5, f6), valsOf us, triesOf vs⟩ = .agg [Iv f1, Iv f2, Iv f3, Iv f4, Iv f5, Iv f6, .r (.rs 2 us), .r (.rs 2 vs)] from by
    show AV.agg [Iv f1, Iv f2, Iv f3, Iv f4, Iv f5, Iv f6, valsV (valsOf us), triesV (triesOf vs)] = _
    rw [valsOf_at h.1.2.1, triesOf_at h.1.2.2]] at this
def sp_frameRight' (args : List AV) (K : AV → Prop) : Prop := match args with
  | [.agg [.r (.rs 5 xs), .r (.rs 2 ys), .r (.rs 1 zs)], .agg [.r (.rs 4 ca), .r (.rs 2 sh), .r (.rs 1 tx), .r (.rs 5 th), .r (.rs 3 en), .r (.rs 2 sd), .r (.v (.int .i64 aq)), .r (.v (.int .i64 sq))], .agg [.r (.v (.int .i64 f1)), .r (.v (.int .i64 f2)), .r (.v (.int .i64 f3)), .r (.v (.int .i64 f4)), .r (.v (.int .i64 f5)), .r (.v (.int .i64 f6)), .r (.rs 2 us), .r (.rs 2 vs)]] => ((((xs = (fnsOf xs).map fnR ∧ ys = (valsOf ys).map valR ∧ zs = (strsOf zs).map strR) ∧ ca = (cellsOf ca).map cellR ∧ sh = (valsOf sh).map valR ∧ tx = (strsOf tx).map strR ∧ th = (threadsOf th).map threadR ∧ en = (endsOf en).map endR ∧ sd = (valsOf sd).map valR) ∧ us = (valsOf us).map valR ∧ vs = (triesOf vs).map tryR) ∧ Pgo ⟨fnsOf xs, valsOf ys, strsOf zs⟩ ∧ Gwf ⟨f1, f2, f3, f4, (f5, f6), valsOf us, triesOf vs⟩ ∧ (cellsOf ca).length ≤ 9223372036854775807) ∧ K (Bv (frameF ⟨fnsOf xs, valsOf ys, strsOf zs⟩ ⟨cellsOf ca, valsOf sh, strsOf tx, threadsOf th, endsOf en, valsOf sd, aq, sq⟩ ⟨f1, f2, f3, f4, (f5, f6), valsOf us, triesOf vs⟩))
  | _ => False
theorem sp_frameRight'_ok (args : List AV) (K : AV → Prop) (h : sp_frameRight' args K) : ∃ r, CallOk Cx 80 args r ∧ K r := by
  unfold sp_frameRight' at h
  split at h
  · exact ⟨_, CallOk_of (frameRight'_c _ _ _ _ _ _ _ _ _ _ _ _ _ _ _ _ _ _ _ h.1) en80 rfl rfl, h.2⟩
  · exact h.elim
noncomputable abbrev ct_frameRight' : Ct Cx := .pure 80 sp_frameRight' sp_frameRight'_ok
@[go_sem] theorem sp_frameRight'_eq : type_of% @sp_frameRight'.eq_def := @sp_frameRight'.eq_def
end Go.Proofs.YtbhnmolmkembdaaGreatDoor
namespace Go.Proofs.YtbhnmolmkembdaaGreatDoor.Sh
set_option linter.unusedVariables false
set_option linter.unusedSimpArgs false
set_option maxHeartbeats 10000000
open Go
set_option maxRecDepth 10000
theorem namesL_rootB (l : List (Int × Int)) (s : Int) (h : s ≤ 0) : namesL l s = [] := by
  unfold namesL
  cases l.length with
  | zero => rfl
  | succ n => unfold namesR; rw [if_neg (by omega)]; rfl
theorem between_c (n lo hi : Int) : FC Cx 34 [Iv n, Iv lo, Iv hi] [] (Bv (decide (lo ≤ n) && decide (n ≤ hi))) [] := by
  refine FCp_st [] Tryz.func34 Tryz.ntmps34 Tryz.results34 ?_
  (any_goals refine go lv34 0 ?_)
  all_goals (try simp only [go_sem])
def sp_between (args : List AV) (K : AV → Prop) : Prop := match args with
  | [.r (.v (.int .i64 n)), .r (.v (.int .i64 lo)), .r (.v (.int .i64 hi))] => K (Bv (decide (lo ≤ n) && decide (n ≤ hi)))
  | _ => False
theorem sp_between_ok (args : List AV) (K : AV → Prop) (h : sp_between args K) : ∃ r, CallOk Cx 34 args r ∧ K r := by
  unfold sp_between at h
  split at h
  · exact ⟨_, CallOk_of (between_c _ _ _) en34 rfl rfl, h⟩
  · exact h.elim
noncomputable abbrev ct_between : Ct Cx := .pure 34 sp_between sp_between_ok
@[go_sem] theorem sp_between_eq : type_of% @sp_between.eq_def := @sp_between.eq_def
theorem hasI_1 (l : List Int) (n : Int) (hl : l.length ≤ 1000000000) : FC Cx 81 [intsV l, Iv n] [] (Bv (decide (n ∈ l))) [] := by
  have hlen : (l.map intR).length = l.length := List.length_map ..
  refine FCp_st [] Tryz.func81 Tryz.ntmps81 Tryz.results81 ?_
  (any_goals refine go lv81 0 ?_)
  refine Rn_loopT [1, 7, 8, 9] (fun i => i ≤ l.length ∧ ∀ j, j < i → l[j]? ≠ some n) (fun (i : Nat) => ⟨17, [(1, Iv n), (7, intsV l), (8, Iv l.length), (9, Iv i)], []⟩) (fun i => l.length - i) 0 rfl rfl rfl ⟨Nat.zero_le _, fun j hj => by omega⟩ ?_
  rintro i ⟨hi, hno⟩
  by_cases hlt : i < l.length
  · obtain ⟨x, hx⟩ : ∃ x, l[i]? = some x := ⟨l[i], List.getElem?_eq_getElem hlt⟩
    have hg := getD_map intR hx ([] : List RV)
    have hw : IntKind.i64.wrap ((i : Int) + 1) = ((i + 1 : Nat) : Int) := by rw [wrap_id] <;> omega
    have h1 : decide ((i : Int) < (l.length : Int)) = true := by simpa using hlt
    have h2 : Int.toNat (i : Int) = i := by omega
    by_cases h0 : x = n
    · have d0 : decide (x = n) = true := by simpa using h0
      have : decide (n ∈ l) = true := by rw [decide_eq_true_eq, ← h0]; exact List.mem_of_getElem? hx
      (any_goals refine go lv81 0 ?_)
      all_goals (try simp only [go_sem])
      rw [this]
    · have d0 : decide (x = n) = false := by simpa using h0
      (any_goals refine go lv81 0 ?_)
      refine ⟨i + 1, ⟨by omega, fun j hj => ?_⟩, by omega, Le_keep [1, 7, 8, 9] rfl rfl rfl⟩
      rcases Nat.lt_succ_iff_lt_or_eq.1 hj with h3 | h3
      · exact hno j h3
      · rw [h3, hx]; exact fun h4 => h0 (Option.some.inj h4)
  · have h1 : decide ((i : Int) < (l.length : Int)) = false := by simpa using hlt
    have : decide (n ∈ l) = false := by
      rw [decide_eq_false_iff_not]; intro h
      obtain ⟨j, hj⟩ := List.getElem?_of_mem h
      exact hno j (by have := (List.getElem?_eq_some_iff.1 hj).1; omega) hj
    (any_goals refine go lv81 0 ?_)
    all_goals (try simp only [go_sem])
    rw [this]
theorem hasI_c (xs : List (List RV)) (n : Int) (h : xs = (intsOf xs).map intR ∧ xs.length ≤ 1000000000) : FC Cx 81 [.r (.rs 1 xs), Iv n] [] (Bv (decide (n ∈ intsOf xs))) [] := by
  have := hasI_1 (intsOf xs) n (by simpa [intsOf] using h.2)
  rwa [ints_at h.1] at this
def sp_hasI (args : List AV) (K : AV → Prop) : Prop := match args with
  | [.r (.rs 1 xs), .r (.v (.int .i64 n))] => (xs = (intsOf xs).map intR ∧ xs.length ≤ 1000000000) ∧ K (Bv (decide (n ∈ intsOf xs)))
  | _ => False
theorem sp_hasI_ok (args : List AV) (K : AV → Prop) (h : sp_hasI args K) : ∃ r, CallOk Cx 81 args r ∧ K r := by
  unfold sp_hasI at h
  split at h
  · exact ⟨_, CallOk_of (hasI_c _ _ h.1) en81 rfl rfl, h.2⟩
  · exact h.elim
noncomputable abbrev ct_hasI : Ct Cx := .pure 81 sp_hasI sp_hasI_ok
@[go_sem] theorem sp_hasI_eq : type_of% @sp_hasI.eq_def := @sp_hasI.eq_def
def sp_refN (l : List (Int × Int)) (n : Nat) (st : St) (d : Nat) (args : List AV) (K : AV → List Loc → List (Loc × Cont) → Prop) : Prop := match args with
  | [.r (.rs 2 xs), .r (.v (.int .i64 z))] => (xs = l.map shapeR ∧ z.toNat ≤ n ∧ z < l.length) ∧ K (ren (fun _ => d) (fun _ => st.cur d) (.os 0 1)) [.R d] [(.R d, .s (1 + st.cur d) (.sl 3 1 ((namesL l z).map intA)))]
  | _ => False
@[go_sem] theorem sp_refN_eq (l : List (Int × Int)) (n : Nat) (st : St) (d : Nat) (args : List AV) (K : AV → List Loc → List (Loc × Cont) → Prop) : sp_refN l n st d args K = (match args with
    | [.r (.rs 2 xs), .r (.v (.int .i64 z))] => (xs = l.map shapeR ∧ z.toNat ≤ n ∧ z < l.length) ∧ K (ren (fun _ => d) (fun _ => st.cur d) (.os 0 1)) [.R d] [(.R d, .s (1 + st.cur d) (.sl 3 1 ((namesL l z).map intA)))]
    | _ => False) := rfl
theorem refN_0 (l : List (Int × Int)) (s : Int) (d0 : decide (s ≤ 0) = true) : FC Cx 178 [shapesV l, Iv s] [] (.os 0 1) [(0, 1, .sl 3 1 (([] : List Int).map intA))] := by
  refine FCo_of [] (i := 0) [.os 0 1] Tryz.func178 rfl Tryz.ntmps178 (by simp) Tryz.results178 (flatI _) ?_
  apply Rn_st; (intro K0; simp only [go_sem]; exact ⟨id⟩)
  (any_goals refine go lv178 0 ?_)
  all_goals (try simp only [go_sem])
theorem refN_1 (l : List (Int × Int)) (n k : Nat) (p : Int × Int) (hp : l[k + 1]? = some p) (hl : l.length ≤ 1000) (hk : p.1.toNat ≤ n) (hk2 : p.1 < l.length) (ct : Ct Cx) (hg : ct.g = 178) (hr : ∀ c fop caps o st K, ct.run c fop caps o st K = callG (sp_refN l n) c fop caps o st K) (hN : (namesL l p.1).length ≤ l.length) (d0 : decide (((k + 1 : Nat) : Int) ≤ 0) = false)
    (hlenA : ∀ l : List Int, (l.map intA).length = l.length) (hlenS : (l.map shapeR).length = l.length) (hcat : ∀ (l : List Int) (n : Int), l.map intA ++ [[Iv n]] = (l ++ [n]).map intA) (ht : Int.toNat ((k + 1 : Nat) : Int) = k + 1) (hg1 : (l.map shapeR).getD (k + 1) [] = shapeR p) (hkl : k + 1 < l.length) :
    FC Cx 178 [shapesV l, Iv ((k + 1 : Nat) : Int)] [] (.os 0 1) [(0, 1, .sl 3 1 ((namesL l p.1 ++ [p.2]).map intA))] := by
  refine FCo_of [ct] (i := 0) [.os 0 1] Tryz.func178 rfl Tryz.ntmps178 (by simp) Tryz.results178 (flatI _) ?_
  apply Rn_st; (intro K0; simp only [go_sem]; exact ⟨id⟩)
  (any_goals refine go lv178 0 ?_)
  all_goals (try simp only [go_sem])
end Go.Proofs.YtbhnmolmkembdaaGreatDoor.Sh
namespace Go.Proofs.YtbhnmolmkembdaaGreatDoor.Sh
set_option linter.unusedVariables false
set_option linter.unusedSimpArgs false
set_option maxHeartbeats 10000000
open Go
set_option maxRecDepth 10000
theorem Ups_le {l : List (Int × Int)} {s t : Int} (h : Ups l s) (ht : t ≤ s) : Ups l t := fun k p hp h0 hk => h k p hp h0 (by omega)
theorem namesR_fuelB (l : List (Int × Int)) : ∀ (n m : Nat) (s : Int), Ups l s → s.toNat ≤ n → s.toNat ≤ m → namesR l n s = namesR l m s
  | 0, m, s, _, h1, _ => by
    have h0 : ¬ 0 < s := by omega
    cases m with
    | zero => rfl
    | succ m => unfold namesR; rw [if_neg h0]
  | n + 1, 0, s, _, h1, h2 => by
    have h0 : ¬ 0 < s := by omega
    unfold namesR; rw [if_neg h0]
  | n + 1, m + 1, s, hu, h1, h2 => by
    unfold namesR
    by_cases h0 : 0 < s
    · rw [if_pos h0, if_pos h0]
      cases hp : l[s.toNat]? with
      | none => rfl
      | some p =>
        have := hu _ p hp (by omega) (by omega)
        exact congrArg (p.2 :: ·) (namesR_fuelB l n m p.1 (Ups_le hu (by omega)) (by omega) (by omega))
    · rw [if_neg h0, if_neg h0]
theorem namesL_upB {l : List (Int × Int)} {k : Nat} {p : Int × Int} (hp : l[k + 1]? = some p) (hu : Ups l ((k + 1 : Nat) : Int)) : namesL l ((k + 1 : Nat) : Int) = namesL l p.1 ++ [p.2] := by
  have hk := (List.getElem?_eq_some_iff.1 hp).1
  have hup := hu (k + 1) _ hp (by omega) (Int.le_refl _)
  unfold namesL
  obtain ⟨n, hn⟩ : ∃ n, l.length = n + 1 := ⟨l.length - 1, by omega⟩
  have e1 : namesR l l.length ((k + 1 : Nat) : Int) = p.2 :: namesR l n p.1 := by
    rw [hn]
    show (if 0 < ((k + 1 : Nat) : Int) then (match l[((k + 1 : Nat) : Int).toNat]? with | some p => p.2 :: namesR l n p.1 | none => []) else []) = _
    rw [if_pos (by omega), show (((k + 1 : Nat) : Int)).toNat = k + 1 by omega, hp]
  rw [e1, List.reverse_cons, namesR_fuelB l n l.length p.1 (Ups_le hu (by omega)) (by omega) (by omega)]
theorem refN_c (l : List (Int × Int)) (hl : l.length ≤ 1000) : ∀ n : Nat, Ups l n → ∀ z : Int, z.toNat ≤ n → z < l.length → FC Cx 178 [shapesV l, Iv z] [] (.os 0 1) [(0, 1, .sl 3 1 ((namesL l z).map intA))]
  | 0, hu, z, h1, h2 => by
    rw [namesL_rootB l z (by omega)]
    exact refN_0 l z (by rw [decide_eq_true_eq]; omega)
  | n + 1, hu, z, h1, h2 => by
    by_cases h0 : z ≤ 0
    · rw [namesL_rootB l z h0]
      exact refN_0 l z (by rw [decide_eq_true_eq]; omega)
    · obtain ⟨k, rfl⟩ : ∃ k : Nat, z = ((k + 1 : Nat) : Int) := ⟨z.toNat - 1, by omega⟩
      have hp : l[k + 1]? = some (l[k + 1]'(by omega)) := List.getElem?_eq_getElem (by omega)
      generalize l[k + 1]'(by omega) = p at hp
      have huk : Ups l ((k + 1 : Nat) : Int) := Ups_le hu (by omega)
      have hup := huk (k + 1) p hp (by omega) (Int.le_refl _)
      rw [namesL_upB hp huk]
      have ih := refN_c l hl n (Ups_le hu (by omega))
      refine refN_1 l n k p hp hl (by omega) (by omega)
        (.res 178 (sp_refN l n) en178 fun st d args K h => ?_) rfl (fun _ _ _ _ _ _ => rfl) (namesL_len l p.1) (by rw [decide_eq_false_iff_not]; omega) (fun l => List.length_map ..) (List.length_map ..) (fun l n => by rw [List.map_append]; rfl) (by omega) (getD_map shapeR hp []) (by omega)
      unfold sp_refN at h
      split at h
      · rename_i xs z
        obtain ⟨⟨rfl, h3, h4⟩, h5⟩ := h
        exact ⟨_, _, _, CallR.own (ih z h3 h4) rfl (flatI _) rfl d, h5⟩
      · exact h.elim
theorem refNames_c (xs : List (List RV)) (z : Int) (h : xs = (shapesOf xs).map shapeR ∧ xs.length ≤ 1000 ∧ Ups (shapesOf xs) z ∧ z < xs.length) : FC Cx 178 [.r (.rs 2 xs), Iv z] [] (intsV (namesL (shapesOf xs) z)) [] := by
  have hl : (shapesOf xs).length = xs.length := by simp [shapesOf]
  have h1 : FC Cx 178 [shapesV (shapesOf xs), Iv z] [] (.os 0 1) [(0, 1, .sl 3 1 ((namesL (shapesOf xs) z).map intA))] := by
    by_cases h0 : z ≤ 0
    · rw [namesL_rootB _ z h0]; exact refN_0 _ z (by rw [decide_eq_true_eq]; omega)
    · exact refN_c _ (by omega) z.toNat (Ups_le h.2.2.1 (by omega)) z (Nat.le_refl _) (by omega)
  rw [shapes_at h.1] at h1
  exact h1.freeze1 (roI _).symm
def sp_refNames (args : List AV) (K : AV → Prop) : Prop := match args with
  | [.r (.rs 2 xs), .r (.v (.int .i64 z))] => (xs = (shapesOf xs).map shapeR ∧ xs.length ≤ 1000 ∧ Ups (shapesOf xs) z ∧ z < xs.length) ∧ K (intsV (namesL (shapesOf xs) z))
  | _ => False
theorem sp_refNames_ok (args : List AV) (K : AV → Prop) (h : sp_refNames args K) : ∃ r, CallOk Cx 178 args r ∧ K r := by
  unfold sp_refNames at h
  split at h
  · exact ⟨_, CallOk_of (refNames_c _ _ h.1) en178 rfl rfl, h.2⟩
  · exact h.elim
noncomputable abbrev ct_refNames : Ct Cx := .pure 178 sp_refNames sp_refNames_ok
@[go_sem] theorem sp_refNames_eq : type_of% @sp_refNames.eq_def := @sp_refNames.eq_def
end Go.Proofs.YtbhnmolmkembdaaGreatDoor.Sh
namespace Go.Proofs.YtbhnmolmkembdaaGreatDoor.Sh
set_option linter.unusedVariables false
set_option linter.unusedSimpArgs false
set_option maxHeartbeats 10000000
open Go
set_option maxRecDepth 10000
section
variable {C : Ctx} {T : List (Ct C)} {r : List It} {st : St} {K : Exit → St → Prop} {A : St → Prop}
theorem ret_ck (h : K .ret st) : thenK A (ck C r K) .ret st := ck_ret h
end
theorem fault_large (l : List (Int × Int)) (hlen : (l.map shapeR).length = l.length) (d0 : decide ((100 : Int) < (l.length : Int)) = true) : FC Cx 137 [shapesV l] [] (Iv 2) [] := by
  refine FCp_st [ct_between, ct_hasI, ct_refNames] Tryz.func137 Tryz.ntmps137 Tryz.results137 ?_
  (any_goals refine go lv137 0 ?_)
  all_goals (try simp only [go_sem])
theorem fault_some (l : List (Int × Int)) (hw : Wf l) (h100 : ¬ 100 < l.length) (hlen : (l.map shapeR).length = l.length) (d0 : decide ((100 : Int) < (l.length : Int)) = false) : FC Cx 137 [shapesV l] [] (Iv (checkF l)) [] := by
  have hlenI : ∀ l : List Int, (l.map intR).length = l.length := fun l => List.length_map ..
  refine FCp_st [ct_between, ct_hasI, ct_refNames] Tryz.func137 Tryz.ntmps137 Tryz.results137 ?_
  (any_goals refine go lv137 0 ?_)
  refine Rn_loopR [0, 10, 11, 12] (fun x : Nat × Nat => x.1 ≤ l.length ∧ (0 < x.1 → l[0]? = some (-1, -1)) ∧ ∀ j p, j + 1 < x.1 → l[j + 1]? = some p → okAt l j p)
    (fun x => ⟨63, [(0, shapesV l), (10, shapesV l), (11, Iv l.length), (12, Iv x.1)], [(4, x.1, .gone), (6, x.2, .gone)]⟩) (fun x => l.length - x.1) (0, 0) rfl rfl ⟨rfl, rfl, rfl, rfl, trivial⟩ ⟨Nat.zero_le _, ⟨fun h => absurd h (Nat.lt_irrefl 0), fun j p hj => absurd hj (Nat.not_lt_zero _)⟩⟩ ?_
  rintro ⟨i, v6⟩ ⟨hi, hroot, hok⟩
  dsimp only at hi hroot hok
  have t1 : Int.toNat (i : Int) = i := by omega
  by_cases hlt : i < l.length
  · have e1 : decide ((i : Int) < (l.length : Int)) = true := by rw [decide_eq_true_eq]; omega
    obtain ⟨p, hp⟩ : ∃ p, l[i]? = some p := ⟨l[i], List.getElem?_eq_getElem hlt⟩
    have hg1 := getD_map shapeR hp ([] : List RV)
    have w1 : IntKind.i64.wrap ((i : Int) + 1) = ((i + 1 : Nat) : Int) := by rw [wrap_id] <;> omega
    by_cases hz : i ≤ 0
    · have e2 : decide ((i : Int) = 0) = true := by rw [decide_eq_true_eq]; omega
      have bad : l[0]? ≠ some (-1, -1) → checkF l = 3 := fun hb => by rw [checkF, if_neg h100, if_neg fun h => hb h.1]
      by_cases c1 : p.1 = -1
      · have d1 : decide (p.1 = -1) = true := by simpa using c1
        by_cases c2 : p.2 = -1
        · have d2 : decide (p.2 = -1) = true := by simpa using c2
          (any_goals refine go lv137 0 ?_)
          all_goals (try simp only [go_sem])
          refine ⟨(i + 1, v6), ⟨by show i + 1 ≤ _; omega, fun _ => ?_, fun j q hj => ?_⟩, by show l.length - (i + 1) < _; omega, Le_keepR [0, 10, 11, 12] rfl rfl ⟨rfl, .inr ⟨rfl, Nat.le_refl _⟩, rfl, .inl ⟨rfl, rfl⟩, trivial⟩⟩
          · rw [show i = 0 by omega] at hp; rw [hp]; exact congrArg some (Prod.ext c1 c2)
          · exact absurd hj (by show ¬ j + 1 < i + 1; omega)
        · have d2 : decide (p.2 = -1) = false := by simpa using c2
          have hF := bad (by rw [show i = 0 by omega] at hp; rw [hp]; intro h; have := Option.some.inj h; subst this; exact c2 rfl)
          (any_goals refine go lv137 0 ?_)
          all_goals (try simp only [go_sem])
          rw [hF]
      · have d1 : decide (p.1 = -1) = false := by simpa using c1
        have hF := bad (by rw [show i = 0 by omega] at hp; rw [hp]; intro h; have := Option.some.inj h; subst this; exact c1 rfl)
        (any_goals refine go lv137 0 ?_)
        all_goals (try simp only [go_sem])
        rw [hF]
    · have e2 : decide ((i : Int) = 0) = false := by rw [decide_eq_false_iff_not]; omega
      obtain ⟨k, hk⟩ : ∃ k, i = k + 1 := ⟨i - 1, by omega⟩
      have w2 : IntKind.i64.wrap ((i : Int) - 1) = (k : Int) := by rw [wrap_id] <;> omega
      have hp1 : l[k + 1]? = some p := hk ▸ hp
      have hwp : WfS p := hw p (List.mem_of_getElem? hp)
      have bad : ¬ okAt l k p → checkF l = 3 := fun hb => by rw [checkF, if_neg h100, if_neg]; exact fun hg => hb (hg.2 k p hp1)
      have hkl : k < l.length := by omega
      have hki : (k : Int) + 1 = i := by omega
      clear hk hp1
      by_cases c1 : p.1 < 0
      · have d2 : decide (0 ≤ p.1) = false := by simpa using c1
        have hF := bad fun h => by have := h.1; omega
        (any_goals refine go lv137 0 ?_)
        all_goals (try simp only [go_sem])
        rw [hF]
      have d2 : decide (0 ≤ p.1) = true := by simpa using c1
      by_cases c2 : (k : Int) < p.1
      · have d3 : decide (p.1 ≤ (k : Int)) = false := by rw [decide_eq_false_iff_not]; omega
        have hF := bad fun h => by have := h.2.1; omega
        (any_goals refine go lv137 0 ?_)
        all_goals (try simp only [go_sem])
        rw [hF]
      have d3 : decide (p.1 ≤ (k : Int)) = true := by rw [decide_eq_true_eq]; omega
      by_cases c3 : p.2 < 0
      · have d4 : decide (p.2 < 0) = true := by simpa using c3
        have hF := bad fun h => by have := h.2.2.1; omega
        (any_goals refine go lv137 0 ?_)
        all_goals (try simp only [go_sem])
        rw [hF]
      have d4 : decide (p.2 < 0) = false := by simpa using c3
      have hU : Ups l p.1 := fun j q hq h0 hj => by
        obtain ⟨j', rfl⟩ : ∃ j', j = j' + 1 := ⟨j - 1, by omega⟩
        have := (hok j' q (by omega) hq).2.1
        omega
      have hn := namesL_len l p.1
      by_cases c5 : p.2 ∈ namesL l p.1
      · have d5 : decide (p.2 ∈ namesL l p.1) = true := by simpa using c5
        have hF := bad fun h => h.2.2.2.2 c5
        (any_goals refine go lv137 0 ?_)
        all_goals (try simp only [go_sem])
        rw [hF]
      have d5 : decide (p.2 ∈ namesL l p.1) = false := by simpa using c5
      have t2 : List.take i (l.map shapeR) = (l.take i).map shapeR := List.map_take.symm
      have t3 : ((l.take i).map shapeR).length = i := by rw [List.length_map, List.length_take]; omega
      (any_goals refine go lv137 0 ?_)
      refine Rn_loopR [0, 4, 10, 11, 12, 49, 50, 51] (fun j : Nat => j ≤ i ∧ ∀ j', j' < j → l[j']? ≠ some p)
        (fun j => ⟨63, [(0, shapesV l), (10, shapesV l), (11, Iv l.length), (12, Iv i), (4, .os 4 (i + 1)), (49, .r (.rs 2 ((l.take i).map shapeR))), (50, Iv i), (51, Iv j)], [(4, i + 1, .bx [Iv p.1, Iv p.2]), (6, v6 + j, .gone)]⟩) (fun j => i - j) 0 rfl rfl ⟨rfl, .inl ⟨rfl, rfl⟩, rfl, .inl ⟨rfl, rfl⟩, trivial⟩ ⟨Nat.zero_le _, fun j hj => absurd hj (Nat.not_lt_zero _)⟩ ?_
      rintro j ⟨hj, hjno⟩
      have t4 : Int.toNat (j : Int) = j := by omega
      clear t2
      by_cases hlt2 : j < i
      · obtain ⟨q, hq⟩ : ∃ q, l[j]? = some q := ⟨l[j], List.getElem?_eq_getElem (by omega)⟩
        have hg2 := getD_map shapeR (show (l.take i)[j]? = some q by rw [List.getElem?_take, if_pos hlt2]; exact hq) ([] : List RV)
        have w3 : IntKind.i64.wrap ((j : Int) + 1) = ((j + 1 : Nat) : Int) := by rw [wrap_id] <;> omega
        have d6 : decide ((j : Int) < (i : Int)) = true := by rw [decide_eq_true_eq]; omega
        by_cases hqp : q = p
        · subst hqp
          have hF := bad fun h => h.2.2.2.1 (by
            cases j with
            | zero =>
              rw [hroot (by omega)] at hq
              have := Option.some.inj hq
              subst this
              exact absurd c1 (by simp)
            | succ j => exact List.mem_of_getElem? (i := j) (by rw [List.getElem?_take, if_pos (by omega), List.getElem?_drop, Nat.add_comm]; exact hq))
          (any_goals refine go lv137 0 ?_)
          all_goals (try simp only [go_sem])
          all_goals (first | exact ret_ck (by rw [hF]; rfl) | rw [hF])
        · have d7 : (decide (q.1 = p.1) && decide (q.2 = p.2)) = false := by
            rw [← Bool.not_eq_true, Bool.and_eq_true, decide_eq_true_eq, decide_eq_true_eq]
            exact fun h => hqp (Prod.ext h.1 h.2)
          (any_goals refine go lv137 0 ?_)
          refine ⟨j + 1, ⟨by omega, fun j' hj' => ?_⟩, by omega, Le_keepR [0, 4, 10, 11, 12, 49, 50, 51] rfl rfl ⟨rfl, .inl ⟨rfl, rfl⟩, rfl, .inr ⟨rfl, Nat.le_refl _⟩, trivial⟩⟩
          rcases Nat.lt_succ_iff_lt_or_eq.1 hj' with h3 | h3
          · exact hjno j' h3
          · rw [h3, hq]; exact fun h4 => hqp (Option.some.inj h4)
      · have d6 : decide ((j : Int) < (i : Int)) = false := by rw [decide_eq_false_iff_not]; omega
        (any_goals refine go lv137 0 ?_)
        all_goals (try simp only [go_sem])
        refine ⟨(i + 1, v6 + j), ⟨by show i + 1 ≤ _; omega, fun _ => hroot (by omega), fun a q ha hq => ?_⟩, by show l.length - (i + 1) < _; omega, Le_keepR [0, 10, 11, 12] rfl rfl ⟨rfl, .inr ⟨rfl, Nat.le_refl _⟩, rfl, .inl ⟨rfl, rfl⟩, trivial⟩⟩
        have ha' : a + 1 < i + 1 := ha
        by_cases hak : a + 1 < i
        · exact hok a q hak hq
        · obtain rfl : a = k := by omega
          have hqp : q = p := by
            have : l[i]? = some q := by rw [show i = a + 1 by omega]; exact hq
            rw [hp] at this; exact (Option.some.inj this).symm
          subst hqp
          refine ⟨by omega, by omega, by omega, fun hm => ?_, c5⟩
          obtain ⟨b, hb⟩ := List.getElem?_of_mem hm
          rw [List.getElem?_take] at hb
          split at hb
          · rw [List.getElem?_drop] at hb
            exact hjno (1 + b) (by omega) hb
          · cases hb
  · have e1 : decide ((i : Int) < (l.length : Int)) = false := by rw [decide_eq_false_iff_not]; omega
    by_cases h0 : l.length ≤ 0
    · have d1 : decide ((l.length : Int) = 0) = true := by rw [decide_eq_true_eq]; omega
      have hF : checkF l = 3 := by rw [checkF, if_neg h100, if_neg fun h => by have := (List.getElem?_eq_some_iff.1 h.1).1; omega]
      (any_goals refine go lv137 0 ?_)
      all_goals (try simp only [go_sem])
      rw [hF]
    · have d1 : decide ((l.length : Int) = 0) = false := by rw [decide_eq_false_iff_not]; omega
      have hF : checkF l = 0 := by
        rw [checkF, if_neg h100, if_pos ⟨hroot (by omega), fun j q hq => hok j q (by have := (List.getElem?_eq_some_iff.1 hq).1; omega) hq⟩]
      (any_goals refine go lv137 0 ?_)
      all_goals (try simp only [go_sem])
      rw [hF]
end Go.Proofs.YtbhnmolmkembdaaGreatDoor.Sh
namespace Go.Proofs.YtbhnmolmkembdaaGreatDoor.Sh
set_option linter.unusedVariables false
set_option linter.unusedSimpArgs false
set_option maxHeartbeats 10000000
open Go
set_option maxRecDepth 10000
theorem fault_c (xs : List (List RV)) (h : xs = (shapesOf xs).map shapeR ∧ Wf (shapesOf xs)) : FC Cx 137 [.r (.rs 2 xs)] [] (Iv (checkF (shapesOf xs))) [] := by
  have h1 : FC Cx 137 [shapesV (shapesOf xs)] [] (Iv (checkF (shapesOf xs))) [] := by
    by_cases h100 : 100 < (shapesOf xs).length
    · have e : checkF (shapesOf xs) = 2 := by rw [checkF, if_pos h100]
      rw [e]
      exact fault_large _ (List.length_map ..) (by rw [decide_eq_true_eq]; omega)
    · exact fault_some _ h.2 h100 (List.length_map ..) (by rw [decide_eq_false_iff_not]; omega)
  rwa [shapes_at h.1] at h1
def sp_fault (args : List AV) (K : AV → Prop) : Prop := match args with
  | [.r (.rs 2 xs)] => (xs = (shapesOf xs).map shapeR ∧ Wf (shapesOf xs)) ∧ K (Iv (checkF (shapesOf xs)))
  | _ => False
theorem sp_fault_ok (args : List AV) (K : AV → Prop) (h : sp_fault args K) : ∃ r, CallOk Cx 137 args r ∧ K r := by
  unfold sp_fault at h
  split at h
  · exact ⟨_, CallOk_of (fault_c _ h.1) en137 rfl rfl, h.2⟩
  · exact h.elim
noncomputable abbrev ct_fault : Ct Cx := .pure 137 sp_fault sp_fault_ok
@[go_sem] theorem sp_fault_eq : type_of% @sp_fault.eq_def := @sp_fault.eq_def
end Go.Proofs.YtbhnmolmkembdaaGreatDoor.Sh
namespace Go.Proofs.YtbhnmolmkembdaaGreatDoor
set_option linter.unusedVariables false
set_option linter.unusedSimpArgs false
set_option maxHeartbeats 10000000
open Go
set_option maxRecDepth 10000
theorem isF'_ref {s : StateT} {v : Int × Int} (q : Int) (h : fitsF s v = true) : isF' s v q = refF s v q := by
  obtain ⟨k, n⟩ := v
  unfold isF' refF
  rw [h, Bool.true_and]
  by_cases h5 : k = 5
  · subst h5
    obtain ⟨n0, n1, _⟩ := fits_ref h
    rw [decide_eq_true n0, decide_eq_true n1]; simp
  · have d5 : decide (k = 5) = false := by simpa using h5
    simp [d5]
def RegsC (c : CellT) : Prop := ∀ f ∈ c.frames, f.regs.length ≤ 8796093021952
theorem cellRight_c (s : StateT) (c : CellT) (hs : Swf s) (hc : Cwf c) (hk : Sh.checkF s.shapes = 0) (hrg : RegsC c) : FC Cx 138 [stateV s, cellA c] [] (Bv (cellF s c)) [] := by
  have l1 : (c.vals.map valR).length = c.vals.length := List.length_map ..
  have l2 : (c.frames.map frameR).length = c.frames.length := List.length_map ..
  have l3 : (s.shapes.map valR).length = s.shapes.length := List.length_map ..
  have hcl := hs.len.cells
  have hsl := hs.len.shapes
  have hcv := hc.vals
  have hcf := hc.frames
  have hfr := hc.frame
  have hwi := hc.val
  obtain ⟨hup, h100, _, _⟩ := Sh.good_ups hk c.num
  have w1 : IntKind.i64.wrap ((s.shapes.length : Int) - 1) = (s.shapes.length : Int) - 1 := by rw [wrap_id] <;> omega
  unfold cellF
  by_cases hgw : c.kind = 5 ∧ c.num = 0
  case neg =>
    have eN : framesN c = 0 := if_neg hgw
    rw [eN]
    have hq : (decide (c.kind = 5) && decide (c.num = 0)) = false := by
      rw [Bool.eq_false_iff]; simp only [ne_eq, Bool.and_eq_true, decide_eq_true_eq]; exact hgw
    obtain ⟨kind, num, vals, frames⟩ := c
    dsimp only at *
    cases frames with
    | cons f fs =>
      have d0 : decide ((((f :: fs).length : Nat) : Int) = 0) = false := by rw [decide_eq_false_iff_not, List.length_cons]; omega
      rw [d0]
      simp only [Bool.and_false, Bool.false_and]
      generalize f :: fs = frames at *
      refine FCp_st [ct_rBetween, ct_rfits', ct_rkind', Sh.ct_refNames] Tryz.func138 Tryz.ntmps138 Tryz.results138 ?_
      refine goR ?_
      refine fzB 2 ?_
      refine fzB 3 ?_
      (any_goals refine go lv138 0 ?_)
      all_goals (try simp only [go_sem])
    | nil =>
    clear hfr hcf
    refine FCp_st [ct_rBetween, ct_rfits', ct_rkind', Sh.ct_refNames] Tryz.func138 Tryz.ntmps138 Tryz.results138 ?_
    refine goR ?_
    refine fzB 2 ?_
    refine fzB 3 ?_
    (any_goals refine go lv138 0 ?_)
    all_goals (try simp only [go_sem])
    refine Rn_loopS (fun x : Nat × Nat => x.1 ≤ vals.length ∧ ∀ j v, j < x.1 → vals[j]? = some v → fitsF s v = true) (fun x => ⟨190, [(2, stateP s), (3, .r (.rp (cellR ⟨kind, num, vals, []⟩))), (32, valsV vals), (33, Iv vals.length), (34, Iv x.1)], [(2, 2, .gone), (3, 2, .gone), (7, x.2, .gone)]⟩) (fun x => vals.length - x.1) (0, 0) ⟨Nat.zero_le _, fun j v hj => by omega⟩ ?_
    rintro ⟨i, u⟩ ⟨hi, hno⟩
    dsimp only at hi hno ⊢
    by_cases hlt : i < vals.length
    case pos =>
      obtain ⟨v, hx, hg, h1, h2, hw⟩ := each_at valR vals hlt hcv
      rcases Bool.eq_false_or_eq_true (fitsF s v) with hv | hv
      · have nx : ∀ j v, j < i + 1 → vals[j]? = some v → fitsF s v = true := fun j v' hj hv' => by
          rcases Nat.lt_succ_iff_lt_or_eq.1 hj with h3 | h3
          · exact hno j v' h3 hv'
          · subst h3; rw [hx] at hv'; cases hv'; exact hv
        clear hno
        (any_goals refine go lv138 0 ?_)
        refine ⟨(i + 1, u + 9), ⟨by dsimp only; omega, nx⟩, by dsimp only; omega, ?_⟩
        dsimp only
        exact Le_subA
      · rw [all_take_no hx hv]
        simp only [Bool.and_false, Bool.false_and]
        clear hno
        (any_goals refine go lv138 0 ?_)
        all_goals (try simp only [go_sem])
    obtain rfl : i = vals.length := by omega
    have e1 := each_end vals
    have hall : ∀ v ∈ vals, fitsF s v = true := fun v hv => by
      obtain ⟨j, hj⟩ := List.mem_iff_getElem?.1 hv
      exact hno j v (List.getElem?_eq_some_iff.1 hj).1 hj
    rw [all_take_yes fun j x hj hx => hno j x hj hx]
    clear hno hi hlt
    (any_goals refine go lv138 0 ?_)
    all_goals (try simp only [go_sem])
    refine Rn_loopS (fun _ : Unit => True) (fun _ => ⟨190, [(2, stateP s), (3, .r (.rp (cellR ⟨kind, num, vals, []⟩))), (44, .r (.rs 8 [])), (45, Iv 0), (46, Iv 0)], [(2, 2, .gone), (3, 2, .gone), (7, u, .gone)]⟩) (fun _ => 0) () trivial ?_
    rintro ⟨⟩ -
    clear e1
    by_cases hkk : 0 ≤ kind ∧ kind ≤ 7
    case neg =>
      rw [decide_eq_false hkk]
      simp only [Bool.false_and]
      have d0 : decide (kind = 0) = false := by rw [decide_eq_false_iff_not]; omega
      have d1 : decide (kind = 1) = false := by rw [decide_eq_false_iff_not]; omega
      have d2 : decide (kind = 2) = false := by rw [decide_eq_false_iff_not]; omega
      have d3 : decide (kind = 3) = false := by rw [decide_eq_false_iff_not]; omega
      have d4 : decide (kind = 4) = false := by rw [decide_eq_false_iff_not]; omega
      have d5 : decide (kind = 5) = false := by rw [decide_eq_false_iff_not]; omega
      have d6 : decide (kind = 6) = false := by rw [decide_eq_false_iff_not]; omega
      have d7 : decide (kind = 7) = false := by rw [decide_eq_false_iff_not]; omega
      (any_goals refine go lv138 0 ?_)
      all_goals (try simp only [go_sem])
    rw [decide_eq_true hkk]
    have k8 : kind = 0 ∨ kind = 1 ∨ kind = 2 ∨ kind = 3 ∨ kind = 4 ∨ kind = 5 ∨ kind = 6 ∨ kind = 7 := by omega
    clear hkk
    rcases k8 with rfl | rfl | rfl | rfl | rfl | rfl | rfl | rfl
    · rw [show numF s ⟨0, num, vals, []⟩ = decide (num = 0) from rfl, show valsF s ⟨0, num, vals, []⟩ = decide ((vals.length : Int) = 0) from rfl]
      (any_goals refine go lv138 0 ?_)
      all_goals (try simp only [go_sem])
      exact congrArg (fun b => Bv b) (by simp)
    · have eK : Sh.namesF s.shapes num = if 0 ≤ num ∧ num < s.shapes.length then Sh.namesL s.shapes num else [] := by
        unfold Sh.namesF; simp only [hk, true_and]
      have ln : ((Sh.namesL s.shapes num).map Sh.intR).length = (Sh.namesL s.shapes num).length := List.length_map ..
      rw [show numF s ⟨1, num, vals, []⟩ = decide (0 ≤ num ∧ num ≤ (s.shapes.length : Int) - 1) from rfl, show valsF s ⟨1, num, vals, []⟩ = (decide (0 ≤ num ∧ num ≤ (s.shapes.length : Int) - 1) && decide ((vals.length : Int) = ((Sh.namesF s.shapes num).length : Int))) from rfl, eK]
      by_cases hb : 0 ≤ num ∧ num ≤ (s.shapes.length : Int) - 1
      · have hlt : num < s.shapes.length := by omega
        rw [if_pos ⟨hb.1, hlt⟩, decide_eq_true hb]
        clear eK
        have hb' : decide (0 ≤ num ∧ num ≤ (s.shapes.length : Int) - 1) = true := decide_eq_true hb
        have h1000 : s.shapes.length ≤ 1000 := by omega
        clear hb
        (any_goals refine go lv138 0 ?_)
        all_goals (try simp only [go_sem])
        exact congrArg (fun b => Bv b) (by simp)
      · rw [decide_eq_false hb]
        simp only [Bool.and_false, Bool.false_and]
        have hb' : decide (0 ≤ num ∧ num ≤ (s.shapes.length : Int) - 1) = false := decide_eq_false hb
        clear eK ln hb
        (any_goals refine go lv138 0 ?_)
        all_goals (try simp only [go_sem])
    · rw [show numF s ⟨2, num, vals, []⟩ = decide (num = 0) from rfl, show valsF s ⟨2, num, vals, []⟩ = true from rfl]
      (any_goals refine go lv138 0 ?_)
      all_goals (try simp only [go_sem])
      exact congrArg (fun b => Bv b) (by simp)
    · rw [show numF s ⟨3, num, vals, []⟩ = decide (num = 0) from rfl, show valsF s ⟨3, num, vals, []⟩ = decide ((vals.length : Int) = 1) from rfl]
      (any_goals refine go lv138 0 ?_)
      all_goals (try simp only [go_sem])
      exact congrArg (fun b => Bv b) (by simp)
    · rw [show numF s ⟨4, num, vals, []⟩ = decide (0 ≤ num) from rfl, show valsF s ⟨4, num, vals, []⟩ = !(vals.any fun v => !isF' s v 3) from rfl]
      have eA : (vals.any fun v => !isF' s v 3) = !(vals.all fun v => refF s v 3) := by
        rw [List.any_eq_not_all_not]
        refine congrArg (fun b => !b) ?_
        rw [Bool.eq_iff_iff, List.all_eq_true, List.all_eq_true]
        refine forall_congr' fun v => forall_congr' fun hv => ?_
        rw [Bool.not_not, isF'_ref 3 (hall v hv)]
      rw [eA, Bool.not_not]
      clear eA hall
      (any_goals refine go lv138 0 ?_)
      all_goals (try simp only [go_sem])
      refine Rn_loopS (fun x : Nat × Nat => x.1 ≤ vals.length ∧ ∀ j v, j < x.1 → vals[j]? = some v → refF s v 3 = true) (fun x => ⟨190, [(2, stateP s), (3, .r (.rp (cellR ⟨4, num, vals, []⟩))), (121, valsV vals), (122, Iv vals.length), (123, Iv x.1)], [(2, 2, .gone), (3, 2, .gone), (7, u, .gone), (14, x.2, .gone)]⟩) (fun x => vals.length - x.1) (0, 0) ⟨Nat.zero_le _, fun j v hj => by omega⟩ ?_
      rintro ⟨i, u'⟩ ⟨hi, hno⟩
      dsimp only at hi hno ⊢
      by_cases hlt : i < vals.length
      case pos =>
        obtain ⟨v, hx, hg, h1, h2, hw⟩ := each_at valR vals hlt hcv
        rcases Bool.eq_false_or_eq_true (refF s v 3) with hv | hv
        · have nx : ∀ j v, j < i + 1 → vals[j]? = some v → refF s v 3 = true := fun j v' hj hv' => by
            rcases Nat.lt_succ_iff_lt_or_eq.1 hj with h3 | h3
            · exact hno j v' h3 hv'
            · subst h3; rw [hx] at hv'; cases hv'; exact hv
          clear hno
          (any_goals refine go lv138 0 ?_)
          refine ⟨(i + 1, u' + 9), ⟨by dsimp only; omega, nx⟩, by dsimp only; omega, ?_⟩
          dsimp only
          exact Le_subA
        · rw [all_take_no (q := fun v => refF s v 3) hx hv]
          simp only [Bool.and_false, Bool.false_and]
          clear hno
          (any_goals refine go lv138 0 ?_)
          all_goals (try simp only [go_sem])
      obtain rfl : i = vals.length := by omega
      have e1 := each_end vals
      rw [all_take_yes (q := fun v => refF s v 3) fun j x hj hx => hno j x hj hx]
      have eg : decide (0 ≤ num) = decide (-1 < num) := by rw [decide_eq_decide]; omega
      rw [eg]
      clear hno hi hlt eg
      (any_goals refine go lv138 0 ?_)
      all_goals (try simp only [go_sem])
      exact congrArg (fun b => Bv b) (by simp)
    · rw [show numF s ⟨5, num, vals, []⟩ = decide (0 ≤ num ∧ num ≤ 2) from rfl, show valsF s ⟨5, num, vals, []⟩ = decide ((vals.length : Int) = 0) from rfl]
      clear hgw hq eN
      (any_goals refine go lv138 0 ?_)
      all_goals (try simp only [go_sem])
      exact congrArg (fun b => Bv b) (by simp)
    · rw [show numF s ⟨6, num, vals, []⟩ = decide (-1 ≤ num ∧ num ≤ 4) from rfl, show valsF s ⟨6, num, vals, []⟩ = decide ((vals.length : Int) = 0) from rfl]
      (any_goals refine go lv138 0 ?_)
      all_goals (try simp only [go_sem])
      exact congrArg (fun b => Bv b) (by simp)
    · rw [show numF s ⟨7, num, vals, []⟩ = decide (num = 0) from rfl, show valsF s ⟨7, num, vals, []⟩ = weakF vals from rfl]
      clear hall
      (any_goals refine go lv138 0 ?_)
      all_goals (try simp only [go_sem])
      refine Rn_loopS (fun x : Nat × Nat => x.1 ≤ vals.length ∧ (((evK vals).take ((x.1 + 1) / 2)).all fun v => decide (v.1 = 5)) = true ∧ (((evK vals).take ((x.1 + 1) / 2)).map (·.2)).Nodup) (fun x => ⟨190, [(3, .r (.rp (cellR ⟨7, num, vals, []⟩))), (154, valsV vals), (155, Iv vals.length), (156, Iv x.1)], [(2, 2, .gone), (3, 2, .gone), (7, u, .gone), (16, x.2, .gone)]⟩) (fun x => vals.length - x.1) (0, 0) ⟨Nat.zero_le _, rfl, List.nodup_nil⟩ ?_
      rintro ⟨i, u'⟩ ⟨hi, h5, hn⟩
      dsimp only at hi h5 hn ⊢
      by_cases hlt : i < vals.length
      case neg =>
        obtain rfl : i = vals.length := by omega
        have e1 := each_end vals
        have hl := evK_len vals
        rw [List.take_of_length_le (by omega)] at h5 hn
        rw [weakF_take h5 hn]
        have em : decide (vals.length % 2 = 0) = decide (((vals.length : Int)).tmod 2 = 0) := by
          rw [decide_eq_decide, show ((vals.length : Int)).tmod 2 = ((vals.length % 2 : Nat) : Int) from rfl]; omega
        rw [em]
        clear em h5 hn hi hlt hl
        (any_goals refine go lv138 0 ?_)
        all_goals (try simp only [go_sem])
        exact congrArg (fun b => Bv b) (by simp)
      obtain ⟨v, hx, hg, h1, h2, hw⟩ := each_at valR vals hlt hcv
      rcases Nat.mod_two_eq_zero_or_one i with hm | hm
      case inr =>
        have e1 : decide (((i : Int)).tmod 2 = 1) = true := by
          rw [decide_eq_true_eq, show ((i : Int)).tmod 2 = ((i % 2 : Nat) : Int) from rfl]; omega
        have eq : (i + 1 + 1) / 2 = (i + 1) / 2 := by omega
        (any_goals refine go lv138 0 ?_)
        refine ⟨(i + 1, u' + 9), ⟨by dsimp only; omega, by dsimp only; rw [eq]; exact h5, by dsimp only; rw [eq]; exact hn⟩, by dsimp only; omega, ?_⟩
        dsimp only
        exact Le_subA
      obtain ⟨q, rfl⟩ : ∃ q, i = 2 * q := ⟨i / 2, by omega⟩
      have e1 : decide ((((2 * q : Nat) : Int)).tmod 2 = 1) = false := by
        rw [decide_eq_false_iff_not, show (((2 * q : Nat) : Int)).tmod 2 = (((2 * q) % 2 : Nat) : Int) from rfl]; omega
      rw [show (2 * q + 1) / 2 = q by omega] at h5 hn
      have hev : (evK vals)[q]? = some v := by rw [evK_at]; exact hx
      by_cases hv5 : v.1 = 5
      case neg =>
        have d5 : decide (v.1 = 5) = false := by simpa using hv5
        rw [weakF_kind hev hv5]
        simp only [Bool.and_false, Bool.false_and]
        clear h5 hn
        (any_goals refine go lv138 0 ?_)
        all_goals (try simp only [go_sem])
      obtain ⟨vk, n⟩ := v
      dsimp only at hv5
      subst hv5
      (any_goals refine go lv138 0 ?_)
      refine Rn_loopS (fun j : Nat => j ≤ q ∧ (5, n) ∉ (evK vals).take j) (fun j => ⟨190, [(3, .r (.rp (cellR ⟨7, num, vals, []⟩))), (154, valsV vals), (155, Iv vals.length), (156, Iv ((2 * q : Nat) : Int)), (16, .os 16 (u' + 1)), (15, Iv ((2 * q : Nat) : Int)), (17, Iv ((2 * j : Nat) : Int))], [(2, 2, .gone), (3, 2, .gone), (7, u, .gone), (16, u' + 1, .bx [Iv 5, Iv n])]⟩) (fun j => q - j) 0 ⟨Nat.zero_le _, by simp⟩ ?_
      rintro j ⟨hj, hno⟩
      by_cases hjq : j < q
      case neg =>
        obtain rfl : j = q := by omega
        have e2 : decide (((2 * j : Nat) : Int) < ((2 * j : Nat) : Int)) = false := by simp
        (any_goals refine go lv138 0 ?_)
        have et : (evK vals).take (j + 1) = (evK vals).take j ++ [(5, n)] := by rw [List.take_add_one, hev]; rfl
        refine ⟨(2 * j + 1, u' + 9), ⟨by dsimp only; omega, ?_, ?_⟩, by dsimp only; omega, ?_⟩
        · dsimp only
          rw [show (2 * j + 1 + 1) / 2 = j + 1 by omega, et, List.all_append, h5]; simp
        · dsimp only
          rw [show (2 * j + 1 + 1) / 2 = j + 1 by omega, et, List.map_append]
          refine List.nodup_append.2 ⟨hn, by simp, ?_⟩
          rintro a ha b hb rfl
          obtain ⟨w, hw1, hw2⟩ := List.mem_map.1 ha
          have hw3 := List.all_eq_true.1 h5 w hw1
          simp at hb hw3
          exact hno (by rw [← hb, ← hw2, ← hw3]; exact hw1)
        · dsimp only; exact Le_subA
      obtain ⟨w, hwj⟩ : ∃ w, vals[2 * j]? = some w := ⟨vals[2 * j]'(by omega), List.getElem?_eq_getElem _⟩
      have gw := getD_map valR hwj ([] : List RV)
      have e2 : decide (((2 * j : Nat) : Int) < ((2 * q : Nat) : Int)) = true := by rw [decide_eq_true_eq]; omega
      have t2 : Int.toNat ((2 * j : Nat) : Int) = 2 * j := by omega
      have w2 : IntKind.i64.wrap (((2 * j : Nat) : Int) + 2) = ((2 * (j + 1) : Nat) : Int) := by rw [wrap_id] <;> omega
      have hew : (evK vals)[j]? = some w := by rw [evK_at]; exact hwj
      have yes : w = (5, n) → weakF vals = false := fun h => by
        refine weakF_twice hev (List.mem_map.2 ⟨w, List.mem_of_getElem? (i := j) ?_, by rw [h]⟩)
        rw [List.getElem?_take, if_pos hjq]; exact hew
      have nx : w ≠ (5, n) → (5, n) ∉ (evK vals).take (j + 1) := fun h => by
        rw [List.take_add_one, hew]
        simp only [Option.toList, List.mem_append, List.mem_singleton, not_or]
        exact ⟨hno, fun e => h e.symm⟩
      clear hx hg h1 h2 hw hm hno h5 hn hev hew e1
      (any_goals refine go lv138 0 ?_)
      repeat' (first | (refine Br.go (fun h h' => ?_) (fun h h' => ?_)) | (refine Br.mk (fun h => ?_) (fun h => ?_)))
      all_goals (try simp only [go_sem])
      · rw [yes (by simp at h; exact Prod.ext h.1 h.2)]
        exact congrArg (fun b => Bv b) (by simp)
      · refine ⟨j + 1, ⟨by omega, nx (by rintro rfl; simp at h)⟩, by omega, Le_subA⟩
  obtain ⟨kind, num, vals, frames⟩ := c
  obtain ⟨h5, h0⟩ := hgw
  dsimp only at h5 h0
  subst h5 h0
  rw [show framesN ⟨5, 0, vals, frames⟩ = 1 from if_pos ⟨rfl, rfl⟩, show numF s ⟨5, 0, vals, frames⟩ = true from rfl, show valsF s ⟨5, 0, vals, frames⟩ = decide ((vals.length : Int) = 0) from rfl, show decide (0 ≤ (5 : Int) ∧ (5 : Int) ≤ 7) = true from rfl, Bool.true_and, Bool.true_and]
  dsimp only at *
  by_cases hf1 : frames.length = 1
  case neg =>
    have d0 : decide ((frames.length : Int) = 1) = false := by rw [decide_eq_false_iff_not]; omega
    rw [d0]
    simp only [Bool.and_false, Bool.false_and]
    clear hf1 hfr hcf hcv hwi
    refine FCp_st [ct_rBetween, ct_rfits', ct_rkind', Sh.ct_refNames] Tryz.func138 Tryz.ntmps138 Tryz.results138 ?_
    refine goR ?_
    refine fzB 2 ?_
    refine fzB 3 ?_
    (any_goals refine go lv138 0 ?_)
    all_goals (try simp only [go_sem])
  obtain ⟨f, rfl⟩ := List.length_eq_one_iff.1 hf1
  clear hf1 l2
  have hreg := hrg f (List.mem_singleton.2 rfl)
  rw [show decide ((([f] : List FrameT).length : Int) = 1) = true from rfl, Bool.and_true, show [f].all (heldF s) = heldF s f from by simp]
  clear hfr hcf
  refine FCp_st [ct_rBetween, ct_rfits', ct_rkind', Sh.ct_refNames] Tryz.func138 Tryz.ntmps138 Tryz.results138 ?_
  refine goR ?_
  refine fzB 2 ?_
  refine fzB 3 ?_
  (any_goals refine go lv138 0 ?_)
  refine Rn_loopS (fun x : Nat × Nat => x.1 ≤ vals.length ∧ ∀ j v, j < x.1 → vals[j]? = some v → fitsF s v = true) (fun x => ⟨190, [(2, stateP s), (3, .r (.rp (cellR ⟨5, 0, vals, [f]⟩))), (32, valsV vals), (33, Iv vals.length), (34, Iv x.1)], [(2, 2, .gone), (3, 2, .gone), (7, x.2, .gone)]⟩) (fun x => vals.length - x.1) (0, 0) ⟨Nat.zero_le _, fun j v hj => by omega⟩ ?_
  rintro ⟨i, u⟩ ⟨hi, hno⟩
  dsimp only at hi hno ⊢
  by_cases hlt : i < vals.length
  case pos =>
    obtain ⟨v, hx, hg, h1, h2, hw⟩ := each_at valR vals hlt hcv
    rcases Bool.eq_false_or_eq_true (fitsF s v) with hv | hv
    · have nx : ∀ j v, j < i + 1 → vals[j]? = some v → fitsF s v = true := fun j v' hj hv' => by
        rcases Nat.lt_succ_iff_lt_or_eq.1 hj with h3 | h3
        · exact hno j v' h3 hv'
        · subst h3; rw [hx] at hv'; cases hv'; exact hv
      clear hno
      (any_goals refine go lv138 0 ?_)
      refine ⟨(i + 1, u + 9), ⟨by dsimp only; omega, nx⟩, by dsimp only; omega, ?_⟩
      dsimp only
      exact Le_subA
    · rw [all_take_no hx hv]
      simp only [Bool.and_false, Bool.false_and]
      clear hno
      (any_goals refine go lv138 0 ?_)
      all_goals (try simp only [go_sem])
  obtain rfl : i = vals.length := by omega
  have e1 := each_end vals
  rw [all_take_yes fun j x hj hx => hno j x hj hx]
  clear hno hi hlt
  (any_goals refine go lv138 0 ?_)
  all_goals (try simp only [go_sem])
  refine Rn_loopS (fun x : Nat × Nat => (x.1 = 0 ∨ x.1 = 1) ∧ (x.1 = 1 → heldF s f = true)) (fun x => ⟨190, [(2, stateP s), (3, .r (.rp (cellR ⟨5, 0, vals, [f]⟩))), (44, framesV [f]), (45, Iv 1), (46, Iv x.1)], [(2, 2, .gone), (3, 2, .gone), (7, u, .gone), (9, x.2, .gone), (11, x.2, .gone), (52, x.2, .gone), (55, x.2, .gone)]⟩) (fun x => 1 - x.1) (0, 0) ⟨.inl rfl, by simp⟩ ?_
  rintro ⟨i, w⟩ ⟨hi, hyes⟩
  dsimp only at hi hyes ⊢
  rcases hi with rfl | rfl
  case inr =>
    rw [hyes rfl, Bool.and_true]
    clear hyes
    (any_goals refine go lv138 0 ?_)
    all_goals (try simp only [go_sem])
  clear hyes
  have hheld : heldF s f = (f.self :: f.regs).all (fitsF s) := by unfold heldF; rw [List.all_cons, Bool.and_comm]
  rw [hheld]
  obtain ⟨fn, pc, tov, gen, ⟨sk, sn⟩, regs, tries⟩ := f
  dsimp only at hreg hheld ⊢
  have l6 : (regs.map valC).length = regs.length := List.length_map ..
  have b1 : 1 + regs.length ≤ 9223372036854775807 := by omega
  have b2 : (1 + regs.length) * 16 ≤ 140737488355328 := by omega
  have l4 : (regs.map valR).length = regs.length := List.length_map ..
  (any_goals refine go lv138 0 ?_)
  all_goals (try simp only [go_sem])
  (apply Rn_frzS 52 (((sk, sn) :: regs).map valR); (exact rfl); (exact (roValC ((sk, sn) :: regs)).symm); (exact rfl); (intro K0; (try simp only [go_sem]); exact ⟨id⟩))
  have hl : ((sk, sn) :: regs).length ≤ 9223372036854775807 := by rw [List.length_cons]; omega
  have l7 : (((sk, sn) :: regs).map valR).length = ((sk, sn) :: regs).length := List.length_map ..
  have l8 : ((regs.length : Int) + 1) = (((sk, sn) :: regs).length : Int) := by rw [List.length_cons]; omega
  clear l4 l6 b1 b2
  refine Rn_loopS (fun y : Nat × Nat => y.1 ≤ ((sk, sn) :: regs).length ∧ ∀ j v, j < y.1 → ((sk, sn) :: regs)[j]? = some v → fitsF s v = true) (fun y => ⟨190, [(2, stateP s), (3, .r (.rp (cellR ⟨5, 0, vals, [⟨fn, pc, tov, gen, (sk, sn), regs, tries⟩]⟩))), (44, framesV [⟨fn, pc, tov, gen, (sk, sn), regs, tries⟩]), (45, Iv 1), (46, Iv 0), (55, valsV ((sk, sn) :: regs)), (56, Iv ((sk, sn) :: regs).length), (57, Iv y.1)], [(2, 2, .gone), (3, 2, .gone), (7, u, .gone), (9, y.2, .gone), (11, y.2, .gone), (52, y.2, .gone), (55, y.2, .gone)]⟩) (fun y => ((sk, sn) :: regs).length - y.1) (0, w + 9) ⟨Nat.zero_le _, fun j v hj => by omega⟩ ?_
  rintro ⟨i, y⟩ ⟨hi, hno⟩
  dsimp only at hi hno ⊢
  clear hreg l8
  generalize hL : (sk, sn) :: regs = L at *
  by_cases hlt : i < L.length
  case pos =>
    obtain ⟨v, hx, hg, h1, h2, hw⟩ := each_at valR L hlt hl
    rcases Bool.eq_false_or_eq_true (fitsF s v) with hv | hv
    · have nx : ∀ j v, j < i + 1 → L[j]? = some v → fitsF s v = true := fun j v' hj hv' => by
        rcases Nat.lt_succ_iff_lt_or_eq.1 hj with h3 | h3
        · exact hno j v' h3 hv'
        · subst h3; rw [hx] at hv'; cases hv'; exact hv
      clear hno hL
      (any_goals refine go lv138 0 ?_)
      refine ⟨(i + 1, y + 9), ⟨by dsimp only; omega, nx⟩, by dsimp only; omega, ?_⟩
      dsimp only
      exact Le_subA
    · rw [all_take_no hx hv]
      simp only [Bool.and_false, Bool.false_and]
      clear hno hL
      (any_goals refine go lv138 0 ?_)
      all_goals (try simp only [go_sem])
  obtain rfl : i = L.length := by omega
  have e2 := each_end L
  have hall : L.all (fitsF s) = true := all_take_yes fun j x hj hx => hno j x hj hx
  clear hno hi hlt hL
  (any_goals refine go lv138 0 ?_)
  refine ⟨(1, y + 9), ⟨.inr rfl, fun _ => hall⟩, by dsimp only; omega, ?_⟩
  dsimp only
  exact Le_subA
theorem cellRight'_c (ca sh tx th en sd : List (List RV)) (aq sq : Int) (c1 c2 : Int) (us vs : List (List RV)) (h : ((ca = (cellsOf ca).map cellR ∧ sh = (valsOf sh).map valR ∧ tx = (strsOf tx).map strR ∧ th = (threadsOf th).map threadR ∧ en = (endsOf en).map endR ∧ sd = (valsOf sd).map valR) ∧ us = (valsOf us).map valR ∧ vs = (framesOf vs).map frameR) ∧ Swf ⟨cellsOf ca, valsOf sh, strsOf tx, threadsOf th, endsOf en, valsOf sd, aq, sq⟩ ∧ Cwf ⟨c1, c2, valsOf us, framesOf vs⟩ ∧ Sh.checkF (valsOf sh) = 0 ∧ RegsC ⟨c1, c2, valsOf us, framesOf vs⟩) : FC Cx 138 [.agg [.r (.rs 4 ca), .r (.rs 2 sh), .r (.rs 1 tx), .r (.rs 5 th), .r (.rs 3 en), .r (.rs 2 sd), Iv aq, Iv sq], .agg [Iv c1, Iv c2, .r (.rs 2 us), .r (.rs 8 vs)]] [] (Bv (cellF ⟨cellsOf ca, valsOf sh, strsOf tx, threadsOf th, endsOf en, valsOf sd, aq, sq⟩ ⟨c1, c2, valsOf us, framesOf vs⟩)) [] := by
  have := cellRight_c ⟨cellsOf ca, valsOf sh, strsOf tx, threadsOf th, endsOf en, valsOf sd, aq, sq⟩ ⟨c1, c2, valsOf us, framesOf vs⟩ h.2.1 h.2.2.1 h.2.2.2.1 h.2.2.2.2
  rwa [state_at _ _ _ _ _ _ _ _ h.1.1, show cellA ⟨c1, c2, valsOf us, framesOf vs⟩ = .agg [Iv c1, Iv c2, .r (.rs 2 us), .r (.rs 8 vs)] from by
    show AV.agg [Iv c1, Iv c2, valsV (valsOf us), framesV (framesOf vs)] = _
    rw [valsOf_at h.1.2.1, framesOf_at h.1.2.2]] at this
def sp_cellRight' (args : List AV) (K : AV → Prop) : Prop := match args with
  | [.agg [.r (.rs 4 ca), .r (.rs 2 sh), .r (.rs 1 tx), .r (.rs 5 th), .r (.rs 3 en), .r (.rs 2 sd), .r (.v (.int .i64 aq)), .r (.v (.int .i64 sq))], .agg [.r (.v (.int .i64 c1)), .r (.v (.int .i64 c2)), .r (.rs 2 us), .r (.rs 8 vs)]] => (((ca = (cellsOf ca).map cellR ∧ sh = (valsOf sh).map valR ∧ tx = (strsOf tx).map strR ∧ th = (threadsOf th).map threadR ∧ en = (endsOf en).map endR ∧ sd = (valsOf sd).map valR) ∧ us = (valsOf us).map valR ∧ vs = (framesOf vs).map frameR) ∧ Swf ⟨cellsOf ca, valsOf sh, strsOf tx, threadsOf th, endsOf en, valsOf sd, aq, sq⟩ ∧ Cwf ⟨c1, c2, valsOf us, framesOf vs⟩ ∧ Sh.checkF (valsOf sh) = 0 ∧ RegsC ⟨c1, c2, valsOf us, framesOf vs⟩) ∧ K (Bv (cellF ⟨cellsOf ca, valsOf sh, strsOf tx, threadsOf th, endsOf en, valsOf sd, aq, sq⟩ ⟨c1, c2, valsOf us, framesOf vs⟩))
  | _ => False
theorem sp_cellRight'_ok (args : List AV) (K : AV → Prop) (h : sp_cellRight' args K) : ∃ r, CallOk Cx 138 args r ∧ K r := by
  unfold sp_cellRight' at h
  split at h
  · exact ⟨_, CallOk_of (cellRight'_c _ _ _ _ _ _ _ _ _ _ _ _ h.1) en138 rfl rfl, h.2⟩
  · exact h.elim
noncomputable abbrev ct_cellRight' : Ct Cx := .pure 138 sp_cellRight' sp_cellRight'_ok
@[go_sem] theorem sp_cellRight'_eq : type_of% @sp_cellRight'.eq_def := @sp_cellRight'.eq_def
theorem canGo_c (s : StateT) (k : Nat) (t : ThreadT) (ht : s.threads[k]? = some t) (h1 : t.state = 1 → 0 ≤ t.on ∧ t.on < (s.cells.length : Int)) (h2 : t.state = 2 → 0 ≤ t.on ∧ t.on < (s.threads.length : Int)) (h4 : ∀ u ∈ s.threads, u.state ≤ 4) :
    FC Cx 32 [stateV s, Iv k] [] (Bv (canF s k)) [] := by
  have l0 : (s.cells.map cellR).length = s.cells.length := List.length_map ..
  have l1 : (s.threads.map threadR).length = s.threads.length := List.length_map ..
  have hk := (List.getElem?_eq_some_iff.1 ht).1
  have t1 : Int.toNat (k : Int) = k := by omega
  have hg := getD_map threadR ht ([] : List RV)
  have et : s.threads.getD k thread0 = t := by rw [List.getD_eq_getElem?_getD, ht]; rfl
  unfold canF
  rw [et]
  clear et
  obtain ⟨fs, state, on, ⟨vk, vn⟩⟩ := t
  dsimp only at h1 h2 ⊢
  by_cases s0 : state = 0
  · subst s0
    rw [if_pos rfl]
    refine FCp_st [] Tryz.func32 Tryz.ntmps32 Tryz.results32 ?_
    refine goR ?_
    refine fzB 2 ?_
    (any_goals refine go lv32 0 ?_)
    all_goals (try simp only [go_sem])
  rw [if_neg s0]
  have d0 : decide (state = 0) = false := by simpa using s0
  by_cases s1 : state = 1
  · subst s1
    obtain ⟨b1, b2⟩ := h1 rfl
    obtain ⟨c, hc⟩ : ∃ c, s.cells[on.toNat]? = some c := ⟨s.cells[on.toNat]'(by omega), List.getElem?_eq_getElem _⟩
    have gc := getD_map cellR hc ([] : List RV)
    have ec : s.cells.getD on.toNat cell0 = c := by rw [List.getD_eq_getElem?_getD, hc]; rfl
    rw [if_pos rfl, ec]
    clear ec h1 h2
    cases hn : decide (c.num = -1)
    all_goals
      refine FCp_st [] Tryz.func32 Tryz.ntmps32 Tryz.results32 ?_
      refine goR ?_
      refine fzB 2 ?_
      (any_goals refine go lv32 0 ?_)
      all_goals (try simp only [go_sem])
  rw [if_neg s1]
  have d1 : decide (state = 1) = false := by simpa using s1
  by_cases s2 : state = 2
  · subst s2
    obtain ⟨b1, b2⟩ := h2 rfl
    obtain ⟨c, hc⟩ : ∃ c, s.threads[on.toNat]? = some c := ⟨s.threads[on.toNat]'(by omega), List.getElem?_eq_getElem _⟩
    have gc := getD_map threadR hc ([] : List RV)
    have ec : s.threads.getD on.toNat thread0 = c := by rw [List.getD_eq_getElem?_getD, hc]; rfl
    have h44 := h4 c (List.mem_of_getElem? hc)
    have e2 : (decide (c.state = 3) || decide (c.state = 4)) = decide (2 < c.state) := by
      rw [← Bool.decide_or, decide_eq_decide]; omega
    rw [if_pos rfl, ec, e2]
    clear ec h1 h2 e2
    refine FCp_st [] Tryz.func32 Tryz.ntmps32 Tryz.results32 ?_
    refine goR ?_
    refine fzB 2 ?_
    (any_goals refine go lv32 0 ?_)
    all_goals (try simp only [go_sem])
  rw [if_neg s2]
  have d2 : decide (state = 2) = false := by simpa using s2
  clear h1 h2
  refine FCp_st [] Tryz.func32 Tryz.ntmps32 Tryz.results32 ?_
  refine goR ?_
  refine fzB 2 ?_
  (any_goals refine go lv32 0 ?_)
  all_goals (try simp only [go_sem])
def gensF (fs : List FrameT) : List Int := (fs.filter fun f => !decide (f.gen = -1)).map (·.gen)
def gensD (ts : List ThreadT) : List Int := (ts.map fun t => gensF t.frames).flatten
theorem gensF_take {fs : List FrameT} {i : Nat} {f : FrameT} (hf : fs[i]? = some f) : gensF (fs.take (i + 1)) = gensF (fs.take i) ++ (if f.gen = -1 then [] else [f.gen]) := by
  unfold gensF
  rw [List.take_add_one, hf, List.filter_append, List.map_append]
  by_cases h : f.gen = -1
  · rw [if_pos h]; simp [h]
  · rw [if_neg h]; simp [h]
theorem gensD_take {ts : List ThreadT} {i : Nat} {t : ThreadT} (ht : ts[i]? = some t) : gensD (ts.take (i + 1)) = gensD (ts.take i) ++ gensF t.frames := by
  unfold gensD
  rw [List.take_add_one, ht, List.map_append, List.flatten_append]
  simp
theorem gensF_len (fs : List FrameT) : (gensF fs).length ≤ fs.length := by
  unfold gensF; rw [List.length_map]; exact List.length_filter_le _ _
theorem gensD_len : ∀ {ts : List ThreadT}, (∀ t ∈ ts, t.frames.length ≤ 30) → (gensD ts).length ≤ 30 * ts.length
  | [], _ => by simp [gensD]
  | t :: ts, h => by
    have h1 := gensD_len (ts := ts) fun u hu => h u (List.mem_cons_of_mem _ hu)
    have h2 := gensF_len t.frames
    have h3 := h t (List.mem_cons_self ..)
    have e : gensD (t :: ts) = gensF t.frames ++ gensD ts := rfl
    rw [e, List.length_append, List.length_cons]
    omega
theorem gensOf_c (s : StateT) (hl : s.threads.length ≤ 5) (hf : ∀ t ∈ s.threads, t.frames.length ≤ 30) : FC Cx 79 [stateV s] [] (intsV (gensD s.threads)) [] := by
  have l1 : (s.threads.map threadR).length = s.threads.length := List.length_map ..
  refine FCf_of [] Tryz.func79 rfl Tryz.ntmps79 (by simp) Tryz.results79 rfl ?_
  apply Rn_st; (intro K0; simp only [go_sem]; exact ⟨id⟩)
  refine goR ?_
  refine fzB 1 ?_
  (any_goals refine go lv79 0 ?_)
  (apply Rn_ownnil 3 1003 3 1; (exact rfl); (exact rfl); (intro K0; (try simp only [go_sem]); exact ⟨id⟩))
  refine Rn_loopS (fun x : Nat × Nat => x.1 ≤ s.threads.length) (fun x => ⟨33, [(3, .os 1003 (1 + (gensD (s.threads.take x.1)).length)), (9, threadsV s.threads), (10, Iv s.threads.length), (11, Iv x.1)], [(1, 2, .gone), (1003, 1 + (gensD (s.threads.take x.1)).length, .sl 3 1 ((gensD (s.threads.take x.1)).map fun k => [Iv k])), (5, x.2, .gone), (7, x.2, .gone), (28, x.2, .gone)]⟩) (fun x => s.threads.length - x.1) (0, 0) (Nat.zero_le _) ?_
  rintro ⟨i, u⟩ hi
  dsimp only at hi ⊢
  by_cases hlt : i < s.threads.length
  case neg =>
    obtain rfl : i = s.threads.length := by omega
    have e1 := each_end s.threads
    rw [List.take_length]
    (any_goals refine go lv79 0 ?_)
    all_goals (try simp only [go_sem])
  obtain ⟨t, hx, hg, h1, h2, hw⟩ := each_at threadR s.threads hlt (by omega)
  have hfl := hf t (List.mem_of_getElem? hx)
  have l2 : (t.frames.map frameR).length = t.frames.length := List.length_map ..
  have hnx := gensD_take hx
  have hL : (gensD (s.threads.take i)).length ≤ 150 := by
    have := gensD_len (ts := s.threads.take i) fun u hu => hf u (List.mem_of_mem_take hu)
    rw [List.length_take] at this
    omega
  generalize gensD (s.threads.take i) = L at *
  (any_goals refine go lv79 0 ?_)
  refine Rn_loopS (fun y : Nat × Nat => y.1 ≤ t.frames.length ∧ u ≤ y.2) (fun y => ⟨33, [(3, .os 1003 (1 + (L ++ gensF (t.frames.take y.1)).length)), (9, threadsV s.threads), (10, Iv s.threads.length), (11, Iv i), (16, framesV t.frames), (17, Iv t.frames.length), (18, Iv y.1)], [(1, 2, .gone), (1003, 1 + (L ++ gensF (t.frames.take y.1)).length, .sl 3 1 ((L ++ gensF (t.frames.take y.1)).map fun k => [Iv k])), (5, u + 1, .gone), (7, y.2, .gone), (28, y.2, .gone)]⟩) (fun y => t.frames.length - y.1) (0, u) ⟨Nat.zero_le _, Nat.le_refl _⟩ ?_ rfl ?_ ?_
  rotate_left
  · exact ⟨by simp [lookT, gensF], rfl, rfl, rfl, rfl, rfl, rfl, trivial⟩
  · exact ⟨rfl, .inl ⟨rfl, rfl⟩, by simp [gensF], .inl ⟨by simp [gensF], by simp [gensF]⟩, rfl, .inr ⟨rfl, by omega⟩, rfl, .inl ⟨rfl, rfl⟩, rfl, .inl ⟨rfl, rfl⟩, trivial⟩
  rintro ⟨j, w⟩ ⟨hj, hwu⟩
  dsimp only at hj hwu ⊢
  by_cases hjl : j < t.frames.length
  case neg =>
    obtain rfl : j = t.frames.length := by omega
    have e1 := each_end t.frames
    rw [List.take_length]
    have hnx2 : ∀ z, z = s.threads.take (i + 1) → gensD z = L ++ gensF t.frames := fun z hz => by rw [hz, hnx]
    clear hnx
    (any_goals refine go lv79 0 ?_)
    refine ⟨(i + 1, w + 9), by dsimp only; omega, by dsimp only; omega, ?_⟩
    dsimp only
    rw [hnx2 _ rfl]
    exact Le_subA
  obtain ⟨f, hx', hg', j1, j2, jw⟩ := each_at frameR t.frames hjl (by omega)
  have hn2 := gensF_take hx'
  have hM : (gensF (t.frames.take j)).length ≤ 30 := by
    have := gensF_len (t.frames.take j)
    rw [List.length_take] at this
    omega
  generalize gensF (t.frames.take j) = M at *
  have lr : ((L ++ M).map fun k => [Iv k]).length = (L ++ M).length := List.length_map ..
  have lb : (L ++ M).length ≤ 1000 := by rw [List.length_append]; omega
  by_cases hgn : f.gen = -1
  · have d0 : decide (f.gen = -1) = true := by simpa using hgn
    rw [if_pos hgn, List.append_nil] at hn2
    have hn3 : ∀ z, z = t.frames.take (j + 1) → gensF z = M := fun z hz => by rw [hz, hn2]
    clear hgn hn2
    (any_goals refine go lv79 0 ?_)
    refine ⟨(j + 1, w + 9), ⟨by dsimp only; omega, by dsimp only; omega⟩, by dsimp only; omega, ?_⟩
    dsimp only
    rw [hn3 _ rfl]
    exact Le_subA
  · have d0 : decide (f.gen = -1) = false := by simpa using hgn
    rw [if_neg hgn] at hn2
    have hn3 : ∀ z, z = t.frames.take (j + 1) → L ++ gensF z = (L ++ M) ++ [f.gen] := fun z hz => by rw [hz, hn2, List.append_assoc]
    clear hgn hn2
    generalize L ++ M = LM at *
    (any_goals refine go lv79 0 ?_)
    refine ⟨(j + 1, w + 9), ⟨by dsimp only; omega, by dsimp only; omega⟩, by dsimp only; omega, ?_⟩
    dsimp only
    rw [hn3 _ rfl]
    simp only [List.length_append, List.length_cons, List.length_nil, List.map_append, List.map_cons, List.map_nil]
    exact Le_subA
def stackD (p : ProgT) (s : StateT) : Nat → Int → List FrameT → Bool
  | _, _, [] => true
  | k, low, f :: fs => frameF p s f && decide (-1 ≤ f.tov ∧ f.tov ≤ low - 1) && ((p.fns.getD f.fn.toNat fn0).gen == !decide (f.gen = -1)) && (!(p.fns.getD f.fn.toNat fn0).gen || goesF s k f) && stackD p s (k + 1) f.regs.length fs
def threadD (p : ProgT) (s : StateT) (t : ThreadT) : Bool := headF p s t && stackD p s 0 0 t.frames
theorem stackD_iff (p : ProgT) (s : StateT) : ∀ (fs : List FrameT) (k : Nat) (low : Int), stackD p s k low fs = true ↔ stackR p s k low fs
  | [], k, low => by unfold stackD stackR; simp
  | f :: fs, k, low => by
    unfold stackD stackR
    simp only [Bool.and_eq_true, beq_iff_eq, Bool.or_eq_true, Bool.not_eq_true', decide_eq_true_eq]
    rw [stackD_iff p s fs]
    constructor
    · rintro ⟨⟨⟨⟨a1, a2⟩, a3⟩, a4⟩, a5⟩
      have hg : (p.fns.getD f.fn.toNat fn0).gen = true → 0 ≤ f.gen := fun h => by
        have := a4.resolve_left (by rw [h]; simp)
        unfold goesF at this
        simp only [Bool.and_eq_true] at this
        exact (ref_on this.1.2).1
      refine ⟨⟨?_, fun h0 => ?_⟩, a5⟩
      · unfold onF
        rw [a1, decide_eq_true a2]
        by_cases h1 : f.gen = -1
        · rw [a3, h1]; rfl
        · have h2 : (p.fns.getD f.fn.toNat fn0).gen = true := by rw [a3]; simp [h1]
          have h3 := hg h2
          rw [h2, decide_eq_true h3, decide_eq_false (by omega)]; rfl
      · refine a4.resolve_left ?_
        rw [a3]
        simp; omega
    · rintro ⟨⟨a1, a2⟩, a3⟩
      have h0 := onF_gen a1
      unfold onF at a1
      simp only [Bool.and_eq_true, Bool.not_eq_true', decide_eq_true_eq, decide_eq_false_iff_not] at a1
      obtain ⟨⟨⟨b1, b2⟩, _⟩, b4⟩ := a1
      refine ⟨⟨⟨⟨b1, b2⟩, ?_⟩, ?_⟩, a3⟩
      · rw [h0]
        by_cases h1 : 0 ≤ f.gen
        · rw [decide_eq_true h1, decide_eq_false (by omega)]; rfl
        · rw [decide_eq_false h1, decide_eq_true (show f.gen = -1 by omega)]; rfl
      · by_cases h1 : 0 ≤ f.gen
        · exact .inr (a2 h1)
        · left; rw [h0, decide_eq_false h1]
theorem threadD_iff {p : ProgT} {s : StateT} {t : ThreadT} : threadD p s t = true ↔ threadR' p s t := by
  unfold threadD threadR'
  rw [Bool.and_eq_true, stackD_iff]
theorem threadRight_no (p : ProgT) (s : StateT) (t : ThreadT) (hp : Pgo p) (hfs : ∀ f ∈ t.frames, Gwf f) (hl : t.frames.length ≤ 30) (hl2 : s.threads.length ≤ 9223372036854775807) (hsl : s.cells.length ≤ 9223372036854775807) (hno : (((decide (t.state = 3) || decide (t.state = 4)) == decide ((t.frames.length : Int) = 0)) && ((decide (t.state = 3) || decide (t.state = 4)) || (decide (t.val.1 = 0) && decide (t.val.2 = 0))) && fitsF s t.val && decide (0 ≤ t.state ∧ t.state ≤ 4)) = false) :
    FC Cx 82 [progV p, stateV s, threadA t] [] (Bv false) [] := by
  have l0 : (t.frames.map frameR).length = t.frames.length := List.length_map ..
  have l1 : (s.threads.map threadR).length = s.threads.length := List.length_map ..
  have l2 : (p.fns.map fnR).length = p.fns.length := List.length_map ..
  have lc : (s.cells.map cellR).length = s.cells.length := List.length_map ..
  obtain ⟨fs, state, on, ⟨vk, vn⟩⟩ := t
  dsimp only at *
  have w1 : IntKind.i64.wrap ((s.threads.length : Int) - 1) = (s.threads.length : Int) - 1 := by rw [wrap_id] <;> omega
  have hlen : decide ((0 : Int) < (fs.length : Int)) = !decide ((fs.length : Int) = 0) := by
    rw [← decide_not, decide_eq_decide]; omega
  obtain ⟨o3, r1⟩ : ∃ c, decide (state = 3) = c := ⟨_, rfl⟩
  obtain ⟨o4, r2⟩ : ∃ c, decide (state = 4) = c := ⟨_, rfl⟩
  obtain ⟨e, r3⟩ : ∃ c, decide ((fs.length : Int) = 0) = c := ⟨_, rfl⟩
  obtain ⟨v1, r4⟩ : ∃ c, decide (vk = 0) = c := ⟨_, rfl⟩
  obtain ⟨v2, r5⟩ : ∃ c, decide (vn = 0) = c := ⟨_, rfl⟩
  obtain ⟨ff, r6⟩ : ∃ c, fitsF s (vk, vn) = c := ⟨_, rfl⟩
  obtain ⟨w, r7⟩ : ∃ c, decide (0 ≤ state ∧ state ≤ 4) = c := ⟨_, rfl⟩
  rw [r1, r2, r3, r4, r5, r6, r7] at hno
  rw [r3] at hlen
  cases w with
  | false =>
    refine FCp_st [ct_rBetween, ct_rkind', ct_rfits', ct_frameRight'] Tryz.func82 Tryz.ntmps82 Tryz.results82 ?_
    refine goR ?_
    refine fzB 3 ?_
    refine fzB 4 ?_
    refine fzB 5 ?_
    (any_goals refine go lv82 0 ?_)
    all_goals (try simp only [go_sem])
  | true =>
  by_cases hoe : ((o3 || o4) == e) = false
  · skip
    cases o3 <;> cases o4 <;> cases e <;> first | cases hoe | skip
    all_goals
      refine FCp_st [ct_rBetween, ct_rkind', ct_rfits', ct_frameRight'] Tryz.func82 Tryz.ntmps82 Tryz.results82 ?_
      refine goR ?_
      refine fzB 3 ?_
      refine fzB 4 ?_
      refine fzB 5 ?_
      (any_goals refine go lv82 0 ?_)
      all_goals (try simp only [go_sem])
  by_cases hov : ((o3 || o4) || (v1 && v2)) = false
  · skip
    cases o3 <;> cases o4 <;> cases v1 <;> cases v2 <;> first | cases hov | skip
    all_goals cases e <;> first | cases hoe rfl | skip
    all_goals
      refine FCp_st [ct_rBetween, ct_rkind', ct_rfits', ct_frameRight'] Tryz.func82 Tryz.ntmps82 Tryz.results82 ?_
      refine goR ?_
      refine fzB 3 ?_
      refine fzB 4 ?_
      refine fzB 5 ?_
      (any_goals refine go lv82 0 ?_)
      all_goals (try simp only [go_sem])
  rw [Bool.not_eq_false] at hoe hov
  cases ff with
  | false =>
    cases o3 <;> cases o4 <;> cases e <;> first | cases hoe | skip
    all_goals cases v1 <;> cases v2 <;> first | cases hov | skip
    all_goals
      refine FCp_st [ct_rBetween, ct_rkind', ct_rfits', ct_frameRight'] Tryz.func82 Tryz.ntmps82 Tryz.results82 ?_
      refine goR ?_
      refine fzB 3 ?_
      refine fzB 4 ?_
      refine fzB 5 ?_
      (any_goals refine go lv82 0 ?_)
      all_goals (try simp only [go_sem])
  | true =>
    rw [hoe, hov] at hno
    cases hno
theorem isF'_is {s : StateT} (v : Int × Int) {q : Int} (hq : q ≠ 0) : isF' s v q = refF s v q := by
  obtain ⟨k, n⟩ := v
  unfold isF' refF fitsF
  dsimp only
  by_cases h5 : k = 5
  · subst h5
    rw [show rightF 5 n = decide (0 ≤ n) from rfl, if_neg (by decide), if_pos rfl, Bool.eq_iff_iff]
    simp only [Bool.and_eq_true, decide_eq_true_eq, Bool.not_eq_true', decide_eq_false_iff_not, decide_true, true_and]
    constructor
    · rintro ⟨⟨⟨a, b, c⟩, _⟩, d⟩; exact ⟨⟨a, b⟩, d⟩
    · rintro ⟨⟨a, b⟩, d⟩; exact ⟨⟨⟨a, b, by rw [d]; exact hq⟩, trivial⟩, d⟩
  · have d5 : decide (k = 5) = false := by simpa using h5
    rw [d5]; simp
noncomputable def rightH (s : StateT) : Bool := textsF s.texts && (s.shapes.all fun x => decide (x.2 < (s.texts.length : Int))) && s.cells.all (cellF s) && (s.said.all fun v => decide (v.1 = 4) && fitsF s v) && (s.ends.all fun e => decide (0 ≤ e.cell ∧ e.cell ≤ (s.cells.length : Int) - 1) && refF s e.fn 4)
theorem any_not {α : Type} {l : List α} {p q : α → Bool} (h : ∀ x, p x = !q x) : l.any p = !l.all q := by
  rw [List.any_eq_not_all_not]
  refine congrArg (fun b => !b) (congrArg l.all (funext fun x => ?_))
  rw [h, Bool.not_not]
theorem checkS_D (s : StateT) : checkS s = if largeS s = true then 2 else if Sh.checkF s.shapes ≠ 0 then Sh.checkF s.shapes else if rightH s = true then 0 else 3 := by
  unfold checkS rightH
  rw [any_not (l := s.shapes) (q := fun x => decide (x.2 < (s.texts.length : Int))) (fun x => by rw [← decide_not, decide_eq_decide]; omega), any_not (l := s.cells) (q := cellF s) (fun _ => rfl),
    any_not (l := s.said) (q := fun v => decide (v.1 = 4) && fitsF s v) (fun v => by unfold badS; simp), any_not (l := s.ends) (q := fun e => decide (0 ≤ e.cell ∧ e.cell ≤ (s.cells.length : Int) - 1) && refF s e.fn 4) (fun e => by unfold badE; rw [isF'_is e.fn (by decide)]; simp)]
  cases textsF s.texts <;> cases s.shapes.all _ <;> cases s.cells.all _ <;> cases s.said.all _ <;> cases s.ends.all _ <;> simp
def cellD (p : ProgT) (s : StateT) (x : CellT × Nat) : Bool := heapF p s x.1 && (!(decide (x.1.kind = 5) && decide (x.1.num = 1)) || decide ((x.2 : Int) ∈ gensD s.threads))
def preD (p : ProgT) (s : StateT) : Bool := decide (0 < s.threads.length) && decide (p.texts.length ≤ s.texts.length) && decide (0 ≤ s.steps ∧ s.steps ≤ 1000000000) && decide (0 ≤ s.asked ∧ s.asked ≤ 1000000000) && decide (s.texts.take p.texts.length = p.texts)
def rightD (p : ProgT) (s : StateT) : Bool := preD p s && (decide (gensD s.threads).Nodup && s.cells.zipIdx.all (cellD p s) && s.threads.all (threadD p s))
theorem stackR_gens {p : ProgT} {s : StateT} : ∀ {fs : List FrameT} {k : Nat} {low : Int}, stackR p s k low fs → gensF fs = gensL fs
  | [], _, _, _ => rfl
  | f :: fs, k, low, h => by
    unfold stackR at h
    have h2 := stackR_gens h.2
    have h3 : ¬ f.gen < -1 := by
      have := h.1.1
      unfold onF at this
      simp only [Bool.and_eq_true, Bool.not_eq_true', decide_eq_false_iff_not] at this
      exact this.2
    unfold gensF gensL at h2 ⊢
    by_cases h1 : 0 ≤ f.gen
    · rw [List.filter_cons_of_pos (by simp; omega), List.filter_cons_of_pos (by simpa using h1), List.map_cons, List.map_cons, h2]
    · rw [List.filter_cons_of_neg (by simp; omega), List.filter_cons_of_neg (by simpa using h1), h2]
theorem threads_gens {p : ProgT} {s : StateT} : ∀ {ts : List ThreadT}, (∀ t ∈ ts, threadR' p s t) → gensD ts = gensT ts
  | [], _ => rfl
  | t :: ts, h => by
    show gensF t.frames ++ gensD ts = gensL t.frames ++ gensT ts
    rw [stackR_gens (h t (List.mem_cons_self ..)).2, threads_gens fun u hu => h u (List.mem_cons_of_mem _ hu)]
theorem rightD_iff (p : ProgT) (s : StateT) : rightD p s = rightS p s := by
  rw [Bool.eq_iff_iff]
  unfold rightD rightS preD
  simp only [Bool.and_eq_true, decide_eq_true_eq, Bool.not_eq_true', decide_eq_false_iff_not, List.all_eq_true]
  constructor
  · rintro ⟨⟨⟨⟨⟨a1, a2⟩, a3⟩, a4⟩, a5⟩, ⟨a6, a7⟩, a8⟩
    have ht : ∀ t ∈ s.threads, threadR' p s t := fun t h => threadD_iff.1 (a8 t h)
    have eg := threads_gens ht
    rw [eg] at a6
    have hg : (threadsG p s s.threads []).1 = true := threadsG_true.2 ⟨ht, a6⟩
    refine ⟨⟨⟨⟨⟨⟨⟨a2, a5⟩, a3⟩, a4⟩, by omega⟩, fun c hc => ?_⟩, hg⟩, fun x hx => ?_⟩
    · obtain ⟨k, hk⟩ := List.mem_iff_getElem?.1 hc
      have := a7 (c, k) (by rw [List.mem_zipIdx_iff_getElem?]; exact hk)
      unfold cellD at this
      rw [Bool.and_eq_true] at this
      exact this.1
    · have := a7 x hx
      unfold cellD at this
      rw [Bool.and_eq_true, eg] at this
      have e : decide ((x.2 : Int) ∈ (threadsG p s s.threads []).2) = decide ((x.2 : Int) ∈ gensT s.threads) := by rw [decide_eq_decide]; exact threadsG_mem hg _
      rw [e]; exact this.2
  · rintro ⟨⟨⟨⟨⟨⟨⟨a1, a2⟩, a3⟩, a4⟩, a5⟩, a6⟩, a7⟩, a8⟩
    have h9 := threadsG_true.1 a7
    have eg := threads_gens h9.1
    refine ⟨⟨⟨⟨⟨by omega, a1⟩, a3⟩, a4⟩, a2⟩, ⟨by rw [eg]; exact h9.2, fun x hx => ?_⟩, fun t h => threadD_iff.2 (h9.1 t h)⟩
    unfold cellD
    rw [Bool.and_eq_true, eg]
    refine ⟨a6 x.1 ?_, ?_⟩
    · obtain ⟨c, k⟩ := x
      rw [List.mem_zipIdx_iff_getElem?] at hx
      exact List.mem_of_getElem? hx
    · have e : decide ((x.2 : Int) ∈ (threadsG p s s.threads []).2) = decide ((x.2 : Int) ∈ gensT s.threads) := by rw [decide_eq_decide]; exact threadsG_mem a7 _
      rw [← e]; exact a8 x hx
theorem faultS_D (p : ProgT) (s : StateT) : faultS p s = if checkF p ≠ 0 then checkF p else if checkS s ≠ 0 then checkS s else if manyS s = true then 2 else if rightD p s = true then 0 else 3 := by
  unfold faultS; rw [rightD_iff]
def RegsOk (s : StateT) : Prop := ∀ c ∈ s.cells, RegsC c
theorem heapFault_c (s : StateT) (hs : Swf s) (hrg : RegsOk s) : FC Cx 78 [stateV s] [] (Iv (checkS s)) [] := by
  have hl := hs.len
  obtain ⟨s1, s2, s3, s4, s5, s6⟩ := hs.len
  have l1 : (s.cells.map cellR).length = s.cells.length := List.length_map ..
  have l2 : (s.texts.map strR).length = s.texts.length := List.length_map ..
  have l3 : (s.said.map valR).length = s.said.length := List.length_map ..
  have l4 : (s.ends.map endR).length = s.ends.length := List.length_map ..
  have l5 : (s.shapes.map valR).length = s.shapes.length := List.length_map ..
  have hshw := hs.shapes
  rw [checkS_D]
  refine FCp_st [Sh.ct_fault, ct_ownWords, ct_cellRight', ct_rfits', ct_rkind', ct_rBetween] Tryz.func78 Tryz.ntmps78 Tryz.results78 ?_
  refine goR ?_
  refine fzB 1 ?_
  (any_goals refine go lv78 0 ?_)
  -- texts that are too long
  generalize hA0 : (decide ((300 : Int) < (s.cells.length : Int)) || decide ((300 : Int) < (s.texts.length : Int)) || decide ((200 : Int) < (s.said.length : Int)) || decide ((100 : Int) < (s.ends.length : Int))) = A0
  refine Rn_loopA [1, 3, 46, 47, 48] (fun k : Nat => k ≤ s.texts.length) (fun k => ⟨203, [(1, stateP s), (3, Bv (A0 || (s.texts.take k).any bigS)), (46, strsV s.texts), (47, Iv s.texts.length), (48, Iv k)], [(1, 2, .gone)]⟩) (fun k => s.texts.length - k) 0 (Nat.zero_le _) ?_ rfl (by simp [trimT, memN, hA0])
  intro k hk
  by_cases hlt : k < s.texts.length
  case pos =>
    obtain ⟨x, hx, hg, h1, h2, hw⟩ := each_at strR s.texts hlt (by omega)
    (any_goals refine go lv78 0 ?_)
    refine ⟨k + 1, by omega, by omega, ?_⟩
    rw [any_take hx, ← Bool.or_assoc]
    exact Le_keepA [1, 3, 46, 47, 48]
  obtain rfl : k = s.texts.length := by omega
  have e1 := each_end s.texts
  have c2 : (A0 || s.texts.any bigS || s.cells.any bigC) = largeS s := by rw [← hA0]; rfl
  rw [List.take_length]
  clear hlt hk
  generalize hA1 : (A0 || s.texts.any bigS) = A1 at *
  (any_goals refine go lv78 0 ?_)
  clear e1
  -- cells that are too large
  refine Rn_loopA [1, 3, 60, 61, 62] (fun x : Nat × Nat => x.1 ≤ s.cells.length) (fun x => let k := x.1; let u := x.2; ⟨203, [(1, stateP s), (3, Bv (A1 || (s.cells.take k).any bigC)), (60, cellsV s.cells), (61, Iv s.cells.length), (62, Iv k)], [(1, 2, .gone), (7, u, .gone), (16, u, .gone), (18, u, .gone), (20, u, .gone), (22, u, .gone)]⟩) (fun x => s.cells.length - x.1) (0, 0) (Nat.zero_le _) ?_ rfl (by simp [trimT, memN])
  rintro ⟨k, u⟩ hk
  dsimp only at hk ⊢
  by_cases hlt : k < s.cells.length
  case pos =>
    obtain ⟨c, hx, hg, h1, h2, hw⟩ := each_at cellR s.cells hlt (by omega)
    have lv : (c.vals.map valR).length = c.vals.length := List.length_map ..
    have hb : bigC c = (if c.kind = 7 then decide ((600 : Int) < (c.vals.length : Int)) else decide ((100 : Int) < (c.vals.length : Int))) := by
      unfold bigC
      by_cases h7 : c.kind = 7
      · rw [if_pos h7, decide_eq_true h7, Bool.not_true, Bool.false_or, Bool.eq_iff_iff]; simp; omega
      · rw [if_neg h7, decide_eq_false h7, Bool.not_false, Bool.true_or, Bool.and_true]
    have eb := any_take (q := bigC) hx
    by_cases h7 : c.kind = 7
    · rw [if_pos h7] at hb
      have d7 : decide (c.kind = 7) = true := by simpa using h7
      clear h7
      (any_goals refine go lv78 0 ?_)
      refine ⟨(k + 1, u + 9), by dsimp only; omega, by dsimp only; omega, ?_⟩
      dsimp only
      rw [eb, hb, ← Bool.or_assoc]
      exact Le_keepA [1, 3, 60, 61, 62]
    · rw [if_neg h7] at hb
      have d7 : decide (c.kind = 7) = false := by simpa using h7
      clear h7
      (any_goals refine go lv78 0 ?_)
      refine ⟨(k + 1, u + 9), by dsimp only; omega, by dsimp only; omega, ?_⟩
      dsimp only
      rw [eb, hb, ← Bool.or_assoc]
      exact Le_keepA [1, 3, 60, 61, 62]
  obtain rfl : k = s.cells.length := by omega
  have e1 := each_end s.cells
  rw [List.take_length, c2]
  clear hlt hk c2 hA1
  cases hL : largeS s with
  | true =>
    rw [if_pos rfl]
    (any_goals refine go lv78 0 ?_)
    all_goals (try simp only [go_sem])
  | false =>
  rw [if_neg (by simp)]
  have hp := large_no hL
  by_cases hk : Sh.checkF s.shapes = 0
  case neg =>
    rw [if_pos hk]
    have d0 : decide (Sh.checkF s.shapes = 0) = false := by simpa using hk
    (any_goals refine go lv78 0 ?_)
    all_goals (try simp only [go_sem])
  rw [if_neg (by simpa using hk)]
  have d0 : decide (Sh.checkF s.shapes = 0) = true := by simpa using hk
  have hc3 := hp.cells
  (any_goals refine go lv78 0 ?_)
  clear e1
  -- texts
  generalize hB0 : decide ((19 : Int) ≤ (s.texts.length : Int)) = B0
  refine Rn_loopA [1, 10, 90, 91, 92] (fun k : Nat => k ≤ s.texts.length) (fun k => ⟨203, [(1, stateP s), (10, Bv (B0 && tOk s.texts k)), (90, strsV s.texts), (91, Iv s.texts.length), (92, Iv k)], [(1, 2, .gone), (7, u, .gone), (16, u, .gone), (18, u, .gone), (20, u, .gone), (22, u, .gone)]⟩) (fun k => s.texts.length - k) 0 (Nat.zero_le _) ?_ rfl (by simp [trimT, memN, hB0, tOk])
  intro k hk
  by_cases hlt : k < s.texts.length
  case pos =>
    have c1 : decide ((k : Int) < (s.texts.length : Int)) = true := by rw [decide_eq_true_eq]; omega
    have t1 : Int.toNat (k : Int) = k := by omega
    have w1 : IntKind.i64.wrap ((k : Int) + 1) = ((k + 1 : Nat) : Int) := by rw [wrap_id] <;> omega
    obtain ⟨t, ht⟩ : ∃ t, s.texts[k]? = some t := ⟨s.texts[k], List.getElem?_eq_getElem hlt⟩
    have hg := getD_map strR ht ([] : List RV)
    have hm : List.drop 0 (List.take k (s.texts.map strR)) = (s.texts.take k).map strR := by rw [List.map_take]; rfl
    have lm : ((s.texts.take k).map strR).length = k := by simp; omega
    have ek : s.texts.getD k ⟨#[]⟩ = t := by simp [List.getD, ht]
    (any_goals refine go (dropL 24 lv78) 0 ?_)
    refine Rn_cutX (st' := ⟨203, [(1, stateP s), (10, Bv (B0 && tOk s.texts k && (decide (19 ≤ k) || decide (t = wordsL.getD k ⟨#[]⟩)))), (90, strsV s.texts), (91, Iv s.texts.length), (92, Iv k), (11, Iv k), (12, Sv t)], [(1, 2, .gone), (7, u, .gone), (16, u, .gone), (18, u, .gone), (20, u, .gone), (22, u, .gone)]⟩) True rfl ?_ fun _ => ?_
    · cases hq : (B0 && tOk s.texts k) with
      | false =>
        simp only [Bool.false_and]
        (any_goals refine go lv78 0 ?_)
        all_goals (try simp only [go_sem])
        exact Lx.le (Le_keepA [1, 10, 90, 91, 92, 11, 12])
      | true =>
        by_cases h19 : 19 ≤ k
        · have e2 : decide ((19 : Int) ≤ (k : Int)) = true := by rw [decide_eq_true_eq]; omega
          rw [decide_eq_true h19]
          (any_goals refine go lv78 0 ?_)
          all_goals (try simp only [go_sem])
          exact Lx.le (Le_keepA [1, 10, 90, 91, 92, 11, 12])
        · have e2 : decide ((19 : Int) ≤ (k : Int)) = false := by rw [decide_eq_false_iff_not]; omega
          rw [decide_eq_false h19]
          obtain ⟨x, hx⟩ : ∃ x, wordsL[k]? = some x := ⟨wordsL[k]'(by rw [words_length]; omega), List.getElem?_eq_getElem _⟩
          have hgw := getD_map strR hx ([] : List RV)
          have ew : wordsL.getD k ⟨#[]⟩ = x := by simp [List.getD, hx]
          rw [ew]
          (any_goals refine go lv78 0 ?_)
          all_goals (try simp only [go_sem])
          exact Lx.le (Le_keepA [1, 10, 90, 91, 92, 11, 12])
    generalize hX : (B0 && tOk s.texts k && (decide (19 ≤ k) || decide (t = wordsL.getD k ⟨#[]⟩))) = X
    (any_goals refine go lv78 0 ?_)
    refine Rn_loopA [1, 10, 90, 91, 92, 12, 113, 114, 115] (fun i : Nat => i ≤ k) (fun i => ⟨203, [(1, stateP s), (10, Bv (X && ((s.texts.take k).take i).all fun u => !decide (t = u))), (90, strsV s.texts), (91, Iv s.texts.length), (92, Iv k), (12, Sv t), (113, strsV (s.texts.take k)), (114, Iv k), (115, Iv i)], [(1, 2, .gone), (7, u, .gone), (16, u, .gone), (18, u, .gone), (20, u, .gone), (22, u, .gone)]⟩) (fun i => k - i) 0 (Nat.zero_le _) ?_ rfl (by simp [trimT, memN])
    intro i hi
    by_cases hik : i < k
    case pos =>
      have c2 : decide ((i : Int) < (k : Int)) = true := by rw [decide_eq_true_eq]; omega
      have t2 : Int.toNat (i : Int) = i := by omega
      have w2 : IntKind.i64.wrap ((i : Int) + 1) = ((i + 1 : Nat) : Int) := by rw [wrap_id] <;> omega
      obtain ⟨y, hy⟩ : ∃ s', (s.texts.take k)[i]? = some s' := ⟨(s.texts.take k)[i]'(by simp; omega), List.getElem?_eq_getElem _⟩
      have hgy := getD_map strR hy ([] : List RV)
      (any_goals refine go lv78 0 ?_)
      refine ⟨i + 1, by omega, by omega, ?_⟩
      rw [all_take hy, ← Bool.and_assoc]
      exact Le_keepA [1, 10, 90, 91, 92, 12, 113, 114, 115]
    obtain rfl : i = k := by omega
    have c2 : decide ((i : Int) < (i : Int)) = false := by rw [decide_eq_false_iff_not]; omega
    have eX : (X && ((s.texts.take i).take i).all fun u => !decide (t = u)) = (B0 && tOk s.texts (i + 1)) := by
      rw [tOk_succ, ← hX]
      unfold tOne
      rw [ek, List.take_of_length_le (l := s.texts.take i) (by simp; omega)]
      simp only [Bool.and_assoc]
    rw [eX]
    (any_goals refine go lv78 0 ?_)
    refine ⟨i + 1, by omega, by omega, ?_⟩
    exact Le_keepA [1, 10, 90, 91, 92]
  obtain rfl : k = s.texts.length := by omega
  have e1 := each_end s.texts
  have hC0 : (B0 && tOk s.texts s.texts.length) = textsF s.texts := by
    unfold textsF
    by_cases h19 : 19 ≤ s.texts.length
    · rw [← hB0, decide_eq_true (show (19 : Int) ≤ (s.texts.length : Int) by omega), decide_eq_true h19, Bool.true_and, Bool.true_and, tOk_all _ h19]
    · rw [← hB0, decide_eq_false (show ¬ (19 : Int) ≤ (s.texts.length : Int) by omega), decide_eq_false h19]; rfl
  rw [hC0]
  clear hlt hC0 hB0 hk
  unfold rightH
  generalize textsF s.texts = C0
  (any_goals refine go lv78 0 ?_)
  clear e1
  -- shapes
  refine Rn_loopA [1, 10, 128, 129, 130] (fun x : Nat × Nat => x.1 ≤ s.shapes.length) (fun x => let k := x.1; let u := x.2; ⟨203, [(1, stateP s), (10, Bv (C0 && (s.shapes.take k).all (fun x => decide (x.2 < (s.texts.length : Int))))), (128, valsV s.shapes), (129, Iv s.shapes.length), (130, Iv k)], [(1, 2, .gone), (7, u, .gone), (16, u, .gone), (18, u, .gone), (20, u, .gone), (22, u, .gone)]⟩) (fun x => s.shapes.length - x.1) (0, u) (Nat.zero_le _) ?_ rfl (by simp [trimT, memN])
  clear u
  rintro ⟨k, u⟩ hk
  dsimp only at hk ⊢
  by_cases hlt : k < s.shapes.length
  case pos =>
    obtain ⟨x, hx, hg, h1, h2, hw⟩ := each_at valR s.shapes hlt (by omega)
    have eb := all_take (q := (fun x => decide (x.2 < (s.texts.length : Int)))) hx
    generalize (s.shapes.take k).all (fun x => decide (x.2 < (s.texts.length : Int))) = T at *
    (any_goals refine go lv78 0 ?_)
    refine ⟨(k + 1, u + 9), by dsimp only; omega, by dsimp only; omega, ?_⟩
    dsimp only
    rw [eb, ← Bool.and_assoc]
    exact Le_keepA [1, 10, 128, 129, 130]
  obtain rfl : k = s.shapes.length := by omega
  have e1 := each_end s.shapes
  rw [List.take_length]
  clear hlt hk
  generalize (C0 && s.shapes.all (fun x => decide (x.2 < (s.texts.length : Int)))) = C1
  (any_goals refine go lv78 0 ?_)
  clear e1
  -- cells
  refine Rn_loopA [1, 10, 145, 146, 147] (fun x : Nat × Nat => x.1 ≤ s.cells.length) (fun x => let k := x.1; let u := x.2; ⟨203, [(1, stateP s), (10, Bv (C1 && (s.cells.take k).all (cellF s))), (145, cellsV s.cells), (146, Iv s.cells.length), (147, Iv k)], [(1, 2, .gone), (7, u, .gone), (16, u, .gone), (18, u, .gone), (20, u, .gone), (22, u, .gone)]⟩) (fun x => s.cells.length - x.1) (0, u) (Nat.zero_le _) ?_ rfl (by simp [trimT, memN])
  clear u
  rintro ⟨k, u⟩ hk
  dsimp only at hk ⊢
  by_cases hlt : k < s.cells.length
  case pos =>
    obtain ⟨x, hx, hg, h1, h2, hw⟩ := each_at cellR s.cells hlt (by omega)
    have hcw := hs.cell x (List.mem_of_getElem? hx)
    have hcr := hrg x (List.mem_of_getElem? hx)
    have eb := all_take (q := (cellF s)) hx
    generalize (s.cells.take k).all (cellF s) = T at *
    (any_goals refine go lv78 0 ?_)
    refine ⟨(k + 1, u + 9), by dsimp only; omega, by dsimp only; omega, ?_⟩
    dsimp only
    rw [eb, ← Bool.and_assoc]
    exact Le_keepA [1, 10, 145, 146, 147]
  obtain rfl : k = s.cells.length := by omega
  have e1 := each_end s.cells
  rw [List.take_length]
  clear hlt hk
  generalize (C1 && s.cells.all (cellF s)) = C2
  (any_goals refine go lv78 0 ?_)
  clear e1
  -- what was said
  refine Rn_loopA [1, 10, 159, 160, 161] (fun x : Nat × Nat => x.1 ≤ s.said.length) (fun x => let k := x.1; let u := x.2; ⟨203, [(1, stateP s), (10, Bv (C2 && (s.said.take k).all (fun v => decide (v.1 = 4) && fitsF s v))), (159, valsV s.said), (160, Iv s.said.length), (161, Iv k)], [(1, 2, .gone), (7, u, .gone), (16, u, .gone), (18, u, .gone), (20, u, .gone), (22, u, .gone)]⟩) (fun x => s.said.length - x.1) (0, u) (Nat.zero_le _) ?_ rfl (by simp [trimT, memN])
  clear u
  rintro ⟨k, u⟩ hk
  dsimp only at hk ⊢
  by_cases hlt : k < s.said.length
  case pos =>
    obtain ⟨x, hx, hg, h1, h2, hw⟩ := each_at valR s.said hlt (by omega)
    have eb := all_take (q := (fun v => decide (v.1 = 4) && fitsF s v)) hx
    generalize (s.said.take k).all (fun v => decide (v.1 = 4) && fitsF s v) = T at *
    (any_goals refine go lv78 0 ?_)
    refine ⟨(k + 1, u + 9), by dsimp only; omega, by dsimp only; omega, ?_⟩
    dsimp only
    rw [eb, ← Bool.and_assoc, ← Bool.and_assoc]
    exact Le_keepA [1, 10, 159, 160, 161]
  obtain rfl : k = s.said.length := by omega
  have e1 := each_end s.said
  rw [List.take_length]
  clear hlt hk
  generalize (C2 && s.said.all (fun v => decide (v.1 = 4) && fitsF s v)) = C3
  (any_goals refine go lv78 0 ?_)
  clear e1
  -- ends
  refine Rn_loopA [1, 10, 178, 179, 180] (fun x : Nat × Nat => x.1 ≤ s.ends.length) (fun x => let k := x.1; let u := x.2; ⟨203, [(1, stateP s), (10, Bv (C3 && (s.ends.take k).all (fun e => decide (0 ≤ e.cell ∧ e.cell ≤ (s.cells.length : Int) - 1) && refF s e.fn 4))), (178, endsV s.ends), (179, Iv s.ends.length), (180, Iv k)], [(1, 2, .gone), (7, u, .gone), (16, u, .gone), (18, u, .gone), (20, u, .gone), (22, u, .gone)]⟩) (fun x => s.ends.length - x.1) (0, u) (Nat.zero_le _) ?_ rfl (by simp [trimT, memN])
  clear u
  rintro ⟨k, u⟩ hk
  dsimp only at hk ⊢
  by_cases hlt : k < s.ends.length
  case pos =>
    obtain ⟨x, hx, hg, h1, h2, hw⟩ := each_at endR s.ends hlt (by omega)
    have w1 : IntKind.i64.wrap ((s.cells.length : Int) - 1) = (s.cells.length : Int) - 1 := by rw [wrap_id] <;> omega
    have eb := all_take (q := (fun e => decide (0 ≤ e.cell ∧ e.cell ≤ (s.cells.length : Int) - 1) && refF s e.fn 4)) hx
    generalize (s.ends.take k).all (fun e => decide (0 ≤ e.cell ∧ e.cell ≤ (s.cells.length : Int) - 1) && refF s e.fn 4) = T at *
    (any_goals refine go lv78 0 ?_)
    refine ⟨(k + 1, u + 9), by dsimp only; omega, by dsimp only; omega, ?_⟩
    dsimp only
    rw [eb, ← Bool.and_assoc, ← Bool.and_assoc]
    exact Le_keepA [1, 10, 178, 179, 180]
  obtain rfl : k = s.ends.length := by omega
  have e1 := each_end s.ends
  rw [List.take_length]
  clear hlt hk
  generalize (C3 && s.ends.all (fun e => decide (0 ≤ e.cell ∧ e.cell ≤ (s.cells.length : Int) - 1) && refF s e.fn 4)) = C4
  cases C4
  all_goals
    (any_goals refine go lv78 0 ?_)
    all_goals (try simp only [go_sem])
theorem heapFault'_c (ca sh tx th en sd : List (List RV)) (aq sq : Int) (h : (ca = (cellsOf ca).map cellR ∧ sh = (valsOf sh).map valR ∧ tx = (strsOf tx).map strR ∧ th = (threadsOf th).map threadR ∧ en = (endsOf en).map endR ∧ sd = (valsOf sd).map valR) ∧ Swf ⟨cellsOf ca, valsOf sh, strsOf tx, threadsOf th, endsOf en, valsOf sd, aq, sq⟩ ∧ RegsOk ⟨cellsOf ca, valsOf sh, strsOf tx, threadsOf th, endsOf en, valsOf sd, aq, sq⟩) : FC Cx 78 [.agg [.r (.rs 4 ca), .r (.rs 2 sh), .r (.rs 1 tx), .r (.rs 5 th), .r (.rs 3 en), .r (.rs 2 sd), Iv aq, Iv sq]] [] (Iv (checkS ⟨cellsOf ca, valsOf sh, strsOf tx, threadsOf th, endsOf en, valsOf sd, aq, sq⟩)) [] := by
  have := heapFault_c ⟨cellsOf ca, valsOf sh, strsOf tx, threadsOf th, endsOf en, valsOf sd, aq, sq⟩ h.2.1 h.2.2
  rwa [state_at _ _ _ _ _ _ _ _ h.1] at this
def sp_heapFault' (args : List AV) (K : AV → Prop) : Prop := match args with
  | [.agg [.r (.rs 4 ca), .r (.rs 2 sh), .r (.rs 1 tx), .r (.rs 5 th), .r (.rs 3 en), .r (.rs 2 sd), .r (.v (.int .i64 aq)), .r (.v (.int .i64 sq))]] => ((ca = (cellsOf ca).map cellR ∧ sh = (valsOf sh).map valR ∧ tx = (strsOf tx).map strR ∧ th = (threadsOf th).map threadR ∧ en = (endsOf en).map endR ∧ sd = (valsOf sd).map valR) ∧ Swf ⟨cellsOf ca, valsOf sh, strsOf tx, threadsOf th, endsOf en, valsOf sd, aq, sq⟩ ∧ RegsOk ⟨cellsOf ca, valsOf sh, strsOf tx, threadsOf th, endsOf en, valsOf sd, aq, sq⟩) ∧ K (Iv (checkS ⟨cellsOf ca, valsOf sh, strsOf tx, threadsOf th, endsOf en, valsOf sd, aq, sq⟩))
  | _ => False
theorem sp_heapFault'_ok (args : List AV) (K : AV → Prop) (h : sp_heapFault' args K) : ∃ r, CallOk Cx 78 args r ∧ K r := by
  unfold sp_heapFault' at h
  split at h
  · exact ⟨_, CallOk_of (heapFault'_c _ _ _ _ _ _ _ _ h.1) en78 rfl rfl, h.2⟩
  · exact h.elim
noncomputable abbrev ct_heapFault' : Ct Cx := .pure 78 sp_heapFault' sp_heapFault'_ok
@[go_sem] theorem sp_heapFault'_eq : type_of% @sp_heapFault'.eq_def := @sp_heapFault'.eq_def
end Go.Proofs.YtbhnmolmkembdaaGreatDoor
namespace Go.Proofs.YtbhnmolmkembdaaGreatDoor
set_option linter.unusedVariables false
set_option linter.unusedSimpArgs false
set_option maxHeartbeats 10000000
open Go Go.ChangeShapes Go.WideShapes Go.ChangeAt Go.RowKit
theorem b_val : Tryz.prog.bytesOf 50 = 16 := by kernel_rfl
theorem Ro_frameB {row : List RV} (h : Ro Tryz.prog 61 row) : ∃ f : FrameT, row = frameR f ∧ Gwf f ∧ f.regs.length ≤ 8796093021952 := by
  obtain ⟨f, rfl, hf⟩ := Ro_frame h
  refine ⟨f, rfl, hf, ?_⟩
  obtain ⟨rows, hr, h1, h2⟩ := Ro_struct h Tryz.underlying61
  match rows, h1 with
  | [a, b, c, d, e, u, v], _ =>
    obtain ⟨x1, rfl, _⟩ := Ro_int (h2 0 _ a rfl rfl) Tryz.underlying3
    obtain ⟨x2, rfl, _⟩ := Ro_int (h2 1 _ b rfl rfl) Tryz.underlying3
    obtain ⟨x3, rfl, _⟩ := Ro_int (h2 2 _ c rfl rfl) Tryz.underlying3
    obtain ⟨x4, rfl, q4⟩ := Ro_int (h2 3 _ d rfl rfl) Tryz.underlying3
    obtain ⟨x5, rfl, _⟩ := Ro_vall (h2 4 _ e rfl rfl)
    have h6 := h2 5 _ u rfl rfl
    obtain ⟨x6, rfl, m6, _⟩ := Ro_list valR (fun v => WI v.2) h6 Tryz.underlying23 c_val fun r hr => Ro_vall hr
    have h7 := Ro_sliceB h6 Tryz.underlying23
    rw [b_val, List.length_map] at h7
    have e : f.regs.map valR = x6.map valR := by
      have h8 := congrArg (fun l => l[6]?) hr
      simpa [frameR, valR] using h8
    have e2 := congrArg List.length e
    rw [List.length_map, List.length_map] at e2
    have : reachBytes = 140737488351232 := rfl
    omega
theorem Ro_cellB {row : List RV} (h : Ro Tryz.prog 48 row) : ∃ c : CellT, row = cellR c ∧ Cwf c ∧ RegsC c := by
  obtain ⟨rows, rfl, h1, h2⟩ := Ro_struct h Tryz.underlying48
  match rows, h1 with
  | [a, b, u, v], _ =>
    obtain ⟨x1, rfl, _⟩ := Ro_int (h2 0 _ a rfl rfl) Tryz.underlying3
    obtain ⟨x2, rfl, _⟩ := Ro_int (h2 1 _ b rfl rfl) Tryz.underlying3
    obtain ⟨x3, rfl, m3, q3⟩ := Ro_list valR (fun v => WI v.2) (h2 2 _ u rfl rfl) Tryz.underlying23 c_val fun r hr => Ro_vall hr
    obtain ⟨x4, rfl, m4, q4⟩ := Ro_list frameR (fun f => Gwf f ∧ f.regs.length ≤ 8796093021952) (h2 3 _ v rfl rfl) Tryz.underlying46 c_frame fun r hr => Ro_frameB hr
    exact ⟨⟨x1, x2, x3, x4⟩, rfl, ⟨m3, q3, m4, fun f hf => (q4 f hf).1⟩, fun f hf => (q4 f hf).2⟩
theorem Ro_stateB {row : List RV} (h : Ro Tryz.prog 32 row) : ∃ s : StateT, row = stateR s ∧ Swf s ∧ RegsOk s := by
  obtain ⟨rows, rfl, h1, h2⟩ := Ro_struct h Tryz.underlying32
  match rows, h1 with
  | [a, b, c, d, e, u, v, w], _ =>
    obtain ⟨x1, rfl, m1, q1⟩ := Ro_list cellR (fun c => Cwf c ∧ RegsC c) (h2 0 _ a rfl rfl) Tryz.underlying27 c_cell fun r hr => Ro_cellB hr
    obtain ⟨x2, rfl, m2, q2⟩ := Ro_list valR Sh.WfS (h2 1 _ b rfl rfl) Tryz.underlying28 c_shape fun r hr => Ro_shapel hr
    obtain ⟨x3, rfl, m3, _⟩ := Ro_list strR (fun _ => True) (h2 2 _ c rfl rfl) Tryz.underlying24 c_str fun r hr => by
      obtain ⟨s, hs, _⟩ := Ro_str hr Tryz.underlying9
      exact ⟨s, hs, trivial⟩
    obtain ⟨x4, rfl, m4, q4⟩ := Ro_list threadR (fun t => t.frames.length ≤ 9223372036854775807 ∧ ∀ f ∈ t.frames, Gwf f) (h2 3 _ d rfl rfl) Tryz.underlying29 c_thread fun r hr => Ro_thread hr
    obtain ⟨x5, rfl, m5, _⟩ := Ro_list endR (fun _ => True) (h2 4 _ e rfl rfl) Tryz.underlying30 c_end fun r hr => Ro_end hr
    obtain ⟨x6, rfl, m6, _⟩ := Ro_list valR (fun v => WI v.2) (h2 5 _ u rfl rfl) Tryz.underlying23 c_val fun r hr => Ro_vall hr
    obtain ⟨x7, rfl, _⟩ := Ro_int (h2 6 _ v rfl rfl) Tryz.underlying3
    obtain ⟨x8, rfl, _⟩ := Ro_int (h2 7 _ w rfl rfl) Tryz.underlying3
    exact ⟨⟨x1, x2, x3, x4, x5, x6, x7, x8⟩, rfl, ⟨⟨m1, m2, m3, m4, m5, m6⟩, q2, fun c hc => (q1 c hc).1, q4⟩, fun c hc => (q1 c hc).2⟩
end Go.Proofs.YtbhnmolmkembdaaGreatDoor
namespace Go.Proofs.YtbhnmolmkembdaaGreatDoor
set_option linter.unusedVariables false
set_option linter.unusedSimpArgs false
set_option maxHeartbeats 10000000
open Go
set_option maxRecDepth 10000
theorem threadRight_c (p : ProgT) (s : StateT) (t : ThreadT) (hp : Pgo p) (hfs : ∀ f ∈ t.frames, Gwf f) (hl : t.frames.length ≤ 30) (hl2 : s.threads.length ≤ 9223372036854775807) (hsl : s.cells.length ≤ 9223372036854775807) :
    FC Cx 82 [progV p, stateV s, threadA t] [] (Bv (threadD p s t)) [] := by
  have l0 : (t.frames.map frameR).length = t.frames.length := List.length_map ..
  have l1 : (s.threads.map threadR).length = s.threads.length := List.length_map ..
  have l2 : (p.fns.map fnR).length = p.fns.length := List.length_map ..
  have lc : (s.cells.map cellR).length = s.cells.length := List.length_map ..
  unfold threadD
  obtain ⟨fs, state, on, ⟨vk, vn⟩⟩ := t
  dsimp only at *
  have w1 : IntKind.i64.wrap ((s.threads.length : Int) - 1) = (s.threads.length : Int) - 1 := by rw [wrap_id] <;> omega
  have hlen : decide ((0 : Int) < (fs.length : Int)) = !decide ((fs.length : Int) = 0) := by
    rw [← decide_not, decide_eq_decide]; omega
  rw [headF_eq]
  obtain ⟨o3, r1⟩ : ∃ c, decide (state = 3) = c := ⟨_, rfl⟩
  obtain ⟨o4, r2⟩ : ∃ c, decide (state = 4) = c := ⟨_, rfl⟩
  obtain ⟨e, r3⟩ : ∃ c, decide ((fs.length : Int) = 0) = c := ⟨_, rfl⟩
  obtain ⟨v1, r4⟩ : ∃ c, decide (vk = 0) = c := ⟨_, rfl⟩
  obtain ⟨v2, r5⟩ : ∃ c, decide (vn = 0) = c := ⟨_, rfl⟩
  obtain ⟨ff, r6⟩ : ∃ c, fitsF s (vk, vn) = c := ⟨_, rfl⟩
  obtain ⟨w, r7⟩ : ∃ c, decide (0 ≤ state ∧ state ≤ 4) = c := ⟨_, rfl⟩
  obtain ⟨sw, r8⟩ : ∃ c, (if state = 1 then refF s (5, on) 6 else if state = 2 then decide (0 ≤ on ∧ on ≤ (s.threads.length : Int) - 1) else decide (on = 0)) = c := ⟨_, rfl⟩
  by_cases hno : (((o3 || o4) == e) && ((o3 || o4) || (v1 && v2)) && ff && w) = false
  · have := threadRight_no p s ⟨fs, state, on, (vk, vn)⟩ hp hfs hl hl2 hsl (by dsimp only; rw [r1, r2, r3, r4, r5, r6, r7]; exact hno)
    rw [r1, r2, r3, r4, r5, r6, r7, hno]
    exact this
  rw [r3] at hlen
  rw [Bool.not_eq_false] at hno
  rw [r1, r2, r3, r4, r5, r6, r7, r8, hno]
  simp only [Bool.and_eq_true] at hno
  obtain ⟨⟨⟨hoe, hov⟩, rfl⟩, rfl⟩ := hno
  rw [Bool.true_and]
  refine FCp_st [ct_rBetween, ct_rkind', ct_rfits', ct_frameRight'] Tryz.func82 Tryz.ntmps82 Tryz.results82 ?_
  refine goR ?_
  refine fzB 3 ?_
  refine fzB 4 ?_
  refine fzB 5 ?_
  refine Rn_seq ?_
  refine Rn_cutX (st' := ⟨137, [(3, .r (.rp (progR p))), (4, stateP s), (5, .r (.rp (threadR ⟨fs, state, on, (vk, vn)⟩))), (7, Bv (o3 || o4))], [(3, 2, .gone), (4, 2, .gone), (5, 2, .gone)]⟩) True rfl ?_ fun _ => ?_
  · cases o3 <;> cases o4
    all_goals
      (any_goals refine go lv82 0 ?_)
      all_goals (try simp only [go_sem])
      exact Lx.le Le_subA
  refine Rn_seq ?_
  refine Rn_cutX (st' := ⟨137, [(3, .r (.rp (progR p))), (4, stateP s), (5, .r (.rp (threadR ⟨fs, state, on, (vk, vn)⟩))), (48, Bv false)], [(3, 2, .gone), (4, 2, .gone), (5, 2, .gone)]⟩) True rfl ?_ fun _ => ?_
  · cases o3 <;> cases o4 <;> cases e <;> first | cases hoe | skip
    all_goals cases v1 <;> cases v2 <;> first | cases hov | skip
    all_goals
      (any_goals refine go lv82 0 ?_)
      all_goals (try simp only [go_sem])
      exact Lx.le Le_subA
  clear hoe hov r1 r2 r3 r4 r5 r6 hlen
  refine Rn_seq ?_
  refine Rn_cutX (st' := ⟨137, [(3, .r (.rp (progR p))), (4, stateP s), (5, .r (.rp (threadR ⟨fs, state, on, (vk, vn)⟩)))], [(3, 2, .gone), (4, 2, .gone), (5, 2, .gone)]⟩) (sw = true) rfl ?_ fun hsw => ?_
  · by_cases s1 : state = 1
    · subst s1
      rw [if_pos rfl] at r8
      cases sw with
      | false =>
        rw [Bool.false_and]
        (any_goals refine go lv82 0 ?_)
        all_goals (try simp only [go_sem])
      | true =>
        (any_goals refine go lv82 0 ?_)
        all_goals (try simp only [go_sem])
        exact Lx.le Le_subA
    rw [if_neg s1] at r8
    have d1 : decide (state = 1) = false := by simpa using s1
    by_cases s2 : state = 2
    · subst s2
      rw [if_pos rfl] at r8
      cases sw with
      | false =>
        rw [Bool.false_and]
        (any_goals refine go lv82 0 ?_)
        all_goals (try simp only [go_sem])
      | true =>
        (any_goals refine go lv82 0 ?_)
        all_goals (try simp only [go_sem])
        exact Lx.le Le_subA
    rw [if_neg s2] at r8
    have d2 : decide (state = 2) = false := by simpa using s2
    cases sw with
    | false =>
      rw [Bool.false_and]
      (any_goals refine go lv82 0 ?_)
      all_goals (try simp only [go_sem])
    | true =>
      (any_goals refine go lv82 0 ?_)
      all_goals (try simp only [go_sem])
      exact Lx.le Le_subA
  subst hsw
  rw [Bool.true_and]
  clear r8 r7
  (any_goals refine go lv82 0 ?_)
  have h60 := hp.fns
  refine Rn_loopS (fun x : Nat × Nat => x.1 ≤ fs.length ∧ stackD p s 0 0 fs = stackD p s x.1 (lowAt fs x.1) (fs.drop x.1)) (fun x => ⟨137, [(3, .r (.rp (progR p))), (4, stateP s), (5, .r (.rp (threadR ⟨fs, state, on, (vk, vn)⟩))), (73, framesV fs), (74, Iv fs.length), (75, Iv x.1)], [(3, 2, .gone), (4, 2, .gone), (5, 2, .gone), (9, x.2, .gone)]⟩) (fun x => fs.length - x.1) (0, 0) ⟨Nat.zero_le _, rfl⟩ ?_
  rintro ⟨i, u⟩ ⟨hi, hG⟩
  dsimp only at hi hG ⊢
  by_cases hlt : i < fs.length
  case neg =>
    obtain rfl : i = fs.length := by omega
    have e1 := each_end fs
    rw [List.drop_length] at hG
    have hG' : stackD p s 0 0 fs = true := hG
    rw [hG']
    clear hG hG'
    (any_goals refine go lv82 0 ?_)
    all_goals (try simp only [go_sem])
  obtain ⟨f, hx, hg, h1, h2, hw⟩ := each_at frameR fs hlt (by omega)
  have hwf := hfs f (List.mem_of_getElem? hx)
  have hd : fs.drop i = f :: fs.drop (i + 1) := by rw [← List.getElem_cons_drop hlt]; congr 1; exact (List.getElem?_eq_some_iff.1 hx).2
  have hnx : lowAt fs (i + 1) = f.regs.length := by
    unfold lowAt
    rw [if_neg (by omega), Nat.add_sub_cancel, List.getD_eq_getElem?_getD, hx]; rfl
  rw [hd] at hG
  have hst : stackD p s i (lowAt fs i) (f :: fs.drop (i + 1)) = (frameF p s f && decide (-1 ≤ f.tov ∧ f.tov ≤ lowAt fs i - 1) && ((p.fns.getD f.fn.toNat fn0).gen == !decide (f.gen = -1)) && (!(p.fns.getD f.fn.toNat fn0).gen || goesF s i f) && stackD p s (i + 1) f.regs.length (fs.drop (i + 1))) := rfl
  rw [hst] at hG
  clear hst hd
  obtain ⟨fn, pc, tov, gen, ⟨sk, sn⟩, regs, tries⟩ := f
  dsimp only at hG hnx
  have lr : (regs.map valR).length = regs.length := List.length_map ..
  have eR : Int.toNat ((i : Int) - 1) = i - 1 := by omega
  cases hfr : frameF p s ⟨fn, pc, tov, gen, (sk, sn), regs, tries⟩ with
  | false =>
    rw [hfr] at hG
    simp only [Bool.false_and] at hG
    rw [hG]
    clear hG hnx
    (any_goals refine go lv82 0 ?_)
    all_goals (try simp only [go_sem])
  | true =>
  obtain ⟨⟨f1, f2⟩, _, _⟩ := frame_fn hfr
  dsimp only at f1 f2
  obtain ⟨F, hF⟩ : ∃ F, p.fns[fn.toNat]? = some F := ⟨p.fns[fn.toNat]'(by omega), List.getElem?_eq_getElem _⟩
  have gF := getD_map fnR hF ([] : List RV)
  have eF : p.fns.getD fn.toNat fn0 = F := by rw [List.getD_eq_getElem?_getD, hF]; rfl
  obtain ⟨b4, h4⟩ : ∃ b, F.gen = b := ⟨_, rfl⟩
  obtain ⟨b1, k1⟩ : ∃ b, decide (-1 ≤ tov ∧ tov ≤ lowAt fs i - 1) = b := ⟨_, rfl⟩
  obtain ⟨b2, k2⟩ : ∃ b, decide (gen = -1) = b := ⟨_, rfl⟩
  rw [hfr, k1, eF, h4, k2] at hG
  simp only [Bool.true_and] at hG
  clear eF
  by_cases i0 : i = 0
  · have e0 : decide ((0 : Int) < (i : Int)) = false := by rw [decide_eq_false_iff_not]; omega
    have e2 : decide ((i : Int) = 0) = true := by rw [decide_eq_true_eq]; omega
    have hgo : goesF s i ⟨fn, pc, tov, gen, (sk, sn), regs, tries⟩ = false := by unfold goesF; rw [decide_eq_true i0]; rfl
    have k1' : decide (-1 ≤ tov ∧ tov ≤ -1) = b1 := by rw [← k1]; unfold lowAt; rw [if_pos i0]; rfl
    clear i0 k1
    cases b1 with
    | false =>
      simp only [Bool.false_and] at hG
      rw [hG]
      clear hG hnx
      (any_goals refine go lv82 0 ?_)
      all_goals (try simp only [go_sem])
    | true =>
    cases b4 <;> cases b2
    · replace hG := hG.trans (show _ = false by simp)
      rw [hG]
      clear hG hnx
      (any_goals refine go lv82 0 ?_)
      all_goals (try simp only [go_sem])
    · simp only [Bool.true_and, Bool.not_false, Bool.not_true, Bool.true_or, beq_self_eq_true] at hG
      (any_goals refine go lv82 0 ?_)
      refine ⟨(i + 1, u + 9), ⟨by dsimp only; omega, by dsimp only; rw [hG, hnx]⟩, by dsimp only; omega, ?_⟩
      dsimp only
      exact Le_subA
    · rw [hgo] at hG
      simp only [Bool.true_and, Bool.not_false, Bool.not_true, Bool.or_self, Bool.false_and, beq_self_eq_true] at hG
      clear hgo
      rw [hG]
      clear hG hnx
      (any_goals refine go lv82 0 ?_)
      all_goals (try simp only [go_sem])
    · replace hG := hG.trans (show _ = false by simp)
      rw [hG]
      clear hG hnx
      (any_goals refine go lv82 0 ?_)
      all_goals (try simp only [go_sem])
  · have e0 : decide ((0 : Int) < (i : Int)) = true := by rw [decide_eq_true_eq]; omega
    have e2 : decide ((i : Int) = 0) = false := by rw [decide_eq_false_iff_not]; omega
    have w2 : IntKind.i64.wrap ((i : Int) - 1) = (i : Int) - 1 := by rw [wrap_id] <;> omega
    obtain ⟨f0, hf0⟩ : ∃ v, fs[i - 1]? = some v := ⟨fs[i - 1], List.getElem?_eq_getElem (by omega)⟩
    have hg0 := getD_map frameR hf0 ([] : List RV)
    have lr0 : (f0.regs.map valR).length = f0.regs.length := List.length_map ..
    have hwf0 := (hfs f0 (List.mem_of_getElem? hf0)).regs
    have w3 : IntKind.i64.wrap ((f0.regs.length : Int) - 1) = (f0.regs.length : Int) - 1 := by rw [wrap_id] <;> omega
    have i1 : 1 ≤ i := by omega
    have hgo : goesF s i ⟨fn, pc, tov, gen, (sk, sn), regs, tries⟩ = (refF s (5, gen) 5 && decide ((s.cells.getD gen.toNat cell0).num = 1)) := by unfold goesF; rw [decide_eq_false i0]; rfl
    have k1' : decide (-1 ≤ tov ∧ tov ≤ (f0.regs.length : Int) - 1) = b1 := by rw [← k1]; unfold lowAt; rw [if_neg i0, List.getD_eq_getElem?_getD, hf0]; rfl
    clear i0 k1
    cases b1 with
    | false =>
      simp only [Bool.false_and] at hG
      rw [hG]
      clear hG hnx
      (any_goals refine go lv82 0 ?_)
      all_goals (try simp only [go_sem])
    | true =>
    cases b4 <;> cases b2
    · replace hG := hG.trans (show _ = false by simp)
      rw [hG]
      clear hG hnx
      (any_goals refine go lv82 0 ?_)
      all_goals (try simp only [go_sem])
    · simp only [Bool.true_and, Bool.not_false, Bool.not_true, Bool.true_or, beq_self_eq_true] at hG
      (any_goals refine go lv82 0 ?_)
      refine ⟨(i + 1, u + 9), ⟨by dsimp only; omega, by dsimp only; rw [hG, hnx]⟩, by dsimp only; omega, ?_⟩
      dsimp only
      exact Le_subA
    · simp only [Bool.true_and, Bool.not_false, Bool.not_true, Bool.false_or, beq_self_eq_true] at hG
      rw [hgo] at hG
      clear hgo
      cases hr : refF s (5, gen) 5 with
      | false =>
        rw [hr] at hG
        simp only [Bool.false_and] at hG
        rw [hG]
        clear hG hnx
        (any_goals refine go lv82 0 ?_)
        all_goals (try simp only [go_sem])
      | true =>
      have hr2 := ref_on hr
      obtain ⟨n0, n1, _⟩ := hr2
      obtain ⟨c, hc⟩ : ∃ c, s.cells[gen.toNat]? = some c := ⟨s.cells[gen.toNat]'(by omega), List.getElem?_eq_getElem _⟩
      have gC := getD_map cellR hc ([] : List RV)
      rw [hr, kind_at hc] at hG
      cases hnum : decide (c.num = 1) with
      | false =>
        rw [hnum] at hG
        simp only [Bool.and_false, Bool.false_and] at hG
        rw [hG]
        clear hG hnx
        (any_goals refine go lv82 0 ?_)
        all_goals (try simp only [go_sem])
      | true =>
        rw [hnum] at hG
        simp only [Bool.true_and] at hG
        (any_goals refine go lv82 0 ?_)
        refine ⟨(i + 1, u + 9), ⟨by dsimp only; omega, by dsimp only; rw [hG, hnx]⟩, by dsimp only; omega, ?_⟩
        dsimp only
        exact Le_subA
    · replace hG := hG.trans (show _ = false by simp)
      rw [hG]
      clear hG hnx
      (any_goals refine go lv82 0 ?_)
      all_goals (try simp only [go_sem])
theorem nodup_succ {l : List Int} {k : Nat} {g : Int} (h : l[k]? = some g) : decide (l.take (k + 1)).Nodup = (decide (l.take k).Nodup && (l.take k).all fun u => !decide (g = u)) := by
  rw [List.take_add_one, h, Bool.eq_iff_iff]
  simp only [Option.toList, Bool.and_eq_true, decide_eq_true_eq, List.all_eq_true, Bool.not_eq_true', decide_eq_false_iff_not, List.nodup_append]
  constructor
  · rintro ⟨h1, _, h3⟩
    exact ⟨h1, fun u hu he => h3 u hu g (by simp) he.symm⟩
  · rintro ⟨h1, h2⟩
    refine ⟨h1, by simp, fun a ha b hb => ?_⟩
    simp at hb; subst hb
    exact fun he => h2 a ha he.symm
theorem take_succ_eq {l m : List ByteArray} {k : Nat} {x y : ByteArray} (hx : l[k]? = some x) (hy : m[k]? = some y) : decide (l.take (k + 1) = m.take (k + 1)) = (decide (l.take k = m.take k) && decide (x = y)) := by
  rw [List.take_add_one, hx, List.take_add_one, hy, Bool.eq_iff_iff, Bool.and_eq_true]
  simp only [Option.toList]
  have e : (l.take k).length = (m.take k).length := by
    have h1 := (List.getElem?_eq_some_iff.1 hx).1
    have h2 := (List.getElem?_eq_some_iff.1 hy).1
    rw [List.length_take, List.length_take]; omega
  constructor
  · intro h
    have := List.append_inj (of_decide_eq_true h) e
    exact ⟨decide_eq_true this.1, decide_eq_true (by simpa using this.2)⟩
  · rintro ⟨h1, h2⟩
    refine decide_eq_true ?_
    rw [of_decide_eq_true h1, of_decide_eq_true h2]
theorem heap_cells {s : StateT} (h : checkS s = 0) {c : CellT} (hc : c ∈ s.cells) : (c.kind = 4 → 0 ≤ c.num) ∧ (c.kind = 5 → c.num = 0 → c.frames.length = 1) := by
  have := (checkS_iff.1 h).cells c hc
  unfold cellF at this
  simp only [Bool.and_eq_true, decide_eq_true_eq] at this
  obtain ⟨⟨⟨⟨⟨_, a2⟩, _⟩, a4⟩, _⟩, _⟩ := this
  refine ⟨fun k4 => ?_, fun k5 n0 => ?_⟩
  · unfold numF at a2
    rw [if_neg (by rw [k4]; decide), if_pos k4] at a2
    simpa using a2
  · have : framesN c = 1 := if_pos ⟨k5, n0⟩
    rw [this] at a4; omega
theorem stateFault_no (p : ProgT) (s : StateT) (hw : Pwf p) (hs : Swf s) (hrg : RegsOk s) (h : checkF p ≠ 0 ∨ checkS s ≠ 0) : FC Cx 31 [progV p, stateV s] [] (Iv (faultS p s)) [] := by
  rw [faultS_D]
  by_cases hp : checkF p = 0
  case neg =>
    rw [if_pos hp]
    have d0 : decide (checkF p = 0) = false := by simpa using hp
    clear hp h
    refine FCp_st [ct_fault', ct_heapFault'] Tryz.func31 Tryz.ntmps31 Tryz.results31 ?_
    refine goR ?_
    refine fzB 2 ?_
    refine fzB 3 ?_
    (any_goals refine go lv31 0 ?_)
    all_goals (try simp only [go_sem])
  have hh : checkS s ≠ 0 := h.resolve_left (by simpa using hp)
  rw [if_neg (by simpa using hp), if_pos hh]
  have d0 : decide (checkF p = 0) = true := by simpa using hp
  have d1 : decide (checkS s = 0) = false := by simpa using hh
  clear hp hh h
  refine FCp_st [ct_fault', ct_heapFault'] Tryz.func31 Tryz.ntmps31 Tryz.results31 ?_
  refine goR ?_
  refine fzB 2 ?_
  refine fzB 3 ?_
  (any_goals refine go lv31 0 ?_)
  all_goals (try simp only [go_sem])
theorem stateFault_c (p : ProgT) (s : StateT) (hw : Pwf p) (hs : Swf s) (hrg : RegsOk s) : FC Cx 31 [progV p, stateV s] [] (Iv (faultS p s)) [] := by
  by_cases hp : checkF p = 0
  case neg => exact stateFault_no p s hw hs hrg (.inl hp)
  by_cases hh : checkS s = 0
  case neg => exact stateFault_no p s hw hs hrg (.inr hh)
  have hgo := check_go hw hp
  have hcs := fun (c : CellT) (hc : c ∈ s.cells) => heap_cells hh hc
  obtain ⟨s1, s2, s3, s4, s5, s6⟩ := hs.len
  have p3 := hw.sz.texts
  have h60 := hgo.fns
  have l1 : (s.cells.map cellR).length = s.cells.length := List.length_map ..
  have l2 : (s.texts.map strR).length = s.texts.length := List.length_map ..
  have l3 : (s.threads.map threadR).length = s.threads.length := List.length_map ..
  have l4 : (p.texts.map strR).length = p.texts.length := List.length_map ..
  have l5 : (p.fns.map fnR).length = p.fns.length := List.length_map ..
  rw [faultS_D, if_neg (by simpa using hp), if_neg (by simpa using hh)]
  have d0 : decide (checkF p = 0) = true := by simpa using hp
  have d1 : decide (checkS s = 0) = true := by simpa using hh
  refine FCp_st [ct_fault', ct_heapFault', ct_rBetween] Tryz.func31 Tryz.ntmps31 Tryz.results31 ?_
  refine goR ?_
  refine fzB 2 ?_
  refine fzB 3 ?_
  (any_goals refine go lv31 0 ?_)
  clear d0 d1
  -- threads that are too large
  generalize hA0 : decide ((5 : Int) < (s.threads.length : Int)) = A0
  refine Rn_loopA [2, 3, 7, 38, 39, 40] (fun x : Nat × Nat => x.1 ≤ s.threads.length) (fun x => let k := x.1; let u := x.2; ⟨245, [(2, .r (.rp (progR p))), (3, stateP s), (7, Bv (A0 || (s.threads.take k).any fun t => decide ((30 : Int) < (t.frames.length : Int)))), (38, threadsV s.threads), (39, Iv s.threads.length), (40, Iv k)], [(2, 2, .gone), (3, 2, .gone), (9, u, .gone), (19, u, .gone), (20, u, .gone), (22, u, .gone)]⟩) (fun x => s.threads.length - x.1) (0, 0) (Nat.zero_le _) ?_ rfl (by simp [trimT, memN, hA0])
  rintro ⟨k, u⟩ hk
  dsimp only at hk ⊢
  by_cases hlt : k < s.threads.length
  case pos =>
    obtain ⟨t, hx, hg, h1, h2, hw'⟩ := each_at threadR s.threads hlt (by omega)
    have lf : (t.frames.map frameR).length = t.frames.length := List.length_map ..
    have eb := any_take (q := fun t : ThreadT => decide ((30 : Int) < (t.frames.length : Int))) hx
    generalize (s.threads.take k).any (fun t => decide ((30 : Int) < (t.frames.length : Int))) = T at *
    (any_goals refine go lv31 0 ?_)
    refine ⟨(k + 1, u + 9), by dsimp only; omega, by dsimp only; omega, ?_⟩
    dsimp only
    rw [eb, ← Bool.or_assoc]
    exact Le_keepA [2, 3, 7, 38, 39, 40]
  obtain rfl : k = s.threads.length := by omega
  have e1 := each_end s.threads
  have c2 : (A0 || s.threads.any fun t => decide ((30 : Int) < (t.frames.length : Int))) = manyS s := by rw [← hA0]; rfl
  rw [List.take_length, c2]
  clear hlt hk c2 hA0
  cases hL : manyS s with
  | true =>
    rw [if_pos rfl]
    (any_goals refine go lv31 0 ?_)
    all_goals (try simp only [go_sem])
  | false =>
  rw [if_neg (by simp)]
  have hfew : s.threads.length ≤ 5 ∧ ∀ t ∈ s.threads, t.frames.length ≤ 30 := by
    simp only [manyS, Bool.or_eq_false_iff, decide_eq_false_iff_not, List.any_eq_false, decide_eq_true_eq] at hL
    exact ⟨by omega, fun t ht => by have := hL.2 t ht; omega⟩
  clear hL
  (any_goals refine go lv31 0 ?_)
  clear e1
  -- its texts begin with the program's
  generalize hB0 : (decide ((0 : Int) < (s.threads.length : Int)) && decide ((p.texts.length : Int) ≤ (s.texts.length : Int)) && decide (0 ≤ s.steps ∧ s.steps ≤ 1000000000) && decide (0 ≤ s.asked ∧ s.asked ≤ 1000000000)) = B0
  refine Rn_loopA [2, 3, 10, 77, 78, 79] (fun k : Nat => k ≤ p.texts.length) (fun k => ⟨245, [(2, .r (.rp (progR p))), (3, stateP s), (10, Bv (B0 && decide (s.texts.take k = p.texts.take k))), (77, strsV p.texts), (78, Iv p.texts.length), (79, Iv k)], [(2, 2, .gone), (3, 2, .gone), (9, u, .gone), (19, u, .gone), (20, u, .gone), (22, u, .gone)]⟩) (fun k => p.texts.length - k) 0 (Nat.zero_le _) ?_ rfl (by simp [trimT, memN, hB0])
  intro k hk
  by_cases hlt : k < p.texts.length
  case pos =>
    obtain ⟨t, hx, hg, h1, h2, hw'⟩ := each_at strR p.texts hlt (by omega)
    cases hq : (B0 && decide (s.texts.take k = p.texts.take k)) with
    | false =>
      have hn : (B0 && decide (s.texts.take (k + 1) = p.texts.take (k + 1))) = false := by
        rw [Bool.eq_false_iff] at hq ⊢
        intro h
        rw [Bool.and_eq_true] at h
        have h2 := of_decide_eq_true h.2
        refine hq ?_
        rw [Bool.and_eq_true]
        refine ⟨h.1, decide_eq_true ?_⟩
        have := congrArg (List.take k) h2
        rwa [List.take_take, List.take_take, Nat.min_eq_left (by omega)] at this
      clear hq
      (any_goals refine go lv31 0 ?_)
      refine ⟨k + 1, by omega, by omega, ?_⟩
      rw [hn]
      exact Le_keepA [2, 3, 10, 77, 78, 79]
    | true =>
      rw [Bool.and_eq_true] at hq
      have hle : p.texts.length ≤ s.texts.length := by
        have h := hq.1
        rw [← hB0] at h
        simp only [Bool.and_eq_true, decide_eq_true_eq] at h
        omega
      obtain ⟨y, hy⟩ : ∃ y, s.texts[k]? = some y := ⟨s.texts[k]'(by omega), List.getElem?_eq_getElem _⟩
      have hgy := getD_map strR hy ([] : List RV)
      have hn : (B0 && decide (s.texts.take (k + 1) = p.texts.take (k + 1))) = decide (y = t) := by rw [take_succ_eq hy hx, hq.1, hq.2]; rfl
      clear hq
      (any_goals refine go lv31 0 ?_)
      refine ⟨k + 1, by omega, by omega, ?_⟩
      rw [hn]
      exact Le_keepA [2, 3, 10, 77, 78, 79]
  obtain rfl : k = p.texts.length := by omega
  have e1 := each_end p.texts
  have hP : (B0 && decide (s.texts.take p.texts.length = p.texts.take p.texts.length)) = preD p s := by
    rw [List.take_length, ← hB0]
    unfold preD
    have a1 : decide ((0 : Int) < (s.threads.length : Int)) = decide (0 < s.threads.length) := by rw [decide_eq_decide]; omega
    have a2 : decide ((p.texts.length : Int) ≤ (s.texts.length : Int)) = decide (p.texts.length ≤ s.texts.length) := by rw [decide_eq_decide]; omega
    rw [a1, a2]
  rw [hP]
  clear hlt hk hP hB0
  unfold rightD
  cases preD p s with
  | false =>
    simp only [Bool.false_and]
    (any_goals refine go lv31 0 ?_)
    all_goals (try simp only [go_sem])
  | true =>
  rw [Bool.true_and]
  obtain ⟨hf5, hf30⟩ := hfew
  have hgl := gensD_len hf30
  have hA : ∀ y, y = [stateV s] → CallOk Cx 79 y (intsV (gensD s.threads)) := fun y hy => by
    subst hy; exact CallOk_of (gensOf_c s hf5 hf30) en79 rfl rfl
  have lG : ((gensD s.threads).map intR).length = (gensD s.threads).length := List.length_map ..
  have hG150 : (gensD s.threads).length ≤ 150 := by omega
  have hT : ∀ t ∈ s.threads, ∀ y, y = [progV p, stateV s, threadA t] → CallOk Cx 82 y (Bv (threadD p s t)) := fun t ht y hy => by
    subst hy; exact CallOk_of (threadRight_c p s t hgo (hs.thread t ht).2 (hf30 t ht) (by omega) (by omega)) en82 rfl rfl
  have hD : ∀ x, cellD p s x = (heapF p s x.1 && (!(decide (x.1.kind = 5) && decide (x.1.num = 1)) || decide ((x.2 : Int) ∈ gensD s.threads))) := fun x => rfl
  generalize gensD s.threads = G at *
  refine Rn_T [ctE 79 [stateV s] (intsV G) hA] ?_
  (any_goals refine go lv31 0 ?_)
  clear e1
  -- no generator goes on twice
  refine Rn_loopA [2, 3, 10, 13, 99, 100, 101] (fun k : Nat => k ≤ G.length) (fun k => ⟨245, [(2, .r (.rp (progR p))), (3, stateP s), (10, Bv (decide (G.take k).Nodup)), (13, intsV G), (99, intsV G), (100, Iv G.length), (101, Iv k)], [(2, 2, .gone), (3, 2, .gone), (9, u, .gone), (19, u, .gone), (20, u, .gone), (22, u, .gone)]⟩) (fun k => G.length - k) 0 (Nat.zero_le _) ?_ rfl (by simp [trimT, memN])
  intro k hk
  by_cases hlt : k < G.length
  case pos =>
    obtain ⟨g, hx, hg, h1, h2, hw'⟩ := each_at intR G hlt (by omega)
    have hm : List.drop 0 (List.take k (G.map intR)) = (G.take k).map intR := by rw [List.map_take]; rfl
    have lm : ((G.take k).map intR).length = k := by simp; omega
    have hn := nodup_succ hx
    generalize decide (G.take k).Nodup = X at *
    (any_goals refine go lv31 0 ?_)
    refine Rn_loopA [2, 3, 10, 13, 99, 100, 101, 15, 108, 109, 110] (fun i : Nat => i ≤ k) (fun i => ⟨245, [(2, .r (.rp (progR p))), (3, stateP s), (10, Bv (X && ((G.take k).take i).all fun u => !decide (g = u))), (13, intsV G), (99, intsV G), (100, Iv G.length), (101, Iv k), (15, Iv g), (108, intsV (G.take k)), (109, Iv k), (110, Iv i)], [(2, 2, .gone), (3, 2, .gone), (9, u, .gone), (19, u, .gone), (20, u, .gone), (22, u, .gone)]⟩) (fun i => k - i) 0 (Nat.zero_le _) ?_ rfl (by simp [trimT, memN])
    intro i hi
    by_cases hik : i < k
    case pos =>
      have c2 : decide ((i : Int) < (k : Int)) = true := by rw [decide_eq_true_eq]; omega
      have t2 : Int.toNat (i : Int) = i := by omega
      have w2 : IntKind.i64.wrap ((i : Int) + 1) = ((i + 1 : Nat) : Int) := by rw [wrap_id] <;> omega
      obtain ⟨y, hy⟩ : ∃ y, (G.take k)[i]? = some y := ⟨(G.take k)[i]'(by simp; omega), List.getElem?_eq_getElem _⟩
      have hgy := getD_map intR hy ([] : List RV)
      clear hn
      (any_goals refine go lv31 0 ?_)
      refine ⟨i + 1, by omega, by omega, ?_⟩
      rw [all_take hy, ← Bool.and_assoc]
      exact Le_keepA [2, 3, 10, 13, 99, 100, 101, 15, 108, 109, 110]
    obtain rfl : i = k := by omega
    have c2 : decide ((i : Int) < (i : Int)) = false := by rw [decide_eq_false_iff_not]; omega
    rw [List.take_of_length_le (l := G.take i) (by simp; omega), ← hn]
    clear hn
    (any_goals refine go lv31 0 ?_)
    refine ⟨i + 1, by omega, by omega, ?_⟩
    exact Le_keepA [2, 3, 10, 13, 99, 100, 101]
  obtain rfl : k = G.length := by omega
  have e1 := each_end G
  rw [List.take_length]
  clear hlt hk
  generalize hB1 : decide G.Nodup = B1
  (any_goals refine go lv31 0 ?_)
  clear e1
  -- cells
  have lz : s.cells.zipIdx.length = s.cells.length := List.length_zipIdx
  refine Rn_loopA [2, 3, 10, 13, 123, 124, 125] (fun x : Nat × Nat => x.1 ≤ s.cells.length) (fun x => let k := x.1; let u := x.2; ⟨245, [(2, .r (.rp (progR p))), (3, stateP s), (10, Bv (B1 && (s.cells.zipIdx.take k).all (cellD p s))), (13, intsV G), (123, cellsV s.cells), (124, Iv s.cells.length), (125, Iv k)], [(2, 2, .gone), (3, 2, .gone), (9, u, .gone), (19, u, .gone), (20, u, .gone), (22, u, .gone)]⟩) (fun x => s.cells.length - x.1) (0, u) (Nat.zero_le _) ?_ rfl (by simp [trimT, memN])
  clear u
  rintro ⟨k, u⟩ hk
  dsimp only at hk ⊢
  by_cases hlt : k < s.cells.length
  case pos =>
    obtain ⟨c, hx, hg, h1, h2, hw'⟩ := each_at cellR s.cells hlt (by omega)
    have hz : s.cells.zipIdx[k]? = some (c, k) := by rw [List.getElem?_zipIdx, hx]; simp
    have eb := all_take (q := cellD p s) hz
    rw [hD (c, k)] at eb
    have hcw := hs.cell c (List.mem_of_getElem? hx)
    obtain ⟨hc4, hc5⟩ := hcs c (List.mem_of_getElem? hx)
    generalize hT' : (s.cells.zipIdx.take (k + 1)).all (cellD p s) = T' at *
    generalize (s.cells.zipIdx.take k).all (cellD p s) = T at *
    clear hx hz hD hT
    have lv : (c.vals.map valR).length = c.vals.length := List.length_map ..
    have lf : (c.frames.map frameR).length = c.frames.length := List.length_map ..
    have ww : IntKind.i64.wrap ((p.fns.length : Int) - 1) = (p.fns.length : Int) - 1 := by rw [wrap_id] <;> omega
    obtain ⟨kind, num, vals, frames⟩ := c
    dsimp only at *
    (any_goals refine go (dropL 36 lv31) 0 ?_)
    refine goR1 lv31 0 ?_
    refine Rn_cutX (st' := ⟨245, [(2, .r (.rp (progR p))), (3, stateP s), (10, Bv (B1 && T')), (13, intsV G), (123, cellsV s.cells), (124, Iv s.cells.length), (125, Iv k)], [(2, 2, .gone), (3, 2, .gone), (9, u + 9, .gone), (19, u + 9, .gone), (20, u + 9, .gone), (22, u + 9, .gone)]⟩) True rfl ?_ fun _ => ?_
    · clear hT' hk hlt h1 h2 hw' lz hp hh hcs hf30 hgl hf5 s2 s3 s4 s5 s6 hs hrg hw
      have no : (B1 && T) = false → (B1 && T') = false := fun h => by rw [eb, ← Bool.and_assoc, h]; rfl
      by_cases k4 : kind = 4
      · subst k4
        have n0 := hc4 rfl
        have eH : heapF p s ⟨4, num, vals, frames⟩ = (decide (num < (p.fns.length : Int)) && decide ((vals.length : Int) = ((p.fns.getD num.toNat fn0).caught.length : Int))) := by unfold heapF; rw [if_pos rfl]
        rw [eH, show decide ((4 : Int) = 5) = false from rfl, Bool.false_and, Bool.not_false, Bool.true_or, Bool.and_true] at eb
        cases hb : (B1 && T) with
        | false =>
          rw [no hb]
          clear no eb eH hc4 hc5 hcw n0
          (any_goals refine go lv31 0 ?_)
          all_goals (try simp only [go_sem])
          exact Lx.le (Le_keepA [2, 3, 10, 13, 123, 124, 125])
        | true =>
          have e : (B1 && T') = (decide (num < (p.fns.length : Int)) && decide ((vals.length : Int) = ((p.fns.getD num.toNat fn0).caught.length : Int))) := by rw [eb, ← Bool.and_assoc, hb, Bool.true_and]
          rw [e]
          clear no eb eH hc4 hc5 hcw e
          by_cases hn : num < (p.fns.length : Int)
          · have dn : decide (num < (p.fns.length : Int)) = true := by simpa using hn
            have hmin : (if (p.fns.length : Int) - 1 < num then (p.fns.length : Int) - 1 else num) = num := if_neg (by omega)
            obtain ⟨F, hF⟩ : ∃ F, p.fns[num.toNat]? = some F := ⟨p.fns[num.toNat]'(by omega), List.getElem?_eq_getElem _⟩
            have gF := getD_map fnR hF ([] : List RV)
            have eF : p.fns.getD num.toNat fn0 = F := by simp [List.getD, hF]
            have lc : (F.caught.map intR).length = F.caught.length := List.length_map ..
            rw [eF, dn, Bool.true_and]
            clear eF hF
            (any_goals refine go lv31 0 ?_)
            all_goals (try simp only [go_sem])
            exact Lx.le (Le_keepA [2, 3, 10, 13, 123, 124, 125])
          · have dn : decide (num < (p.fns.length : Int)) = false := by simpa using hn
            rw [dn, Bool.false_and]
            clear hn
            (any_goals refine go lv31 0 ?_)
            all_goals (try simp only [go_sem])
            exact Lx.le (Le_keepA [2, 3, 10, 13, 123, 124, 125])
      have d4 : decide (kind = 4) = false := by simpa using k4
      by_cases k5 : kind = 5
      case neg =>
        have d5 : decide (kind = 5) = false := by simpa using k5
        have eH : heapF p s ⟨kind, num, vals, frames⟩ = true := by unfold heapF; rw [if_neg k4, if_neg k5]
        rw [eH, d5, Bool.false_and, Bool.not_false, Bool.true_or, Bool.and_true, Bool.and_true] at eb
        rw [eb]
        clear no eb eH hc4 hc5 hcw k4 k5
        (any_goals refine go lv31 0 ?_)
        all_goals (try simp only [go_sem])
        exact Lx.le (Le_keepA [2, 3, 10, 13, 123, 124, 125])
      subst k5
      rw [show decide ((5 : Int) = 5) = true from rfl, Bool.true_and] at eb
      clear hc4 k4 d4
      by_cases n0 : num = 0
      · subst n0
        obtain ⟨f, rfl⟩ := List.length_eq_one_iff.1 (hc5 rfl rfl)
        have hfw := hcw.frame f (List.mem_singleton.2 rfl)
        have eH : heapF p s ⟨5, 0, vals, [f]⟩ = savedF p s f := by unfold heapF; rw [if_neg (show ¬ (5 : Int) = 4 from by decide), if_pos rfl]; rfl
        rw [eH, show decide ((0 : Int) = 1) = false from rfl, Bool.not_false, Bool.true_or, Bool.and_true] at eb
        clear hc5 hcw eH
        refine Rn_T [ct_frameRight'] ?_
        cases hb : (B1 && T) with
        | false =>
          rw [no hb]
          clear no eb hfw
          obtain ⟨fn, pc, tov, gen, ⟨sk, sn⟩, regs, tries⟩ := f
          (any_goals refine go lv31 0 ?_)
          all_goals (try simp only [go_sem])
          exact Lx.le (Le_keepA [2, 3, 10, 13, 123, 124, 125])
        | true =>
        have e : (B1 && T') = savedF p s f := by rw [eb, ← Bool.and_assoc, hb, Bool.true_and]
        rw [e]
        clear no eb e
        obtain ⟨fn, pc, tov, gen, ⟨sk, sn⟩, regs, tries⟩ := f
        cases hfr : frameF p s ⟨fn, pc, tov, gen, (sk, sn), regs, tries⟩ with
        | false =>
          have e : savedF p s ⟨fn, pc, tov, gen, (sk, sn), regs, tries⟩ = false := by unfold savedF; rw [hfr]; rfl
          rw [e]
          clear e
          (any_goals refine go lv31 0 ?_)
          all_goals (try simp only [go_sem])
          exact Lx.le (Le_keepA [2, 3, 10, 13, 123, 124, 125])
        | true =>
        obtain ⟨⟨g1, g2⟩, g3, g4⟩ := frame_fn hfr
        dsimp only at g1 g2 g3 g4
        obtain ⟨F, hF⟩ : ∃ F, p.fns[fn.toNat]? = some F := ⟨p.fns[fn.toNat]'(by omega), List.getElem?_eq_getElem _⟩
        have gF := getD_map fnR hF ([] : List RV)
        have gF2 : p.fns.getD fn.toNat fn0 = F := by simp [List.getD, hF]
        have lc : (F.code.map insR).length = F.code.length := List.length_map ..
        rw [gF2] at g4
        have e : savedF p s ⟨fn, pc, tov, gen, (sk, sn), regs, tries⟩ = (decide (tov = -1) && decide (gen = -1) && F.gen && (decide (pc = 0) || decide ((F.code.getD (pc - 1).toNat ins0).op = 32))) := by
          unfold savedF; rw [hfr, Bool.true_and]; dsimp only; rw [gF2]
        rw [e]
        clear gF2 e
        by_cases hp0 : pc = 0
        · have d0 : decide (pc = 0) = true := by simpa using hp0
          clear hp0
          rw [d0]
          cases t1 : decide (tov = -1) <;> cases t2 : decide (gen = -1) <;> cases t3 : F.gen
          all_goals
            (any_goals refine go lv31 0 ?_)
            all_goals (try simp only [go_sem])
            exact Lx.le (Le_keepA [2, 3, 10, 13, 123, 124, 125])
        · have d0 : decide (pc = 0) = false := by simpa using hp0
          have w1 : IntKind.i64.wrap (pc - 1) = pc - 1 := by have := hgo.fns; have := (hgo.cok F (List.mem_of_getElem? hF)).len; rw [wrap_id] <;> omega
          obtain ⟨I, hI⟩ : ∃ I, F.code[(pc - 1).toNat]? = some I := ⟨F.code[(pc - 1).toNat]'(by omega), List.getElem?_eq_getElem _⟩
          have gI := getD_map insR hI ([] : List RV)
          have gI2 : F.code.getD (pc - 1).toNat ins0 = I := by rw [List.getD_eq_getElem?_getD, hI]; rfl
          have hp1 : 1 ≤ pc := by omega
          rw [d0, gI2]
          clear gI2 hp0
          cases t1 : decide (tov = -1) <;> cases t2 : decide (gen = -1) <;> cases t3 : F.gen
          all_goals
            (any_goals refine go lv31 0 ?_)
            all_goals (try simp only [go_sem])
            exact Lx.le (Le_keepA [2, 3, 10, 13, 123, 124, 125])
      have dn0 : decide (num = 0) = false := by simpa using n0
      have eH : heapF p s ⟨5, num, vals, frames⟩ = true := by unfold heapF; rw [if_neg (show ¬ (5 : Int) = 4 from by decide), if_pos rfl]; dsimp only; rw [dn0]; rfl
      rw [eH, Bool.true_and] at eb
      clear hc5 hcw eH
      by_cases n1 : num = 1
      · subst n1
        rw [show decide ((1 : Int) = 1) = true from rfl, Bool.not_true, Bool.false_or] at eb
        refine Rn_T [Sh.ct_hasI] ?_
        cases hb : (B1 && T) with
        | false =>
          rw [no hb]
          clear no eb
          (any_goals refine go lv31 0 ?_)
          all_goals (try simp only [go_sem])
          exact Lx.le (Le_keepA [2, 3, 10, 13, 123, 124, 125])
        | true =>
          have e : (B1 && T') = decide ((k : Int) ∈ G) := by rw [eb, ← Bool.and_assoc, hb, Bool.true_and]
          rw [e]
          clear no eb e
          (any_goals refine go lv31 0 ?_)
          all_goals (try simp only [go_sem])
          exact Lx.le (Le_keepA [2, 3, 10, 13, 123, 124, 125])
      · have dn1 : decide (num = 1) = false := by simpa using n1
        rw [dn1, Bool.not_false, Bool.true_or, Bool.and_true] at eb
        rw [eb]
        clear no eb n0 n1
        (any_goals refine go lv31 0 ?_)
        all_goals (try simp only [go_sem])
        exact Lx.le (Le_keepA [2, 3, 10, 13, 123, 124, 125])
    clear eb hc4 hc5 hcw
    (any_goals refine go lv31 0 ?_)
    refine ⟨(k + 1, u + 9), by dsimp only; omega, by dsimp only; omega, ?_⟩
    dsimp only
    rw [hT']
    exact Le_keepA [2, 3, 10, 13, 123, 124, 125]
  obtain rfl : k = s.cells.length := by omega
  have e1 := each_end s.cells
  rw [List.take_of_length_le (by omega)]
  clear hlt hk lz
  generalize hB2 : (B1 && s.cells.zipIdx.all (cellD p s)) = B2
  (any_goals refine go lv31 0 ?_)
  clear e1
  -- threads
  refine Rn_loopA [2, 3, 10, 229, 230, 231] (fun x : Nat × Nat => x.1 ≤ s.threads.length) (fun x => let k := x.1; let u := x.2; ⟨245, [(2, .r (.rp (progR p))), (3, stateP s), (10, Bv (B2 && (s.threads.take k).all (threadD p s))), (229, threadsV s.threads), (230, Iv s.threads.length), (231, Iv k)], [(2, 2, .gone), (3, 2, .gone), (9, u, .gone), (19, u, .gone), (20, u, .gone), (22, u, .gone)]⟩) (fun x => s.threads.length - x.1) (0, u) (Nat.zero_le _) ?_ rfl (by simp [trimT, memN])
  clear u
  rintro ⟨k, u⟩ hk
  dsimp only at hk ⊢
  by_cases hlt : k < s.threads.length
  case pos =>
    obtain ⟨t, hx, hg, h1, h2, hw'⟩ := each_at threadR s.threads hlt (by omega)
    have eb := all_take (q := threadD p s) hx
    have hTt := hT t (List.mem_of_getElem? hx)
    generalize (s.threads.take k).all (threadD p s) = T at *
    generalize threadD p s t = D at *
    obtain ⟨fs, st, on, ⟨vk, vn⟩⟩ := t
    refine Rn_T [ctE 82 [progV p, stateV s, threadA ⟨fs, st, on, (vk, vn)⟩] (Bv D) hTt] ?_
    clear hT hcs hf30 hD
    (any_goals refine go lv31 0 ?_)
    refine ⟨(k + 1, u + 9), by dsimp only; omega, by dsimp only; omega, ?_⟩
    dsimp only
    rw [eb, ← Bool.and_assoc]
    exact Le_keepA [2, 3, 10, 229, 230, 231]
  obtain rfl : k = s.threads.length := by omega
  have e1 := each_end s.threads
  rw [List.take_length]
  clear hlt hk hB2 hB1
  cases hB3 : (B2 && s.threads.all (threadD p s))
  all_goals
    (any_goals refine go lv31 0 ?_)
    all_goals (try simp only [go_sem])
theorem eqInt_c (l m : List Int) (hl : l.length ≤ 9223372036854775807) : FC Cx 18 [intsV l, intsV m] [] (Bv (decide (l = m))) [] := by
  have hlen : (l.map intR).length = l.length := List.length_map ..
  have hlen' : (m.map intR).length = m.length := List.length_map ..
  refine FCp_st [] Tryz.func18 Tryz.ntmps18 Tryz.results18 ?_
  (any_goals refine go lv18 0 ?_)
  repeat' (first | (refine Br.go (fun h h' => ?_) (fun h h' => ?_)) | (refine Br.mk (fun h => ?_) (fun h => ?_)))
  · simp only [go_sem]
    have : l ≠ m := fun he => h' (by rw [he])
    simp [this]
  have hlm : l.length = m.length := by omega
  refine Rn_loopT [0, 1, 12, 13] (fun i => i ≤ l.length ∧ ∀ j, j < i → l[j]? = m[j]?) (fun (i : Nat) => ⟨26, [(0, intsV l), (1, intsV m), (12, Iv m.length), (13, Iv i)], []⟩) (fun i => l.length - i) 0 rfl rfl rfl ⟨Nat.zero_le _, fun j hj => by omega⟩ ?_
  rintro i ⟨hi, hno⟩
  by_cases hlt : i < l.length
  · obtain ⟨x, hx⟩ : ∃ x, l[i]? = some x := ⟨l[i], List.getElem?_eq_getElem hlt⟩
    obtain ⟨y, hy⟩ : ∃ y, m[i]? = some y := ⟨m[i], List.getElem?_eq_getElem (by omega)⟩
    have hg := getD_map intR hx ([] : List RV)
    have hg' := getD_map intR hy ([] : List RV)
    have hw : IntKind.i64.wrap ((i : Int) + 1) = ((i + 1 : Nat) : Int) := by rw [wrap_id] <;> omega
    have h1 : decide ((i : Int) < (m.length : Int)) = true := by rw [decide_eq_true_eq]; omega
    have h2 : Int.toNat (i : Int) = i := by omega
    (any_goals refine go lv18 0 ?_)
    repeat' (first | (refine Br.go (fun h h' => ?_) (fun h h' => ?_)) | (refine Br.mk (fun h => ?_) (fun h => ?_)))
    all_goals (try simp only [go_sem])
    · have h9 := h
      have : l ≠ m := fun he => by
        rw [he] at hx; rw [hx] at hy
        have := Option.some.inj hy
        subst this
        simp at h9
      simp [this]
    · refine ⟨i + 1, ⟨by omega, fun j hj => ?_⟩, by omega, Le_keep [0, 1, 12, 13] rfl rfl rfl⟩
      rcases Nat.lt_succ_iff_lt_or_eq.1 hj with h3 | h3
      · exact hno j h3
      · rw [h3, hx, hy]; exact congrArg some (by first | exact h' | exact Prod.ext h'.1 h'.2 | (cases x; cases y; simp_all))
  · have h1 : decide ((i : Int) < (m.length : Int)) = false := by rw [decide_eq_false_iff_not]; omega
    (any_goals refine go lv18 0 ?_)
    all_goals (try simp only [go_sem])
    have : l = m := List.ext_getElem? fun j => by
      by_cases hj : j < i
      · exact hno j hj
      · rw [List.getElem?_eq_none (by omega), List.getElem?_eq_none (by omega)]
    simp [this]
def startF (p : ProgT) : StateT := if checkF p = 0 then startS p else emptyS
theorem start_c (p : ProgT) (hw : Pwf p) : FC Cx 14 [progV p] [] (.tup [stateV (startF p), Iv (checkF p)]) [] := by
  unfold startF
  by_cases hp : checkF p = 0
  · rw [if_pos hp, hp]; exact start_yes p hw hp
  · rw [if_neg hp]; exact start_no p hw hp
theorem start'_c (xs ys zs : List (List RV)) (h : (xs = (fnsOf xs).map fnR ∧ ys = (valsOf ys).map valR ∧ zs = (strsOf zs).map strR) ∧ Pwf ⟨fnsOf xs, valsOf ys, strsOf zs⟩) : FC Cx 14 [.agg [.r (.rs 5 xs), .r (.rs 2 ys), .r (.rs 1 zs)]] [] (.tup [stateV (startF ⟨fnsOf xs, valsOf ys, strsOf zs⟩), Iv (checkF ⟨fnsOf xs, valsOf ys, strsOf zs⟩)]) [] := by
  have := start_c ⟨fnsOf xs, valsOf ys, strsOf zs⟩ h.2
  rwa [prog_at h.1] at this
def sp_start' (args : List AV) (K : AV → Prop) : Prop := match args with
  | [.agg [.r (.rs 5 xs), .r (.rs 2 ys), .r (.rs 1 zs)]] => ((xs = (fnsOf xs).map fnR ∧ ys = (valsOf ys).map valR ∧ zs = (strsOf zs).map strR) ∧ Pwf ⟨fnsOf xs, valsOf ys, strsOf zs⟩) ∧ K (.tup [stateV (startF ⟨fnsOf xs, valsOf ys, strsOf zs⟩), Iv (checkF ⟨fnsOf xs, valsOf ys, strsOf zs⟩)])
  | _ => False
theorem sp_start'_ok (args : List AV) (K : AV → Prop) (h : sp_start' args K) : ∃ r, CallOk Cx 14 args r ∧ K r := by
  unfold sp_start' at h
  split at h
  · exact ⟨_, CallOk_of (start'_c _ _ _ h.1) en14 rfl rfl, h.2⟩
  · exact h.elim
noncomputable abbrev ct_start' : Ct Cx := .pure 14 sp_start' sp_start'_ok
@[go_sem] theorem sp_start'_eq : type_of% @sp_start'.eq_def := @sp_start'.eq_def
theorem ready'_c (xs ys zs : List (List RV)) (ca sh tx th en sd : List (List RV)) (aq sq : Int) (h : ((xs = (fnsOf xs).map fnR ∧ ys = (valsOf ys).map valR ∧ zs = (strsOf zs).map strR) ∧ ca = (cellsOf ca).map cellR ∧ sh = (valsOf sh).map valR ∧ tx = (strsOf tx).map strR ∧ th = (threadsOf th).map threadR ∧ en = (endsOf en).map endR ∧ sd = (valsOf sd).map valR) ∧ Pwf ⟨fnsOf xs, valsOf ys, strsOf zs⟩ ∧ Swf ⟨cellsOf ca, valsOf sh, strsOf tx, threadsOf th, endsOf en, valsOf sd, aq, sq⟩) : FC Cx 17 [.agg [.r (.rs 5 xs), .r (.rs 2 ys), .r (.rs 1 zs)], .agg [.r (.rs 4 ca), .r (.rs 2 sh), .r (.rs 1 tx), .r (.rs 5 th), .r (.rs 3 en), .r (.rs 2 sd), Iv aq, Iv sq]] [] (.tup [intsV (readyL ⟨fnsOf xs, valsOf ys, strsOf zs⟩ ⟨cellsOf ca, valsOf sh, strsOf tx, threadsOf th, endsOf en, valsOf sd, aq, sq⟩), Iv (faultS ⟨fnsOf xs, valsOf ys, strsOf zs⟩ ⟨cellsOf ca, valsOf sh, strsOf tx, threadsOf th, endsOf en, valsOf sd, aq, sq⟩)]) [] := by
  have := Ready_c ⟨fnsOf xs, valsOf ys, strsOf zs⟩ ⟨cellsOf ca, valsOf sh, strsOf tx, threadsOf th, endsOf en, valsOf sd, aq, sq⟩ h.2.1 h.2.2
  rwa [prog_at h.1.1, state_at _ _ _ _ _ _ _ _ h.1.2] at this
def sp_ready' (args : List AV) (K : AV → Prop) : Prop := match args with
  | [.agg [.r (.rs 5 xs), .r (.rs 2 ys), .r (.rs 1 zs)], .agg [.r (.rs 4 ca), .r (.rs 2 sh), .r (.rs 1 tx), .r (.rs 5 th), .r (.rs 3 en), .r (.rs 2 sd), .r (.v (.int .i64 aq)), .r (.v (.int .i64 sq))]] => (((xs = (fnsOf xs).map fnR ∧ ys = (valsOf ys).map valR ∧ zs = (strsOf zs).map strR) ∧ ca = (cellsOf ca).map cellR ∧ sh = (valsOf sh).map valR ∧ tx = (strsOf tx).map strR ∧ th = (threadsOf th).map threadR ∧ en = (endsOf en).map endR ∧ sd = (valsOf sd).map valR) ∧ Pwf ⟨fnsOf xs, valsOf ys, strsOf zs⟩ ∧ Swf ⟨cellsOf ca, valsOf sh, strsOf tx, threadsOf th, endsOf en, valsOf sd, aq, sq⟩) ∧ K (.tup [intsV (readyL ⟨fnsOf xs, valsOf ys, strsOf zs⟩ ⟨cellsOf ca, valsOf sh, strsOf tx, threadsOf th, endsOf en, valsOf sd, aq, sq⟩), Iv (faultS ⟨fnsOf xs, valsOf ys, strsOf zs⟩ ⟨cellsOf ca, valsOf sh, strsOf tx, threadsOf th, endsOf en, valsOf sd, aq, sq⟩)])
  | _ => False
theorem sp_ready'_ok (args : List AV) (K : AV → Prop) (h : sp_ready' args K) : ∃ r, CallOk Cx 17 args r ∧ K r := by
  unfold sp_ready' at h
  split at h
  · exact ⟨_, CallOk_of (ready'_c _ _ _ _ _ _ _ _ _ _ _ h.1) en17 rfl rfl, h.2⟩
  · exact h.elim
noncomputable abbrev ct_ready' : Ct Cx := .pure 17 sp_ready' sp_ready'_ok
@[go_sem] theorem sp_ready'_eq : type_of% @sp_ready'.eq_def := @sp_ready'.eq_def
def sp_same (args : List AV) (K : AV → Prop) : Prop := match args with
  | [.agg [.r (.rs 4 ca), .r (.rs 2 sh), .r (.rs 1 tx), .r (.rs 5 th), .r (.rs 3 en), .r (.rs 2 sd), .r (.v (.int .i64 aq)), .r (.v (.int .i64 sq))], .agg [.r (.rs 4 ca'), .r (.rs 2 sh'), .r (.rs 1 tx'), .r (.rs 5 th'), .r (.rs 3 en'), .r (.rs 2 sd'), .r (.v (.int .i64 aq')), .r (.v (.int .i64 sq'))]] => (((ca = (cellsOf ca).map cellR ∧ sh = (valsOf sh).map valR ∧ tx = (strsOf tx).map strR ∧ th = (threadsOf th).map threadR ∧ en = (endsOf en).map endR ∧ sd = (valsOf sd).map valR) ∧ (ca' = (cellsOf ca').map cellR ∧ sh' = (valsOf sh').map valR ∧ tx' = (strsOf tx').map strR ∧ th' = (threadsOf th').map threadR ∧ en' = (endsOf en').map endR ∧ sd' = (valsOf sd').map valR)) ∧ Swf ⟨cellsOf ca, valsOf sh, strsOf tx, threadsOf th, endsOf en, valsOf sd, aq, sq⟩ ∧ Swf ⟨cellsOf ca', valsOf sh', strsOf tx', threadsOf th', endsOf en', valsOf sd', aq', sq'⟩) ∧ K (Bv (decide (⟨cellsOf ca, valsOf sh, strsOf tx, threadsOf th, endsOf en, valsOf sd, aq, sq⟩ = (⟨cellsOf ca', valsOf sh', strsOf tx', threadsOf th', endsOf en', valsOf sd', aq', sq'⟩ : StateT))))
  | _ => False
attribute [go_sem] sp_same
theorem WI_of {n : Int} (h1 : -9223372036854775808 ≤ n) (h2 : n ≤ 9223372036854775807) : WI n := by
  have e1 : IntKind.i64.min = -9223372036854775808 := rfl
  have e2 : IntKind.i64.max = 9223372036854775807 := rfl
  show (decide (IntKind.i64.min ≤ n) && decide (n ≤ IntKind.i64.max)) = true
  rw [e1, e2]
  simp only [Bool.and_eq_true, decide_eq_true_eq]
  exact ⟨h1, h2⟩
theorem check_regs {p : ProgT} (hw : Pwf p) (hp : checkF p = 0) : (p.fns.getD 0 fn0).regs ≤ 60 := by
  have hn := check_some hp
  have hF : p.fns[0]? = some p.fns[0] := List.getElem?_eq_getElem _
  obtain ⟨hpok, _⟩ := check_fn hw hp (List.mem_of_getElem? hF)
  rw [List.getD_eq_getElem?_getD, hF]
  exact (hpok.fn _ (List.mem_of_getElem? hF)).2.1
theorem start_wf {p : ProgT} (hw : Pwf p) : Swf (startF p) := by
  have hsz := hw.sz.texts
  unfold startF
  split
  · rename_i hp
    have hr := check_regs hw hp
    refine ⟨⟨by simp [startS], by simp [startS], by simpa [startS] using hsz, by simp [startS], by simp [startS], by simp [startS]⟩, ?_, fun c hc => ?_, fun t ht => ?_⟩
    · intro q hq
      simp [startS] at hq; subst hq
      exact ⟨WI_of (by simp) (by simp), WI_of (by simp) (by simp)⟩
    · simp [startS] at hc; subst hc
      exact ⟨by simp, by simp, by simp, by simp⟩
    · simp [startS] at ht; subst ht
      refine ⟨by simp, fun f hf => ?_⟩
      simp at hf; subst hf
      refine ⟨?_, by simp, WI_of (by simp) (by simp)⟩
      rw [List.getD_eq_getElem?_getD] at hr
      simp; omega
  · refine ⟨⟨by simp [emptyS], by simp [emptyS], by simp [emptyS], by simp [emptyS], by simp [emptyS], by simp [emptyS]⟩, ?_, fun c hc => by simp [emptyS] at hc, fun t ht => by simp [emptyS] at ht⟩
    intro q hq
    simp [emptyS] at hq
@[go_sem] theorem threadsOf_cons (k1 k2 k3 k4 : IntKind) (sz : Nat) (fs : List (List RV)) (a b c d : Int) (xs : List (List RV)) : threadsOf ([.rs sz fs, .v (.int k1 a), .v (.int k2 b), .v (.int k3 c), .v (.int k4 d)] :: xs) = ⟨framesOf fs, a, b, (c, d)⟩ :: threadsOf xs := rfl
@[go_sem] theorem threadsOf_nil : threadsOf [] = [] := rfl
@[go_sem] theorem framesOf_cons (k1 k2 k3 k4 k5 k6 : IntKind) (s1 s2 : Nat) (us vs : List (List RV)) (a b c d e f : Int) (xs : List (List RV)) : framesOf ([.v (.int k1 a), .v (.int k2 b), .v (.int k3 c), .v (.int k4 d), .v (.int k5 e), .v (.int k6 f), .rs s1 us, .rs s2 vs] :: xs) = ⟨a, b, c, d, (e, f), valsOf us, triesOf vs⟩ :: framesOf xs := rfl
@[go_sem] theorem framesOf_nil : framesOf [] = [] := rfl
@[go_sem] theorem valsOf_nil : valsOf [] = [] := rfl
@[go_sem] theorem triesOf_nil : triesOf [] = [] := rfl
@[go_sem] theorem intsOf_cons (k : IntKind) (n : Int) (xs : List (List RV)) : intsOf ([.v (.int k n)] :: xs) = n :: intsOf xs := rfl
@[go_sem] theorem intsOf_nil : intsOf [] = [] := rfl
theorem FC_nil1 (n : Nat) {C : Ctx} {f : Nat} {args : List AV} {rs0 : List (Nat × Nat × Res)} {xs ys : List RV} (hf : FC C f args rs0 (.agg (xs.map .r)) []) (h : rowB (nilB n) xs ys) : FC C f args rs0 (.agg (ys.map .r)) [] := by
  refine FC_res hf fun cur g w N v hv => ?_
  exact AR.nilD (rowB_len h) (fun j x y hx hy => nilB_ok n x y (rowB_at h hx hy)) hv
theorem CallOk_nil2 (n : Nat) {C : Ctx} {f : Nat} {a r : AV} {xs ys : List RV} (h : CallOk C f [a, .agg (ys.map .r)] r) (hn : rowB (nilB n) xs ys) : CallOk C f [a, .agg (xs.map .r)] r := by
  intro cur g w av vs hG hgs hav hp
  refine h cur g w av vs hG hgs hav ⟨hp.1, fun j y v hy hv => ?_⟩
  match j with
  | 0 => exact hp.2 0 y v hy hv
  | 1 =>
    simp at hy; subst hy
    exact AR.nilD (rowB_len hn) (fun j x y hx hy => nilB_ok n x y (rowB_at hn hx hy)) (hp.2 1 _ v rfl hv)
  | j + 2 => simp at hy
theorem started_c (p : ProgT) (hw : Pwf p) (hp : checkF p = 0) : FC Cx 29 [progV p] [] (stateV (startS p)) [] := by
  have hn := check_some hp
  have l1 : (p.fns.map fnR).length = p.fns.length := List.length_map ..
  have l2 : (p.texts.map strR).length = p.texts.length := List.length_map ..
  have l3 : (p.texts.map strC).length = p.texts.length := List.length_map ..
  obtain ⟨F, hF⟩ : ∃ F, p.fns[0]? = some F := ⟨p.fns[0]'(by omega), List.getElem?_eq_getElem _⟩
  have gF := getD_map fnR hF ([] : List RV)
  have eF : p.fns.getD 0 fn0 = F := by rw [List.getD_eq_getElem?_getD, hF]; rfl
  obtain ⟨hpok, hfun, _, _⟩ := check_fn hw hp (List.mem_of_getElem? hF)
  have htx := hpok.texts
  have hr1 : 1 ≤ F.regs := by
    unfold functionF at hfun
    split at hfun
    · cases hfun
    · omega
  have hr2 := (hpok.fn F (List.mem_of_getElem? hF)).2.1
  obtain ⟨L0, hL0⟩ : ∃ L, L = List.replicate F.regs.toNat ((0 : Int), (0 : Int)) := ⟨_, rfl⟩
  have hz : List.replicate F.regs.toNat [Iv 0, Iv 0] = L0.map valC := by rw [hL0]; simp
  refine FC_nil1 3 (xs := [.rs 4 [[.v (.int .i64 4), .v (.int .i64 0), .v (.slice none 0 0), .v (.slice none 0 0)]], .rs 2 [[.v (.int .i64 (-1)), .v (.int .i64 (-1))]], .rs 1 (p.texts.map strR),
    .rs 5 [[.rs 8 [[.v (.int .i64 0), .v (.int .i64 0), .v (.int .i64 (-1)), .v (.int .i64 (-1)), .v (.int .i64 5), .v (.int .i64 0), .rs 2 (L0.map valR), .v (.slice none 0 0)]], .v (.int .i64 0), .v (.int .i64 0), .v (.int .i64 0), .v (.int .i64 0)]],
    .v (.slice none 0 0), .v (.slice none 0 0), .v (.int .i64 0), .v (.int .i64 0)]) (ys := stateR (startS p)) ?_ (by simp [rowB, rowsB, nilB, nilX, startS, hF, hL0])
  clear hL0 eF hp hfun
  obtain ⟨R, hR⟩ : ∃ R : Nat, F.regs = R := ⟨F.regs.toNat, by omega⟩
  have hz' : List.replicate R [Iv 0, Iv 0] = L0.map valC := by rw [← hz, hR, Int.toNat_natCast]
  clear hz
  have hR60 : R ≤ 60 := by omega
  refine FCf_of [] Tryz.func29 rfl Tryz.ntmps29 (by simp) Tryz.results29 rfl ?_
  apply Rn_st; (intro K0; simp only [go_sem]; exact ⟨id⟩)
  refine goR ?_
  refine fzB 1 ?_
  (any_goals refine go lv29 0 ?_)
  (apply Rn_ownnil 3 1003 50 2; (exact rfl); (exact rfl); (intro K0; (try simp only [go_sem]); exact ⟨id⟩))
  refine Rn_loopS (fun x : Nat × Nat => x.1 ≤ R) (fun x => ⟨33, [(1, .r (.rp (progR p))), (2, .os 2 1), (3, .os 1003 (1 + x.1)), (9, Iv R), (10, Iv x.1)], [(1, 2, .gone), (2, 1, .bx [NilS, NilS, NilS, NilS, NilS, NilS, Iv 0, Iv 0]), (1003, 1 + x.1, .sl 50 2 (List.replicate x.1 [Iv 0, Iv 0])), (14, x.2, .gone)]⟩) (fun x => R - x.1) (0, 0) (Nat.zero_le _) ?_
  rintro ⟨i, u⟩ hi
  dsimp only at hi ⊢
  by_cases hlt : i < R
  case pos =>
    have e1 : decide ((i : Int) < (R : Int)) = true := by rw [decide_eq_true_eq]; omega
    have w1 : IntKind.i64.wrap ((i : Int) + 1) = ((i + 1 : Nat) : Int) := by rw [wrap_id] <;> omega
    have lr : (List.replicate i [Iv 0, Iv 0]).length = i := List.length_replicate
    have hs : List.replicate (i + 1) [Iv 0, Iv 0] = List.replicate i [Iv 0, Iv 0] ++ [[Iv 0, Iv 0]] := List.replicate_succ'
    generalize List.replicate i [Iv 0, Iv 0] = L at *
    generalize hL' : List.replicate (i + 1) [Iv 0, Iv 0] = L' at *
    clear hz'
    (any_goals refine go lv29 0 ?_)
    refine ⟨(i + 1, u + 9), by dsimp only; omega, by dsimp only; omega, ?_⟩
    dsimp only
    rw [hL', hs]
    exact Le_subA
  obtain rfl : i = R := by omega
  have e1 : decide ((i : Int) < (i : Int)) = false := by simp
  rw [hz']
  clear hz'
  (any_goals refine go (dropL 6 lv29) 0 ?_)
  (apply Rn_frzS 1003 (L0.map valR); (exact rfl); (exact (roValC L0).symm); (exact rfl); (intro K0; (try simp only [go_sem]); exact ⟨id⟩))
  (any_goals refine goN lv29 0 ?_)
  (apply Rn_closeS 31 0 0 29 [[.r (.v (.int .i64 0)), .r (.v (.int .i64 0)), .r (.v (.int .i64 (-1))), .r (.v (.int .i64 (-1))), .r (.v (.int .i64 5)), .r (.v (.int .i64 0)), .r (.rs 2 (L0.map valR)), .r (.v (.slice none 0 0))]]; (exact rfl); (exact rfl); (exact rfl); (exact (by decide)); (exact rfl); (exact rfl); (intro K0; (try simp only [go_sem]); exact ⟨id⟩))
  (apply Rn_frzD 31 (.rs 5 [[.rs 8 [[.v (.int .i64 0), .v (.int .i64 0), .v (.int .i64 (-1)), .v (.int .i64 (-1)), .v (.int .i64 5), .v (.int .i64 0), .rs 2 (L0.map valR), .v (.slice none 0 0)]], .v (.int .i64 0), .v (.int .i64 0), .v (.int .i64 0), .v (.int .i64 0)]]); (exact rfl); (exact (by simp)); (exact ⟨rfl, rfl, rfl⟩); (exact rfl); (intro K0; (try simp only [go_sem]); exact ⟨id⟩))
  (apply Rn_frzL 21; (exact rfl); (exact rfl); (exact rfl); (intro K0; (try simp only [go_sem]); exact ⟨id⟩))
  (apply Rn_frzL 23; (exact rfl); (exact rfl); (exact rfl); (intro K0; (try simp only [go_sem]); exact ⟨id⟩))
  (apply Rn_frzS 24 (p.texts.map strR); (exact rfl); (exact (by rw [List.map_map]; rfl)); (exact rfl); (intro K0; (try simp only [go_sem]); exact ⟨id⟩))
  (any_goals refine go lv29 0 ?_)
  all_goals (try simp only [go_sem])
theorem stateFault'_c (xs ys zs : List (List RV)) (ca sh tx th en sd : List (List RV)) (aq sq : Int) (h : ((xs = (fnsOf xs).map fnR ∧ ys = (valsOf ys).map valR ∧ zs = (strsOf zs).map strR) ∧ ca = (cellsOf ca).map cellR ∧ sh = (valsOf sh).map valR ∧ tx = (strsOf tx).map strR ∧ th = (threadsOf th).map threadR ∧ en = (endsOf en).map endR ∧ sd = (valsOf sd).map valR) ∧ Pwf ⟨fnsOf xs, valsOf ys, strsOf zs⟩ ∧ Swf ⟨cellsOf ca, valsOf sh, strsOf tx, threadsOf th, endsOf en, valsOf sd, aq, sq⟩ ∧ RegsOk ⟨cellsOf ca, valsOf sh, strsOf tx, threadsOf th, endsOf en, valsOf sd, aq, sq⟩) : FC Cx 31 [.agg [.r (.rs 5 xs), .r (.rs 2 ys), .r (.rs 1 zs)], .agg [.r (.rs 4 ca), .r (.rs 2 sh), .r (.rs 1 tx), .r (.rs 5 th), .r (.rs 3 en), .r (.rs 2 sd), Iv aq, Iv sq]] [] (Iv (faultS ⟨fnsOf xs, valsOf ys, strsOf zs⟩ ⟨cellsOf ca, valsOf sh, strsOf tx, threadsOf th, endsOf en, valsOf sd, aq, sq⟩)) [] := by
  have := stateFault_c ⟨fnsOf xs, valsOf ys, strsOf zs⟩ ⟨cellsOf ca, valsOf sh, strsOf tx, threadsOf th, endsOf en, valsOf sd, aq, sq⟩ h.2.1 h.2.2.1 h.2.2.2
  rwa [prog_at h.1.1, state_at _ _ _ _ _ _ _ _ h.1.2] at this
def sp_stateFault' (args : List AV) (K : AV → Prop) : Prop := match args with
  | [.agg [.r (.rs 5 xs), .r (.rs 2 ys), .r (.rs 1 zs)], .agg [.r (.rs 4 ca), .r (.rs 2 sh), .r (.rs 1 tx), .r (.rs 5 th), .r (.rs 3 en), .r (.rs 2 sd), .r (.v (.int .i64 aq)), .r (.v (.int .i64 sq))]] => (((xs = (fnsOf xs).map fnR ∧ ys = (valsOf ys).map valR ∧ zs = (strsOf zs).map strR) ∧ ca = (cellsOf ca).map cellR ∧ sh = (valsOf sh).map valR ∧ tx = (strsOf tx).map strR ∧ th = (threadsOf th).map threadR ∧ en = (endsOf en).map endR ∧ sd = (valsOf sd).map valR) ∧ Pwf ⟨fnsOf xs, valsOf ys, strsOf zs⟩ ∧ Swf ⟨cellsOf ca, valsOf sh, strsOf tx, threadsOf th, endsOf en, valsOf sd, aq, sq⟩ ∧ RegsOk ⟨cellsOf ca, valsOf sh, strsOf tx, threadsOf th, endsOf en, valsOf sd, aq, sq⟩) ∧ K (Iv (faultS ⟨fnsOf xs, valsOf ys, strsOf zs⟩ ⟨cellsOf ca, valsOf sh, strsOf tx, threadsOf th, endsOf en, valsOf sd, aq, sq⟩))
  | _ => False
theorem sp_stateFault'_ok (args : List AV) (K : AV → Prop) (h : sp_stateFault' args K) : ∃ r, CallOk Cx 31 args r ∧ K r := by
  unfold sp_stateFault' at h
  split at h
  · exact ⟨_, CallOk_of (stateFault'_c _ _ _ _ _ _ _ _ _ _ _ h.1) en31 rfl rfl, h.2⟩
  · exact h.elim
noncomputable abbrev ct_stateFault' : Ct Cx := .pure 31 sp_stateFault' sp_stateFault'_ok
@[go_sem] theorem sp_stateFault'_eq : type_of% @sp_stateFault'.eq_def := @sp_stateFault'.eq_def
def sameB (a b : StateT) : Bool := decide (a = b)
theorem sameB_self (a : StateT) : sameB a a = true := decide_eq_true rfl
def sp_rsameB (args : List AV) (K : AV → Prop) : Prop := match args with
  | [.agg [.r (.rs 4 ca), .r (.rs 2 sh), .r (.rs 1 tx), .r (.rs 5 th), .r (.rs 3 en), .r (.rs 2 sd), .r (.v (.int .i64 aq)), .r (.v (.int .i64 sq))], .agg [.r (.rs 4 ca'), .r (.rs 2 sh'), .r (.rs 1 tx'), .r (.rs 5 th'), .r (.rs 3 en'), .r (.rs 2 sd'), .r (.v (.int .i64 aq')), .r (.v (.int .i64 sq'))]] => (((ca = (cellsOf ca).map cellR ∧ sh = (valsOf sh).map valR ∧ tx = (strsOf tx).map strR ∧ th = (threadsOf th).map threadR ∧ en = (endsOf en).map endR ∧ sd = (valsOf sd).map valR) ∧ (ca' = (cellsOf ca').map cellR ∧ sh' = (valsOf sh').map valR ∧ tx' = (strsOf tx').map strR ∧ th' = (threadsOf th').map threadR ∧ en' = (endsOf en').map endR ∧ sd' = (valsOf sd').map valR)) ∧ Swf ⟨cellsOf ca, valsOf sh, strsOf tx, threadsOf th, endsOf en, valsOf sd, aq, sq⟩ ∧ Swf ⟨cellsOf ca', valsOf sh', strsOf tx', threadsOf th', endsOf en', valsOf sd', aq', sq'⟩) ∧ K (Bv (sameB ⟨cellsOf ca, valsOf sh, strsOf tx, threadsOf th, endsOf en, valsOf sd, aq, sq⟩ ⟨cellsOf ca', valsOf sh', strsOf tx', threadsOf th', endsOf en', valsOf sd', aq', sq'⟩))
  | [.agg [.r (.rs 4 ca), .r (.rs 2 sh), .r (.rs 1 tx), .r (.rs 5 th), .r (.rs 3 en), .r (.rs 2 sd), .r (.v (.int .i64 aq)), .r (.v (.int .i64 sq))], .agg [.r (.v (.slice none 0 0)), .r (.v (.slice none 0 0)), .r (.v (.slice none 0 0)), .r (.v (.slice none 0 0)), .r (.v (.slice none 0 0)), .r (.v (.slice none 0 0)), .r (.v (.int .i64 aq')), .r (.v (.int .i64 sq'))]] => ((ca = (cellsOf ca).map cellR ∧ sh = (valsOf sh).map valR ∧ tx = (strsOf tx).map strR ∧ th = (threadsOf th).map threadR ∧ en = (endsOf en).map endR ∧ sd = (valsOf sd).map valR) ∧ Swf ⟨cellsOf ca, valsOf sh, strsOf tx, threadsOf th, endsOf en, valsOf sd, aq, sq⟩) ∧ K (Bv (sameB ⟨cellsOf ca, valsOf sh, strsOf tx, threadsOf th, endsOf en, valsOf sd, aq, sq⟩ ⟨[], [], [], [], [], [], aq', sq'⟩))
  | _ => False
theorem empty_wf (aq sq : Int) : Swf ⟨[], [], [], [], [], [], aq, sq⟩ := by
  refine ⟨⟨by simp, by simp, by simp, by simp, by simp, by simp⟩, ?_, fun c hc => by simp at hc, fun t ht => by simp at ht⟩
  intro q hq
  simp at hq
theorem sp_rsameB_ok (args : List AV) (K : AV → Prop) (h : sp_rsameB args K) : ∃ r, CallOk Cx 30 args r ∧ K r := by
  unfold sp_rsameB at h
  split at h
  · rename_i ca sh tx th en sd aq sq ca' sh' tx' th' en' sd' aq' sq'
    have := sameStates_c ⟨cellsOf ca, valsOf sh, strsOf tx, threadsOf th, endsOf en, valsOf sd, aq, sq⟩ ⟨cellsOf ca', valsOf sh', strsOf tx', threadsOf th', endsOf en', valsOf sd', aq', sq'⟩ h.1.2.1 h.1.2.2
    rw [state_at _ _ _ _ _ _ _ _ h.1.1.1, state_at _ _ _ _ _ _ _ _ h.1.1.2] at this
    exact ⟨_, CallOk_of this en30 rfl rfl, h.2⟩
  · rename_i ca sh tx th en sd aq sq aq' sq'
    have := sameStates_c ⟨cellsOf ca, valsOf sh, strsOf tx, threadsOf th, endsOf en, valsOf sd, aq, sq⟩ ⟨[], [], [], [], [], [], aq', sq'⟩ h.1.2 (empty_wf aq' sq')
    rw [state_at _ _ _ _ _ _ _ _ h.1.1] at this
    exact ⟨_, CallOk_nil2 1 (xs := [.v (.slice none 0 0), .v (.slice none 0 0), .v (.slice none 0 0), .v (.slice none 0 0), .v (.slice none 0 0), .v (.slice none 0 0), .v (.int .i64 aq'), .v (.int .i64 sq')]) (ys := stateR ⟨[], [], [], [], [], [], aq', sq'⟩) (CallOk_of this en30 rfl rfl) (by simp [rowB, nilB, nilX]), h.2⟩
  · exact h.elim
noncomputable abbrev ct_rsameB : Ct Cx := .pure 30 sp_rsameB sp_rsameB_ok
attribute [go_sem] sp_rsameB
section
variable {C : Ctx} {T : List (Ct C)} {r : List It} {st st' : St} {K : Exit → St → Prop}
theorem Rn_nilrs (d sz : Nat) (hd : lookT d st.t = NilS) (hr : hasC r = true) (hst : ∀ K0 : St → Prop, Imp (K0 st') (K0 { st with t := putT d (.r (.rs sz [])) st.t })) (hk2 : Rn C T r st' K) : Rn C T r st K := by
  have hk' := (hst fun s => Rn C T r s K).run hk2
  refine Rn_up hr (fun e a w ⟨ho, g, hs⟩ => ⟨ho, g, hs.tell ?_⟩) hk'
  have hv := hs.temps d
  rw [hd] at hv
  rw [inv_v hv]
  exact .r (.nil sz)
end
theorem stateSays_c (p : ProgT) (s o : StateT) (hw : Pwf p) (hs : Swf s) (ho : Swf o) (hrg : RegsOk s) : FC Cx 6 [progV p, stateV s, stateV o] [] (Bv true) [] := by
  have hs0 := start_wf hw
  have hB0 : checkF p = 0 → ∀ y, y = [progV p] → CallOk Cx 29 y (stateV (startF p)) := fun hp y hy => by
    subst hy; unfold startF; rw [if_pos hp]; exact CallOk_of (started_c p hw hp) en29 rfl rfl
  have hne : checkF p ≠ 0 → sameB (startF p) ⟨[], [], [], [], [], [], 0, 0⟩ = true := fun hp => by unfold startF; rw [if_neg hp]; exact sameB_self _
  have hsb := sameB_self (startF p)
  have hSm : ∀ y, y = [stateV s, stateV o] → CallOk Cx 24 y (Bv (sameB s o)) := fun y hy => by
    subst hy; exact CallOk_of (stSame_c s o hs ho) en24 rfl rfl
  have hEq : ∀ L : List Int, L.length ≤ 9223372036854775807 → ∀ y, y = [intsV L, intsV L] → CallOk Cx 18 y (Bv true) := fun L hl y hy => by
    subst hy
    have := eqInt_c L L hl
    rw [decide_eq_true rfl] at this
    exact CallOk_of this en18 rfl rfl
  generalize hS : startF p = S0 at *
  have l1 : (s.threads.map threadR).length = s.threads.length := List.length_map ..
  have hlt := hs.len.threads
  by_cases hp : checkF p = 0
  focus
    have d0 : decide (checkF p = 0) = true := by simpa using hp
    have hA := hB0 hp
    clear hB0 hne
    refine FCp_st [ct_start', ct_ready', ct_fault', ctE 29 [progV p] (stateV S0) hA, ct_rsameB, ctE 24 [stateV s, stateV o] (Bv (sameB s o)) hSm] Tryz.func6 Tryz.ntmps6 Tryz.results6 ?_
    refine goR ?_
    refine fzB 3 ?_
    refine fzB 4 ?_
    refine fzB 5 ?_
    (any_goals refine go (dropL 9 lv6) 0 ?_)
  rotate_left
  focus
    have d0 : decide (checkF p = 0) = false := by simpa using hp
    have hA := hne hp
    clear hB0 hne
    refine FCp_st [ct_start', ct_ready', ct_fault', ct_rsameB, ctE 24 [stateV s, stateV o] (Bv (sameB s o)) hSm] Tryz.func6 Tryz.ntmps6 Tryz.results6 ?_
    refine goR ?_
    refine fzB 3 ?_
    refine fzB 4 ?_
    refine fzB 5 ?_
    (any_goals refine go (dropL 9 lv6) 0 ?_)
  all_goals
    refine Rn_T [ct_stateFault', ct_stFault'] ?_
    clear d0
    by_cases hf : faultS p s = 0
    focus
      have hR := rightS_iff.1 hf
      have hL : readyL p s = readyN s s.threads.length := by unfold readyL; rw [if_pos hf]
      have d1 : decide (faultS p s = 0) = true := by simpa using hf
      have h5 : s.threads.length ≤ 5 := by
        have := hR.few
        unfold manyS at this
        simp only [Bool.or_eq_false_iff, decide_eq_false_iff_not] at this
        omega
      have h4 : ∀ u ∈ s.threads, u.state ≤ 4 := fun u hu => by
        have := (hR.threads u hu).1
        unfold headF at this
        simp only [Bool.and_eq_true, decide_eq_true_eq] at this
        omega
      (any_goals refine go lv6 0 ?_)
      (apply Rn_ownnil 13 1013 3 1; (exact rfl); (exact rfl); (intro K0; (try simp only [go_sem]); exact ⟨id⟩))
      refine Rn_loopS (fun x : Nat × Nat => x.1 ≤ s.threads.length) (fun x => ⟨85, [(4, stateP s), (9, intsV (readyN s s.threads.length)), (11, Iv 0), (13, .os 1013 (1 + (readyN s x.1).length)), (66, Iv s.threads.length), (67, Iv x.1)], [(3, 2, .gone), (4, 2, .gone), (5, 2, .gone), (7, 9, .gone), (12, 9, .gone), (1013, 1 + (readyN s x.1).length, .sl 3 1 ((readyN s x.1).map fun k => [Iv k])), (79, x.2, .gone)]⟩) (fun x => s.threads.length - x.1) (0, 0) (Nat.zero_le _) ?_
      rintro ⟨i, u⟩ hi
      dsimp only at hi ⊢
      by_cases hlt : i < s.threads.length
      focus
        obtain ⟨t, hx, hg, h1, h2, hw'⟩ := each_at threadR s.threads hlt (by omega)
        have hon := head_on (hR.threads t (List.mem_of_getElem? hx)).1
        have hE : ∀ z, z = [stateV s, Iv i] → CallOk Cx 32 z (Bv (canF s i)) := fun z hz => by rw [hz]; exact CallOk_of (canGo_c s i t hx hon.1 hon.2 h4) en32 rfl rfl
        refine Rn_T [ctE 32 [stateV s, Iv i] (Bv (canF s i)) hE] ?_
        have hrl := readyN_len s i
        have lr : ((readyN s i).map fun k => [Iv k]).length = (readyN s i).length := List.length_map ..
        clear hL
        rcases Bool.eq_false_or_eq_true (canF s i) with hb | hb
        · skip
          (any_goals refine go lv6 0 ?_)
          have hn := readyN_yes hb
          refine ⟨(i + 1, u + 9), by dsimp only; omega, by dsimp only; omega, ?_⟩
          dsimp only
          rw [hn, List.length_append, List.map_append]
          exact Le_subA
        · skip
          (any_goals refine go lv6 0 ?_)
          have hn := readyN_no hb
          refine ⟨(i + 1, u + 9), by dsimp only; omega, by dsimp only; omega, ?_⟩
          dsimp only
          rw [hn]
          exact Le_subA
      obtain rfl : i = s.threads.length := by omega
      have e1 := each_end s.threads
      have hrl := readyN_len s s.threads.length
      generalize readyN s s.threads.length = L at *
      refine Rn_T [ctE 18 [intsV L, intsV L] (Bv true) (hEq L (by omega))] ?_
      (any_goals refine go (dropL 19 lv6) 0 ?_)
      (apply Rn_frzS 1013 (L.map intR); (exact rfl); (exact (by rw [List.map_map]; rfl)); (exact rfl); (intro K0; (try simp only [go_sem]); exact ⟨id⟩))
      (any_goals refine go lv6 0 ?_)
      all_goals (try simp only [go_sem])
    have hL : readyL p s = [] := by unfold readyL; rw [if_neg hf]
    have d1 : decide (faultS p s = 0) = false := by simpa using hf
    (any_goals refine go lv6 0 ?_)
    refine Rn_loopS (fun i : Nat => i ≤ s.threads.length) (fun i => ⟨85, [(4, stateP s), (9, intsV []), (11, Iv (faultS p s)), (13, NilS), (66, Iv s.threads.length), (67, Iv i)], [(3, 2, .gone), (4, 2, .gone), (5, 2, .gone), (7, 9, .gone), (12, 9, .gone)]⟩) (fun i => s.threads.length - i) 0 (Nat.zero_le _) ?_
    rintro i hi
    by_cases hlt : i < s.threads.length
    focus
      obtain ⟨t, hx, hg, h1, h2, hw'⟩ := each_at threadR s.threads hlt (by omega)
      (any_goals refine go lv6 0 ?_)
      refine ⟨i + 1, by omega, by omega, ?_⟩
      exact Le_subA
    obtain rfl : i = s.threads.length := by omega
    have e1 := each_end s.threads
    refine Rn_T [ctE 18 [intsV [], intsV []] (Bv true) (hEq [] (by simp))] ?_
    (any_goals refine go (dropL 19 lv6) 0 ?_)
    (apply Rn_nilrs 13 1; (exact rfl); (exact rfl); (intro K0; (try simp only [go_sem]); exact ⟨id⟩))
    (any_goals refine go lv6 0 ?_)
    all_goals (try simp only [go_sem])
end Go.Proofs.YtbhnmolmkembdaaGreatDoor
