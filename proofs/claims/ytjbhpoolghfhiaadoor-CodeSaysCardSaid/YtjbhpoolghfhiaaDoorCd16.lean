/- Tries of all orders of a function. No condition: the contract of the program's function. -/
import Derived.Test.YtjbhpoolghfhiaaDoorCd15
namespace Go.Proofs.YtjbhpoolghfhiaaDoor
set_option linter.unusedVariables false
set_option linter.unusedSimpArgs false
set_option maxHeartbeats 10000000
open Go
set_option maxRecDepth 10000



@[go_sem] theorem lendR_trs (n : Nat) (st : St) : ∀ (l : List (List (Int × Int))) (K : List Loc → List (List RV) → Prop), lendR (lendC n st) (l.map trsC) K = K [] (l.map trsR)
  | [], K => rfl
  | x :: l, K => by
    cases n <;> (simp only [List.map_cons, lendR, lendL, lendC]; rw [lendR_trs _ st l]; rfl)
@[go_sem] theorem lendR_bool (n : Nat) (st : St) : ∀ (l : List Bool) (K : List Loc → List (List RV) → Prop), lendR (lendC n st) (l.map boolC) K = K [] (l.map boolR)
  | [], K => rfl
  | x :: l, K => by
    cases n <;> (simp only [List.map_cons, lendR, lendL, lendC]; rw [lendR_bool _ st l]; rfl)

/-- How calls of this function are met: it hands back two slices. -/
def sp_tries (st : St) (d : Nat) (args : List AV) (K : AV → List Loc → List (Loc × Cont) → Prop) : Prop := match args with
  | [.agg [.r (.v (.int .i64 pa)), .r (.v (.int .i64 rg)), .r (.v (.bool ge)), .r (.rs 1 us), .r (.rs 5 vs)]] =>
    ((us = (intsOf us).map intR ∧ vs = (inssOf vs).map insR) ∧ Cok ⟨pa, rg, ge, intsOf us, inssOf vs⟩) ∧ K (.tup [.os d (1 + st.cur d), .os (d + 1000) (1 + st.cur (d + 1000)), Bv (!(walkF ⟨pa, rg, ge, intsOf us, inssOf vs⟩).bad)]) [.R d, .R (d + 1000)]
      [(.R d, .s (1 + st.cur d) (.sl 49 1 ((walkF ⟨pa, rg, ge, intsOf us, inssOf vs⟩).out.map trsC))), (.R (d + 1000), .s (1 + st.cur (d + 1000)) (.sl 4 1 ((walkF ⟨pa, rg, ge, intsOf us, inssOf vs⟩).seen.map boolC)))]
  | _ => False
theorem sp_tries_ok (st : St) (d : Nat) (args : List AV) (K : AV → List Loc → List (Loc × Cont) → Prop) (h : sp_tries st d args K) : ∃ r ls outs, CallR Cx 44 st args r ls outs ∧ K r ls outs := by
  unfold sp_tries at h
  split at h
  · rename_i pa rg ge us vs
    obtain ⟨⟨hq, hc⟩, hK⟩ := h
    refine ⟨_, _, _, ?_, hK⟩
    have hfc := tries_c ⟨pa, rg, ge, intsOf us, inssOf vs⟩ hc
    rw [fn_at hq] at hfc
    generalize walkF ⟨pa, rg, ge, intsOf us, inssOf vs⟩ = W at hfc ⊢
    have e : ∀ k, lookR k (rsT W) = if k = 11 then (1, .sl 4 1 (W.seen.map boolC)) else if k = 15 then (1, .sl 49 1 (W.out.map trsC)) else (0, .gone) := fun k => rfl
    have := CallR.gen (st := st) hfc [(15, d, st.cur d), (11, d + 1000, st.cur (d + 1000))] rfl (ndB_ok (by simp [ndB, memN])) rfl rfl (fun p hp => by simp at hp) (fun p hp => ?_) (fun p hp => by simp at hp) (fun q hq d0 d1 => ?_)
    · simpa only [mpS, mpD, ren, renL, renRes, List.map_cons, List.map_nil, backV, domR, e, lookR, rsT, Nat.reduceEqDiff, ↓reduceIte, map_none (flatBool _), map_none (flatTrs _)] using this
    · simp only [rsT, List.mem_cons, List.not_mem_nil, or_false] at hp
      rcases hp with rfl | rfl
      · exact fun row h => withinL_none (flatBool _ row h)
      · exact fun row h => withinL_none (flatTrs _ row h)
    · simp only [List.mem_cons, List.not_mem_nil, or_false] at hq
      rcases hq with rfl | rfl
      · simp only [mpS, mpD, e, Nat.reduceEqDiff, ↓reduceIte]; omega
      · simp only [mpS, mpD, e, Nat.reduceEqDiff, ↓reduceIte]; omega
  · exact h.elim
noncomputable def ct_tries : Ct Cx := .res 44 sp_tries en44 sp_tries_ok
@[go_sem] theorem ct_tries_g : ct_tries.g = 44 := rfl
@[go_sem] theorem ct_tries_run (c : Call) (fop : Operand) (caps : List RV) (o : Oper) (st : St) (K : List Loc → List (Loc × Cont) → Prop) : ct_tries.run c fop caps o st K = callG sp_tries c fop caps o st K := rfl
attribute [go_sem] sp_tries

/-- What Tries answers. -/
def TriesF (p : ProgT) (n : Int) : List (List (Int × Int)) × List Bool × Int :=
  if checkF p ≠ 0 then ([], [], checkF p) else if n < 0 ∨ (p.fns.length : Int) ≤ n then ([], [], 1) else
  ((walkF (p.fns.getD n.toNat fn0)).out, (walkF (p.fns.getD n.toNat fn0)).seen, 0)
abbrev trV (x : List (List (Int × Int)) × List Bool × Int) : AV := .tup [trssV x.1, boolsV x.2.1, Iv x.2.2]

theorem check_fn {p : ProgT} (hw : Pwf p) (h : checkF p = 0) {f : FnT} (hf : f ∈ p.fns) : Pok p ∧ functionF p f = true ∧ Cok f ∧ (walkF f).bad = false := by
  unfold checkF at h
  split at h
  · cases h
  · rename_i hL
    have hp := large_ok hw (by simpa using hL)
    split at h
    · cases h
    · split at h
      · cases h
      · split at h
        · cases h
        · rename_i hA
          have h1 := List.any_eq_false.1 (by simpa using hA : (p.fns.any fun f => !functionF p f) = false) f hf
          have h2 : functionF p f = true := by simpa using h1
          refine ⟨hp, h2, ?_⟩
          unfold functionF at h2
          split at h2
          · cases h2
          · split at h2
            · cases h2
            · rename_i ho
              exact ⟨ord_code (hp.fn f hf).1 (by simpa using ho), by simpa using h2⟩

theorem run_iv {f : FnT} (hc : Cok f) : ∀ (k : Nat) (W : WT), Wiv f W → Wiv f (runW f k W)
  | 0, W, h => h
  | k + 1, W, h => by
    show Wiv f (if goesW W = true then runW f k (stepW f W) else W)
    split
    · rename_i hg; exact run_iv hc k _ (step_iv h hc hg).1
    · exact h
theorem walk_iv {f : FnT} (hc : Cok f) : Wiv f (walkF f) := run_iv hc _ _ (walk_start hc).1
theorem set_same {α : Type} {l : List α} {i : Nat} {x : α} (h : l[i]? = some x) : l.set i x = l := by
  refine List.ext_getElem? fun j => ?_
  rw [List.getElem?_set]
  by_cases hj : i = j
  · subst hj; rw [if_pos rfl, if_pos (List.getElem?_eq_some_iff.1 h).1, h]
  · rw [if_neg hj]

theorem Tries_c (p : ProgT) (n : Int) (hw : Pwf p) : FC Cx 18 [progV p, Iv n] [] (trV (TriesF p n)) [] := by
  have hsz := hw.sz
  have l1 : (p.fns.map fnR).length = p.fns.length := List.length_map ..
  unfold TriesF
  by_cases hc : checkF p ≠ 0
  · rw [if_pos hc]
    have d0 : decide (checkF p = 0) = false := by simpa using hc
    refine FCf_of [ct_check'] Tryd.func18 rfl Tryd.ntmps18 (by simp) Tryd.results18 rfl ?_
    apply Rn_st; (intro K0; simp only [go_sem]; exact ⟨id⟩)
    refine goR (L := []) (n := 0) ?_
    (apply Rn_frzB 2; (exact rfl); (exact rfl); (exact rfl); (intro K0; (try simp only [go_sem]); exact ⟨id⟩))
    (any_goals refine go lv18 0 ?_)
    repeat' (first | (refine Br.go (fun h h' => ?_) (fun h h' => ?_)) | (refine Br.mk (fun h => ?_) (fun h => ?_)))
    all_goals (try simp only [go_sem])
  rw [if_neg hc]
  have hc0 : checkF p = 0 := by simpa using hc
  have d0 : decide (checkF p = 0) = true := by simpa using hc0
  by_cases hn : n < 0 ∨ (p.fns.length : Int) ≤ n
  · rw [if_pos hn]
    have d1 : (decide (n < 0) || decide ((p.fns.length : Int) ≤ n)) = true := by simpa using hn
    refine FCf_of [ct_check'] Tryd.func18 rfl Tryd.ntmps18 (by simp) Tryd.results18 rfl ?_
    apply Rn_st; (intro K0; simp only [go_sem]; exact ⟨id⟩)
    refine goR (L := []) (n := 0) ?_
    (apply Rn_frzB 2; (exact rfl); (exact rfl); (exact rfl); (intro K0; (try simp only [go_sem]); exact ⟨id⟩))
    (any_goals refine go lv18 0 ?_)
    repeat' (first | (refine Br.go (fun h h' => ?_) (fun h h' => ?_)) | (refine Br.mk (fun h => ?_) (fun h => ?_)))
    all_goals (try simp only [go_sem])
  rw [if_neg hn]
  have d1 : (decide (n < 0) || decide ((p.fns.length : Int) ≤ n)) = false := by rw [Bool.eq_false_iff]; simpa using hn
  obtain ⟨k, rfl⟩ : ∃ k : Nat, n = k := ⟨n.toNat, by omega⟩
  have hk : k < p.fns.length := by omega
  have t1 : Int.toNat (k : Int) = k := by omega
  obtain ⟨f, hf⟩ : ∃ f, p.fns[k]? = some f := ⟨p.fns[k], List.getElem?_eq_getElem hk⟩
  have e1 : p.fns.getD k fn0 = f := by simp [List.getD, hf]
  have g1 := getD_map fnR hf ([] : List RV)
  obtain ⟨hp, _, hcok, _⟩ := check_fn hw hc0 (List.mem_of_getElem? hf)
  rw [t1, e1]
  have l2 : ((walkF f).out.map trsC).length = (walkF f).out.length := List.length_map ..
  refine FCf_of [ct_check', ct_tries, ct_cloneTry] Tryd.func18 rfl Tryd.ntmps18 (by simp) Tryd.results18 rfl ?_
  apply Rn_st; (intro K0; simp only [go_sem]; exact ⟨id⟩)
  refine goR (L := []) (n := 0) ?_
  (apply Rn_frzB 2; (exact rfl); (exact rfl); (exact rfl); (intro K0; (try simp only [go_sem]); exact ⟨id⟩))
  (any_goals refine go lv18 0 ?_)
  repeat' (first | (refine Br.go (fun h h' => ?_) (fun h h' => ?_)) | (refine Br.mk (fun h => ?_) (fun h => ?_)))
  have iv := walk_iv hcok
  have hlen := hcok.len
  have lo : (walkF f).out.length ≤ 600 := by have := iv.out; omega
  refine Rn_loopR [8, 9, 37, 38] (fun i : Nat => i ≤ (walkF f).out.length)
    (fun i => ⟨52, [(8, .os 32 1), (9, .os 1032 1), (37, Iv (walkF f).out.length), (38, Iv i)], [(2, 2, .gone), (32, 1, .sl 49 1 ((walkF f).out.map trsC)), (1032, 1, .sl 4 1 ((walkF f).seen.map boolC))]⟩) (fun i => (walkF f).out.length - i) 0 rfl rfl ⟨rfl, .inl ⟨rfl, rfl⟩, rfl, .inl ⟨rfl, rfl⟩, rfl, .inl ⟨rfl, rfl⟩, trivial⟩ (Nat.zero_le _) ?_
  rintro i hi
  generalize (walkF f) = W at *
  have t2 : Int.toNat (i : Int) = i := by omega
  by_cases hlt : i < W.out.length
  · have c1 : decide ((i : Int) < (W.out.length : Int)) = true := by rw [decide_eq_true_eq]; omega
    obtain ⟨x, hx⟩ : ∃ x, W.out[i]? = some x := ⟨W.out[i], List.getElem?_eq_getElem hlt⟩
    have g2 := getD_map trsC hx ([] : List AV)
    have hx20 := iv.outs x (List.mem_of_getElem? hx)
    have l3 : (x.map tryR).length = x.length := List.length_map ..
    have s1 : (W.out.map trsC).set i [triesV x] = W.out.map trsC := by rw [set_map trsC, set_same hx]
    have w1 : IntKind.i64.wrap ((i : Int) + 1) = ((i + 1 : Nat) : Int) := by rw [wrap_id] <;> omega
    (any_goals refine go lv18 0 ?_)
    repeat' (first | (refine Br.go (fun h h' => ?_) (fun h h' => ?_)) | (refine Br.mk (fun h => ?_) (fun h => ?_)))
    all_goals (try simp only [go_sem])
    exact ⟨i + 1, by omega, by omega, Le_keepR [8, 9, 37, 38] rfl rfl ⟨rfl, .inl ⟨rfl, rfl⟩, rfl, .inl ⟨rfl, rfl⟩, rfl, .inl ⟨rfl, rfl⟩, trivial⟩⟩
  · have c1 : decide ((i : Int) < (W.out.length : Int)) = false := by rw [decide_eq_false_iff_not]; omega
    (any_goals refine go lv18 0 ?_)
    repeat' (first | (refine Br.go (fun h h' => ?_) (fun h h' => ?_)) | (refine Br.mk (fun h => ?_) (fun h => ?_)))
    all_goals (try simp only [go_sem])
theorem Tries'_c (xs ys zs : List (List RV)) (n : Int) (h : (xs = (fnsOf xs).map fnR ∧ ys = (valsOf ys).map valR ∧ zs = (strsOf zs).map strR) ∧ Pwf ⟨fnsOf xs, valsOf ys, strsOf zs⟩) : FC Cx 18 [.agg [.r (.rs 5 xs), .r (.rs 2 ys), .r (.rs 1 zs)], Iv n] [] (trV (TriesF ⟨fnsOf xs, valsOf ys, strsOf zs⟩ n)) [] := by
  have := Tries_c ⟨fnsOf xs, valsOf ys, strsOf zs⟩ n h.2
  rwa [prog_at h.1] at this
/-- How calls of this function are met. -/
def sp_Tries' (args : List AV) (K : AV → Prop) : Prop := match args with
  | [.agg [.r (.rs 5 xs), .r (.rs 2 ys), .r (.rs 1 zs)], .r (.v (.int .i64 n))] => ((xs = (fnsOf xs).map fnR ∧ ys = (valsOf ys).map valR ∧ zs = (strsOf zs).map strR) ∧ Pwf ⟨fnsOf xs, valsOf ys, strsOf zs⟩) ∧ K (trV (TriesF ⟨fnsOf xs, valsOf ys, strsOf zs⟩ n))
  | _ => False
theorem sp_Tries'_ok (args : List AV) (K : AV → Prop) (h : sp_Tries' args K) : ∃ r, CallOk Cx 18 args r ∧ K r := by
  unfold sp_Tries' at h
  split at h
  · exact ⟨_, CallOk_of (Tries'_c _ _ _ _ h.1) en18 rfl rfl, h.2⟩
  · exact h.elim
noncomputable def ct_Tries' : Ct Cx := .pure 18 sp_Tries' sp_Tries'_ok
@[go_sem] theorem ct_Tries'_g : ct_Tries'.g = 18 := rfl
@[go_sem] theorem ct_Tries'_run (c : Call) (fop : Operand) (caps : List RV) (o : Oper) (st : St) (K : List Loc → List (Loc × Cont) → Prop) : ct_Tries'.run c fop caps o st K = callT Cx sp_Tries' c fop caps o st K := rfl
@[go_sem] theorem sp_Tries'_eq (args : List AV) (K : AV → Prop) : sp_Tries' args K = (match args with
    | [.agg [.r (.rs 5 xs), .r (.rs 2 ys), .r (.rs 1 zs)], .r (.v (.int .i64 n))] => ((xs = (fnsOf xs).map fnR ∧ ys = (valsOf ys).map valR ∧ zs = (strsOf zs).map strR) ∧ Pwf ⟨fnsOf xs, valsOf ys, strsOf zs⟩) ∧ K (trV (TriesF ⟨fnsOf xs, valsOf ys, strsOf zs⟩ n))
    | _ => False) := rfl

end Go.Proofs.YtjbhpoolghfhiaaDoor
