/- CodeSays: whatever is handed in, Check and Tries answer what the document says. No condition: the contract of the law's function. -/
import Derived.Test.YtjbhpoolghfhiaaDoorCd43
namespace Go.Proofs.YtjbhpoolghfhiaaDoor
set_option linter.unusedVariables false
set_option linter.unusedSimpArgs false
set_option maxHeartbeats 10000000
open Go
set_option maxRecDepth 10000


theorem says_no (p : ProgT) (n : Int) (hw : Pwf p) (hc : checkF p ≠ 0) : FC Cx 6 [progV p, Iv n] [] (Bv true) [] := by
  have hT : TriesF p n = ([], [], checkF p) := by unfold TriesF; rw [if_pos hc]
  have d0 : decide (checkF p = 0) = false := by simpa using hc
  refine FCp_of [ct_Tries', ct_check', ct_fault', ct_known2', ct_rBetween, ct_eqTry'] Tryd.func6 rfl Tryd.ntmps6 (by simp) Tryd.results6 rfl ?_
  apply Rn_st; (intro K0; simp only [go_sem]; exact ⟨id⟩)
  refine goR (L := []) (n := 0) ?_
  (apply Rn_frzB 2; (exact rfl); (exact rfl); (exact rfl); (intro K0; (try simp only [go_sem]); exact ⟨id⟩))
  (any_goals refine go lv6 0 ?_)
  repeat' (first | (refine Br.go (fun h h' => ?_) (fun h h' => ?_)) | (refine Br.mk (fun h => ?_) (fun h => ?_)))
  all_goals (try simp only [go_sem])
theorem says_out (p : ProgT) (n : Int) (hw : Pwf p) (hc : checkF p = 0) (hn : n < 0 ∨ (p.fns.length : Int) ≤ n) : FC Cx 6 [progV p, Iv n] [] (Bv true) [] := by
  have hT : TriesF p n = ([], [], 1) := by unfold TriesF; rw [if_neg (by simpa using hc), if_pos hn]
  have l1 : (p.fns.map fnR).length = p.fns.length := List.length_map ..
  have hp := hw.sz.fns
  have w1 : IntKind.i64.wrap ((p.fns.length : Int) - 1) = (p.fns.length : Int) - 1 := by rw [wrap_id] <;> omega
  have d1 : decide (0 ≤ n ∧ n ≤ (p.fns.length : Int) - 1) = false := by rw [decide_eq_false_iff_not]; omega
  refine FCp_of [ct_Tries', ct_check', ct_fault', ct_known2', ct_rBetween, ct_eqTry'] Tryd.func6 rfl Tryd.ntmps6 (by simp) Tryd.results6 rfl ?_
  apply Rn_st; (intro K0; simp only [go_sem]; exact ⟨id⟩)
  refine goR (L := []) (n := 0) ?_
  (apply Rn_frzB 2; (exact rfl); (exact rfl); (exact rfl); (intro K0; (try simp only [go_sem]); exact ⟨id⟩))
  (any_goals refine go lv6 0 ?_)
  repeat' (first | (refine Br.go (fun h h' => ?_) (fun h h' => ?_)) | (refine Br.mk (fun h => ?_) (fun h => ?_)))
  all_goals (try simp only [go_sem])
theorem says_c (p : ProgT) (n : Int) (hw : Pwf p) : FC Cx 6 [progV p, Iv n] [] (Bv true) [] := by
  by_cases hc : checkF p ≠ 0
  · exact says_no p n hw hc
  have hc0 : checkF p = 0 := by simpa using hc
  by_cases hn : n < 0 ∨ (p.fns.length : Int) ≤ n
  · exact says_out p n hw hc0 hn
  obtain ⟨k, rfl⟩ : ∃ k : Nat, n = k := ⟨n.toNat, by omega⟩
  have hk : k < p.fns.length := by omega
  have t1 : Int.toNat (k : Int) = k := by omega
  obtain ⟨f, hf⟩ : ∃ f, p.fns[k]? = some f := ⟨p.fns[k], List.getElem?_eq_getElem hk⟩
  have e1 : p.fns.getD k fn0 = f := by simp [List.getD, hf]
  have g1 := getD_map fnR hf ([] : List RV)
  obtain ⟨hp, _, hcok, hb⟩ := check_fn hw hc0 (List.mem_of_getElem? hf)
  have hT : TriesF p k = ((walkF f).out, (walkF f).seen, 0) := by unfold TriesF; rw [if_neg hc, if_neg hn, t1, e1]
  have l1 : (p.fns.map fnR).length = p.fns.length := List.length_map ..
  have hpf := hw.sz.fns
  have w1 : IntKind.i64.wrap ((p.fns.length : Int) - 1) = (p.fns.length : Int) - 1 := by rw [wrap_id] <;> omega
  have d1 : decide (0 ≤ (k : Int) ∧ (k : Int) ≤ (p.fns.length : Int) - 1) = true := by rw [decide_eq_true_eq]; omega
  have h0 := walk_pos hb
  have iv := walk_iv hcok
  have hl := hcok.len
  have l2 : ((walkF f).out.map trsR).length = f.code.length := by rw [List.length_map, iv.out]
  have l3 : ((walkF f).seen.map boolR).length = f.code.length := by rw [List.length_map, iv.seen]
  have l4 := kn2_len hcok h0
  refine FCp_of [ct_Tries', ct_check', ct_fault', ct_known2', ct_rBetween, ct_eqTry'] Tryd.func6 rfl Tryd.ntmps6 (by simp) Tryd.results6 rfl ?_
  apply Rn_st; (intro K0; simp only [go_sem]; exact ⟨id⟩)
  refine goR (L := []) (n := 0) ?_
  (apply Rn_frzB 2; (exact rfl); (exact rfl); (exact rfl); (intro K0; (try simp only [go_sem]); exact ⟨id⟩))
  (any_goals refine go lv6 0 ?_)
  repeat' (first | (refine Br.go (fun h h' => ?_) (fun h h' => ?_)) | (refine Br.mk (fun h => ?_) (fun h => ?_)))
  refine Rn_loopA [5, 6, 7, 73, 74, 75] (fun x : Nat × Nat => x.1 ≤ f.code.length) (fun x => let i := x.1; let u := x.2; ⟨100, [(5, trssV (walkF f).out), (6, boolsV (walkF f).seen), (7, Iv 0), (73, .r (.rs 2 (kn2R (docW f)))), (74, Iv f.code.length), (75, Iv i)], [(2, 2, .gone), (12, u, .gone)]⟩) (fun x => f.code.length - x.1) (0, 0) (Nat.zero_le _) ?_
  rintro ⟨i, u⟩ hi
  dsimp only at hi
  dsimp only
  by_cases hil : i < f.code.length
  case neg =>
    have c1 : decide ((i : Int) < (f.code.length : Int)) = false := by rw [decide_eq_false_iff_not]; omega
    (any_goals refine go lv6 0 ?_)
    repeat' (first | (refine Br.go (fun h h' => ?_) (fun h h' => ?_)) | (refine Br.mk (fun h => ?_) (fun h => ?_)))
    all_goals (try simp only [go_sem])
  have c1 : decide ((i : Int) < (f.code.length : Int)) = true := by rw [decide_eq_true_eq]; omega
  have t2 : Int.toNat (i : Int) = i := by omega
  have w2 : IntKind.i64.wrap ((i : Int) + 1) = ((i + 1 : Nat) : Int) := by rw [wrap_id] <;> omega
  have gk := kn2_at hcok hb hil
  have q1 : i < (walkF f).seen.length := by rw [iv.seen]; exact hil
  have q2 : i < (walkF f).out.length := by rw [iv.out]; exact hil
  obtain ⟨b, hbi⟩ : ∃ b, (walkF f).seen[i]? = some b := ⟨_, List.getElem?_eq_getElem q1⟩
  obtain ⟨l, hli⟩ : ∃ b, (walkF f).out[i]? = some b := ⟨_, List.getElem?_eq_getElem q2⟩
  have gb := getD_map boolR hbi ([] : List RV)
  have gl := getD_map trsR hli ([] : List RV)
  have eb : (walkF f).seen.getD i false = b := by simp [List.getD, hbi]
  have el : (walkF f).out.getD i [] = l := by simp [List.getD, hli]
  rw [eb, el] at gk
  have ll := iv.outs l (List.mem_of_getElem? hli)
  have l5 : (l.map tryR).length = l.length := List.length_map ..
  have eb2 : (b != b) = false := by simp
  (any_goals refine go lv6 0 ?_)
  repeat' (first | (refine Br.go (fun h h' => ?_) (fun h h' => ?_)) | (refine Br.mk (fun h => ?_) (fun h => ?_)))
  all_goals (try simp only [go_sem])
  refine ⟨(i + 1, u + 9), by dsimp only; omega, by dsimp only; omega, ?_⟩
  exact Le_subA

end Go.Proofs.YtjbhpoolghfhiaaDoor
