/- The walk through all orders that ways lead to: going on from one. No condition: contracts of the program's functions. -/
import Derived.Test.YtjbhpoolghfhiaaDoorCd8
namespace Go.Proofs.YtjbhpoolghfhiaaDoor
set_option linter.unusedVariables false
set_option linter.unusedSimpArgs false
set_option maxHeartbeats 10000000
open Go
set_option maxRecDepth 10000



def ins0 : InsT := ⟨0, 0, 0, 0, 0⟩
def fromF (f : FnT) (n : Int) (W : WT) : WT :=
  let i := f.code.getD n.toNat ins0
  let l := W.out.getD n.toNat []
  if i.op = 28 ∨ i.op = 29 then W else if i.op = 13 ∨ i.op = 14 then comeF f i.a l W else
  if i.op = 15 then comeF f (n + 1) l (comeF f i.b l W) else if i.op = 30 then comeF f (n + 1) (l ++ [(i.a, i.b)]) (comeF f i.b l W) else
  if i.op = 31 then (if l = [] then { W with bad := true } else comeF f (n + 1) (l.take (l.length - 1)) W) else comeF f (n + 1) l W

theorem come_todo (f : FnT) (n : Int) (l : List (Int × Int)) (W : WT) : (comeF f n l W).todo.length ≤ W.todo.length + 1 := by
  unfold comeF
  split
  · simp
  · split
    · simp
    · split <;> simp
theorem come_ok {f : FnT} {n : Int} {l : List (Int × Int)} {W : WT} (h : Wok f W) (ht : W.todo.length ≤ 999) : Wok f (comeF f n l W) := by
  obtain ⟨h1, h2, h3, h4, h5⟩ := h
  have h6 := come_todo f n l W
  refine ⟨h1, ?_, ?_, by omega, ?_⟩
  · unfold comeF; split
    · exact h2
    · split
      · simpa using h2
      · split <;> exact h2
  · unfold comeF; split
    · exact h3
    · split
      · simpa using h3
      · split <;> exact h3
  · unfold comeF; split
    · exact h5
    · split
      · intro x hx
        rcases List.mem_or_eq_of_mem_set hx with hx | rfl
        · exact h5 x hx
        · omega
      · split <;> exact h5

theorem from_c (f : FnT) (n : Nat) (W : WT) (hw : Wok f W) (ht : W.todo.length ≤ 998) (i : InsT) (hi : f.code[n]? = some i) (hA : i.op = 13 ∨ i.op = 14 → 0 ≤ i.a) (hB : i.op = 15 ∨ i.op = 30 → 0 ≤ i.b) (hl20 : (W.out.getD n []).length ≤ 20) :
    FC Cx 61 [.os 0 0, Iv n] (rsW 0 f W) (.tup []) (rsW 2 f (fromF f n W)) := by
  obtain ⟨hc, h1, h2, h3, h4⟩ := id hw
  have hn : n < f.code.length := (List.getElem?_eq_some_iff.1 hi).1
  have l0 : (f.code.map insR).length = f.code.length := List.length_map ..
  have l2 : (W.out.map trsC).length = f.code.length := by rw [List.length_map, h2]
  have t1 : Int.toNat (n : Int) = n := by omega
  obtain ⟨l, hl⟩ : ∃ l, W.out[n]? = some l := ⟨W.out[n], List.getElem?_eq_getElem (by omega)⟩
  have g1 := getD_map insR hi ([] : List RV)
  have g2 := getD_map trsC hl ([] : List AV)
  have e1 : f.code.getD n ins0 = i := by simp [List.getD, hi]
  have e2 : W.out.getD n [] = l := by simp [List.getD, hl]
  rw [e2] at hl20
  have l4 : (l.map tryR).length = l.length := List.length_map ..
  have w1 : IntKind.i64.wrap ((n : Int) + 1) = (n : Int) + 1 := by rw [wrap_id] <;> omega
  obtain ⟨op, a, b, c, line⟩ := i
  dsimp only at hA hB
  have l5 : (l.map tryC).length = l.length := List.length_map ..
  have hl1000 : l.length ≤ 1000 := by omega
  by_cases o28 : op = 28
  · subst o28
    have hF : fromF f n W = W := by unfold fromF; simp only [t1, e1, e2]; simp
    rw [hF]
    refine FCmb_of [ct_come, ct_cloneTryP] [(3, 2)] Tryd.func61 rfl Tryd.ntmps61 (by simp) Tryd.results61 rfl (insW 2 f _) ?_
    apply Rn_st; (intro K0; simp only [go_sem]; exact ⟨id⟩)
    (any_goals refine go lv61 0 ?_)
    repeat' (first | (refine Br.go (fun h h' => ?_) (fun h h' => ?_)) | (refine Br.mk (fun h => ?_) (fun h => ?_)))
    all_goals (try simp only [go_sem])
    all_goals (first | rfl | (repeat' (first | rfl | refine And.intro ?_ ?_)))
  have d28 : decide (op = 28) = false := by simpa using o28
  by_cases o29 : op = 29
  · subst o29
    have hF : fromF f n W = W := by unfold fromF; simp only [t1, e1, e2]; simp
    rw [hF]
    refine FCmb_of [ct_come, ct_cloneTryP] [(3, 2)] Tryd.func61 rfl Tryd.ntmps61 (by simp) Tryd.results61 rfl (insW 2 f _) ?_
    apply Rn_st; (intro K0; simp only [go_sem]; exact ⟨id⟩)
    (any_goals refine go lv61 0 ?_)
    repeat' (first | (refine Br.go (fun h h' => ?_) (fun h h' => ?_)) | (refine Br.mk (fun h => ?_) (fun h => ?_)))
    all_goals (try simp only [go_sem])
    all_goals (first | rfl | (repeat' (first | rfl | refine And.intro ?_ ?_)))
  have d29 : decide (op = 29) = false := by simpa using o29
  by_cases o13 : op = 13
  · subst o13
    have hF : fromF f n W = comeF f a l W := by unfold fromF; simp only [t1, e1, e2]; simp
    rw [hF]
    have ha : 0 ≤ a := hA (by simp)
    refine FCmb_of [ct_come, ct_cloneTryP] [(3, 2)] Tryd.func61 rfl Tryd.ntmps61 (by simp) Tryd.results61 rfl (insW 2 f _) ?_
    apply Rn_st; (intro K0; simp only [go_sem]; exact ⟨id⟩)
    (any_goals refine go lv61 0 ?_)
    repeat' (first | (refine Br.go (fun h h' => ?_) (fun h h' => ?_)) | (refine Br.mk (fun h => ?_) (fun h => ?_)))
    all_goals (try simp only [go_sem])
    all_goals (first | rfl | (repeat' (first | rfl | refine And.intro ?_ ?_)))
  have d13 : decide (op = 13) = false := by simpa using o13
  by_cases o14 : op = 14
  · subst o14
    have hF : fromF f n W = comeF f a l W := by unfold fromF; simp only [t1, e1, e2]; simp
    rw [hF]
    have ha : 0 ≤ a := hA (by simp)
    refine FCmb_of [ct_come, ct_cloneTryP] [(3, 2)] Tryd.func61 rfl Tryd.ntmps61 (by simp) Tryd.results61 rfl (insW 2 f _) ?_
    apply Rn_st; (intro K0; simp only [go_sem]; exact ⟨id⟩)
    (any_goals refine go lv61 0 ?_)
    repeat' (first | (refine Br.go (fun h h' => ?_) (fun h h' => ?_)) | (refine Br.mk (fun h => ?_) (fun h => ?_)))
    all_goals (try simp only [go_sem])
    all_goals (first | rfl | (repeat' (first | rfl | refine And.intro ?_ ?_)))
  have d14 : decide (op = 14) = false := by simpa using o14
  by_cases o15 : op = 15
  · subst o15
    have hF : fromF f n W = comeF f (n + 1) l (comeF f b l W) := by unfold fromF; simp only [t1, e1, e2]; simp
    rw [hF]
    have hb : 0 ≤ b := hB (by simp)
    have hw2 : Wok f (comeF f b l W) := come_ok hw (by omega)
    refine FCmb_of [ct_come, ct_cloneTryP] [(3, 2)] Tryd.func61 rfl Tryd.ntmps61 (by simp) Tryd.results61 rfl (insW 2 f _) ?_
    apply Rn_st; (intro K0; simp only [go_sem]; exact ⟨id⟩)
    (any_goals refine go lv61 0 ?_)
    repeat' (first | (refine Br.go (fun h h' => ?_) (fun h h' => ?_)) | (refine Br.mk (fun h => ?_) (fun h => ?_)))
    all_goals (try simp only [go_sem])
    all_goals (first | rfl | (repeat' (first | rfl | refine And.intro ?_ ?_)))
  have d15 : decide (op = 15) = false := by simpa using o15
  by_cases o30 : op = 30
  · subst o30
    have hF : fromF f n W = comeF f (n + 1) (l ++ [(a, b)]) (comeF f b l W) := by unfold fromF; simp only [t1, e1, e2]; simp
    rw [hF]
    have hb : 0 ≤ b := hB (by simp)
    have hw2 : Wok f (comeF f b l W) := come_ok hw (by omega)
    have hm : (l.map tryC) ++ [[Iv a, Iv b]] = (l ++ [(a, b)]).map tryC := by simp
    have l6 : ((l ++ [(a, b)]).map tryR).length = l.length + 1 := by simp
    refine FCmb_of [ct_come, ct_cloneTryP] [(3, 2)] Tryd.func61 rfl Tryd.ntmps61 (by simp) Tryd.results61 rfl (insW 2 f _) ?_
    apply Rn_st; (intro K0; simp only [go_sem]; exact ⟨id⟩)
    (any_goals refine go (dropL 16 lv61) 0 ?_)
    repeat' (first | (refine Br.go (fun h h' => ?_) (fun h h' => ?_)) | (refine Br.mk (fun h => ?_) (fun h => ?_)))
    (apply Rn_frzS 49 ((l ++ [(a, b)]).map tryR); (exact rfl); (exact (roTryC _).symm); (exact rfl); (intro K0; (try simp only [go_sem]); exact ⟨id⟩))
    (any_goals refine go lv61 0 ?_)
    repeat' (first | (refine Br.go (fun h h' => ?_) (fun h h' => ?_)) | (refine Br.mk (fun h => ?_) (fun h => ?_)))
    all_goals (try simp only [go_sem])
    all_goals (first | rfl | (repeat' (first | rfl | refine And.intro ?_ ?_)))
  have d30 : decide (op = 30) = false := by simpa using o30
  by_cases o31 : op = 31
  · subst o31
    by_cases hl0 : l = []
    · have hF : fromF f n W = { W with bad := true } := by unfold fromF; simp only [t1, e1, e2]; simp [hl0]
      rw [hF]
      subst hl0
      refine FCmb_of [ct_come, ct_cloneTryP] [(3, 2)] Tryd.func61 rfl Tryd.ntmps61 (by simp) Tryd.results61 rfl (insW 2 f _) ?_
      apply Rn_st; (intro K0; simp only [go_sem]; exact ⟨id⟩)
      (any_goals refine go lv61 0 ?_)
      repeat' (first | (refine Br.go (fun h h' => ?_) (fun h h' => ?_)) | (refine Br.mk (fun h => ?_) (fun h => ?_)))
      all_goals (try simp only [go_sem])
      all_goals (first | rfl | (repeat' (first | rfl | refine And.intro ?_ ?_)))
    · have hF : fromF f n W = comeF f (n + 1) (l.take (l.length - 1)) W := by unfold fromF; simp only [t1, e1, e2]; simp [hl0]
      rw [hF]
      have hl1 : 0 < l.length := List.length_pos_iff.2 hl0
      have d0 : decide ((l.length : Int) = 0) = false := by rw [decide_eq_false_iff_not]; omega
      have w2 : IntKind.i64.wrap ((l.length : Int) - 1) = ((l.length - 1 : Nat) : Int) := by rw [wrap_id] <;> omega
      have t2 : Int.toNat ((l.length - 1 : Nat) : Int) = l.length - 1 := by omega
      have k1 : List.drop 0 (List.take (l.length - 1) (l.map tryR)) = (l.take (l.length - 1)).map tryR := by rw [List.map_take]; rfl
      have l7 : ((l.take (l.length - 1)).map tryR).length = l.length - 1 := by simp
      refine FCmb_of [ct_come, ct_cloneTryP] [(3, 2)] Tryd.func61 rfl Tryd.ntmps61 (by simp) Tryd.results61 rfl (insW 2 f _) ?_
      apply Rn_st; (intro K0; simp only [go_sem]; exact ⟨id⟩)
      (any_goals refine go lv61 0 ?_)
      repeat' (first | (refine Br.go (fun h h' => ?_) (fun h h' => ?_)) | (refine Br.mk (fun h => ?_) (fun h => ?_)))
      all_goals (try simp only [go_sem])
      all_goals (first | rfl | (repeat' (first | rfl | refine And.intro ?_ ?_)))
  have d31 : decide (op = 31) = false := by simpa using o31
  have hF : fromF f n W = comeF f (n + 1) l W := by unfold fromF; simp only [t1, e1, e2]; simp [o13, o14, o15, o28, o29, o30, o31]
  rw [hF]
  refine FCmb_of [ct_come, ct_cloneTryP] [(3, 2)] Tryd.func61 rfl Tryd.ntmps61 (by simp) Tryd.results61 rfl (insW 2 f _) ?_
  apply Rn_st; (intro K0; simp only [go_sem]; exact ⟨id⟩)
  (any_goals refine go lv61 0 ?_)
  repeat' (first | (refine Br.go (fun h h' => ?_) (fun h h' => ?_)) | (refine Br.mk (fun h => ?_) (fun h => ?_)))
  all_goals (try simp only [go_sem])
  all_goals (first | rfl | (repeat' (first | rfl | refine And.intro ?_ ?_)))

end Go.Proofs.YtjbhpoolghfhiaaDoor
