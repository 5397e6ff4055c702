/- What the document finds wrong with a program: its function. No condition: a contract. -/
import Derived.Test.YtjbhpoolghfhiaaDoorCd41
import Derived.Test.YtjbhpoolghfhiaaDoorRv1
namespace Go.Proofs.YtjbhpoolghfhiaaDoor
set_option linter.unusedVariables false
set_option linter.unusedSimpArgs false
set_option maxHeartbeats 10000000
open Go
set_option maxRecDepth 10000


theorem badV_and (p : ProgT) (v : Int × Int) (b : Bool) : (b && rightF v.1 v.2 && !decide (v.1 = 5) && (!decide (v.1 = 4) || decide (v.2 < (p.texts.length : Int)))) = (b && !badV p v) := by
  unfold badV
  have e : decide (v.2 < (p.texts.length : Int)) = !decide ((p.texts.length : Int) ≤ v.2) := by
    rw [Bool.eq_iff_iff]; simp
  rw [e]
  cases b <;> cases rightF v.1 v.2 <;> cases decide (v.1 = 5) <;> cases decide (v.1 = 4) <;> simp

/-- What is so far right of the functions. -/
def fnsOk (p : ProgT) (b : Bool) (k : Nat) : Bool := b && (decide (k = 0) || firstF p) && (p.fns.take k).all (functionF p)
theorem fnsOk_succ {p : ProgT} {b : Bool} {k : Nat} {f : FnT} (h : p.fns[k]? = some f) : fnsOk p b (k + 1) = (b && firstF p && (p.fns.take k).all (functionF p) && functionF p f) := by
  unfold fnsOk
  rw [all_take h]
  simp [Bool.and_assoc]
/-- What is wrong up to here stays wrong. -/
theorem fnsOk_no {p : ProgT} {b : Bool} {k : Nat} (hk : k ≤ p.fns.length) (h : fnsOk p b k = false) (hb : b = false ∨ 0 < p.fns.length) : (b && firstF p && p.fns.all (functionF p)) = false := by
  cases h1 : b with
  | false => rfl
  | true =>
    unfold fnsOk at h
    rw [h1, Bool.true_and] at h
    cases h2 : firstF p with
    | false => rfl
    | true =>
      rw [h2, Bool.or_true, Bool.true_and] at h
      simp only [Bool.true_and]
      rw [Bool.eq_false_iff]
      intro h3
      rw [Bool.eq_false_iff] at h
      exact h (List.all_eq_true.2 fun x hx => List.all_eq_true.1 h3 x (List.mem_of_mem_take hx))
theorem fn_no {p : ProgT} {b : Bool} {f : FnT} {k : Nat} (h : p.fns[k]? = some f) (hf : functionF p f = false) : (b && firstF p && p.fns.all (functionF p)) = false := by
  have : p.fns.all (functionF p) = false := by
    rw [Bool.eq_false_iff]; intro h3
    have := List.all_eq_true.1 h3 f (List.mem_of_getElem? h)
    rw [hf] at this; cases this
  rw [this]; simp

theorem first_at {p : ProgT} {f : FnT} (hf : p.fns[0]? = some f) : firstF p = (decide (f.params = 0) && decide ((f.caught.length : Int) = 0) && !f.gen) := by
  unfold firstF
  cases hfs : p.fns with
  | nil => rw [hfs] at hf; cases hf
  | cons g r =>
    rw [hfs] at hf
    have : g = f := by simpa using hf
    subst this
    have : decide ((g.caught.length : Int) = 0) = !decide ((0 : Int) < (g.caught.length : Int)) := by rw [Bool.eq_iff_iff]; simp
    rw [this]
theorem fault_c (p : ProgT) (hwf : Pwf p) : FC Cx 25 [progV p] [] (Iv (checkF p)) [] := by
  have hsz := hwf.sz
  obtain ⟨s1, s2, s3⟩ := hwf.sz
  have l1 : (p.fns.map fnR).length = p.fns.length := List.length_map ..
  have l2 : (p.consts.map valR).length = p.consts.length := List.length_map ..
  have l3 : (p.texts.map strR).length = p.texts.length := List.length_map ..
  rw [check_right]
  refine FCp_of [ct_known', ct_oright', ct_rRight, ct_rBetween, ct_ownWords] Tryd.func25 rfl Tryd.ntmps25 (by simp) Tryd.results25 rfl ?_
  apply Rn_st; (intro K0; simp only [go_sem]; exact ⟨id⟩)
  refine goR (L := []) (n := 0) ?_
  (apply Rn_frzB 1; (exact rfl); (exact rfl); (exact rfl); (intro K0; (try simp only [go_sem]); exact ⟨id⟩))
  (any_goals refine go lv25 0 ?_)
  repeat' (first | (refine Br.go (fun h h' => ?_) (fun h h' => ?_)) | (refine Br.mk (fun h => ?_) (fun h => ?_)))
  -- texts that are too long
  generalize hA0 : (decide ((60 : Int) < (p.fns.length : Int)) || decide ((200 : Int) < (p.consts.length : Int)) || decide ((200 : Int) < (p.texts.length : Int))) = A0
  refine Rn_loopA [1, 3, 36, 37, 38] (fun k : Nat => k ≤ p.texts.length) (fun k => ⟨218, [(1, .r (.rp (progR p))), (3, Bv (A0 || (p.texts.take k).any bigS)), (36, strsV p.texts), (37, Iv p.texts.length), (38, Iv k)], [(1, 2, .gone)]⟩) (fun k => p.texts.length - k) 0 (Nat.zero_le _) ?_ rfl (by simp [trimT, memN, hA0])
  intro k hk
  by_cases hlt : k < p.texts.length
  case pos =>
    have c1 : decide ((k : Int) < (p.texts.length : Int)) = true := by rw [decide_eq_true_eq]; omega
    have t1 : Int.toNat (k : Int) = k := by omega
    have w1 : IntKind.i64.wrap ((k : Int) + 1) = ((k + 1 : Nat) : Int) := by rw [wrap_id] <;> omega
    obtain ⟨s, hs⟩ : ∃ s, p.texts[k]? = some s := ⟨p.texts[k], List.getElem?_eq_getElem hlt⟩
    have hg := getD_map strR hs ([] : List RV)
    (any_goals refine go lv25 0 ?_)
    repeat' (first | (refine Br.go (fun h h' => ?_) (fun h h' => ?_)) | (refine Br.mk (fun h => ?_) (fun h => ?_)))
    all_goals (try simp only [go_sem])
    refine ⟨k + 1, by omega, by omega, ?_⟩
    rw [any_take hs, ← Bool.or_assoc]
    exact Le_keepA [1, 3, 36, 37, 38]
  obtain rfl : k = p.texts.length := by omega
  have c1 : decide ((p.texts.length : Int) < (p.texts.length : Int)) = false := by rw [decide_eq_false_iff_not]; omega
  have c2 : (A0 || p.texts.any bigS || p.fns.any bigF) = largeF p := by rw [← hA0]; rfl
  rw [List.take_length]
  clear hlt hk
  generalize hA1 : (A0 || p.texts.any bigS) = A1 at *
  (any_goals refine go lv25 0 ?_)
  repeat' (first | (refine Br.go (fun h h' => ?_) (fun h h' => ?_)) | (refine Br.mk (fun h => ?_) (fun h => ?_)))
  clear c1
  -- functions that are too large
  refine Rn_loopA [1, 3, 50, 51, 52] (fun x : Nat × Nat => x.1 ≤ p.fns.length) (fun x => let k := x.1; let u := x.2; ⟨218, [(1, .r (.rp (progR p))), (3, Bv (A1 || (p.fns.take k).any bigF)), (50, fnsV p.fns), (51, Iv p.fns.length), (52, Iv k)], [(1, 2, .gone), (7, u, .gone), (14, u, .gone), (16, u, .gone), (18, u, .gone)]⟩) (fun x => p.fns.length - x.1) (0, 0) (Nat.zero_le _) ?_ rfl (by simp [trimT, memN])
  rintro ⟨k, u⟩ hk
  dsimp only at hk
  dsimp only
  by_cases hlt : k < p.fns.length
  case pos =>
    have c1 : decide ((k : Int) < (p.fns.length : Int)) = true := by rw [decide_eq_true_eq]; omega
    have t1 : Int.toNat (k : Int) = k := by omega
    have w1 : IntKind.i64.wrap ((k : Int) + 1) = ((k + 1 : Nat) : Int) := by rw [wrap_id] <;> omega
    obtain ⟨f, hf⟩ : ∃ s, p.fns[k]? = some s := ⟨p.fns[k], List.getElem?_eq_getElem hlt⟩
    have hg := getD_map fnR hf ([] : List RV)
    have l4 : (f.code.map insR).length = f.code.length := List.length_map ..
    (any_goals refine go lv25 0 ?_)
    repeat' (first | (refine Br.go (fun h h' => ?_) (fun h h' => ?_)) | (refine Br.mk (fun h => ?_) (fun h => ?_)))
    all_goals (try simp only [go_sem])
    refine ⟨(k + 1, u + 9), by dsimp only; omega, by dsimp only; omega, ?_⟩
    dsimp only
    rw [any_take hf, ← Bool.or_assoc]
    unfold bigF
    rw [← Bool.or_assoc]
    exact Le_keepA [1, 3, 50, 51, 52]
  obtain rfl : k = p.fns.length := by omega
  have c1 : decide ((p.fns.length : Int) < (p.fns.length : Int)) = false := by rw [decide_eq_false_iff_not]; omega
  rw [List.take_length, c2]
  clear hlt hk c2 hA1
  cases hL : largeF p with
  | true =>
    rw [if_pos rfl]
    (any_goals refine go lv25 0 ?_)
    repeat' (first | (refine Br.go (fun h h' => ?_) (fun h h' => ?_)) | (refine Br.mk (fun h => ?_) (fun h => ?_)))
    all_goals (try simp only [go_sem])
  | false =>
  rw [if_neg (by simp)]
  have hp := large_ok hwf hL
  (any_goals refine go lv25 0 ?_)
  repeat' (first | (refine Br.go (fun h h' => ?_) (fun h h' => ?_)) | (refine Br.mk (fun h => ?_) (fun h => ?_)))
  clear c1
  -- texts
  generalize hB0 : (decide ((19 : Int) ≤ (p.texts.length : Int)) && decide ((0 : Int) < (p.fns.length : Int))) = B0
  refine Rn_loopA [1, 8, 81, 82, 83] (fun k : Nat => k ≤ p.texts.length) (fun k => ⟨218, [(1, .r (.rp (progR p))), (8, Bv (B0 && tOk p.texts k)), (81, strsV p.texts), (82, Iv p.texts.length), (83, Iv k)], [(1, 2, .gone), (7, u, .gone), (14, u, .gone), (16, u, .gone), (18, u, .gone)]⟩) (fun k => p.texts.length - k) 0 (Nat.zero_le _) ?_ rfl (by simp [trimT, memN, hB0, tOk])
  intro k hk
  by_cases hlt : k < p.texts.length
  case pos =>
    have c1 : decide ((k : Int) < (p.texts.length : Int)) = true := by rw [decide_eq_true_eq]; omega
    have t1 : Int.toNat (k : Int) = k := by omega
    have w1 : IntKind.i64.wrap ((k : Int) + 1) = ((k + 1 : Nat) : Int) := by rw [wrap_id] <;> omega
    obtain ⟨s, hs⟩ : ∃ s, p.texts[k]? = some s := ⟨p.texts[k], List.getElem?_eq_getElem hlt⟩
    have hg := getD_map strR hs ([] : List RV)
    have hm : List.drop 0 (List.take k (p.texts.map strR)) = (p.texts.take k).map strR := by rw [List.map_take]; rfl
    have lm : ((p.texts.take k).map strR).length = k := by simp; omega
    have ek : p.texts.getD k ⟨#[]⟩ = s := by simp [List.getD, hs]
    (any_goals refine go (dropL 18 lv25) 0 ?_)
    repeat' (first | (refine Br.go (fun h h' => ?_) (fun h h' => ?_)) | (refine Br.mk (fun h => ?_) (fun h => ?_)))
    refine Rn_cutX (st' := ⟨218, [(1, .r (.rp (progR p))), (8, Bv (B0 && tOk p.texts k && (decide (19 ≤ k) || decide (s = wordsL.getD k ⟨#[]⟩)))), (81, strsV p.texts), (82, Iv p.texts.length), (83, Iv k), (9, Iv k), (10, Sv s)], [(1, 2, .gone), (7, u, .gone), (14, u, .gone), (16, u, .gone), (18, u, .gone)]⟩) True rfl ?_ fun _ => ?_
    · cases hq : (B0 && tOk p.texts k) with
      | false =>
        simp only [Bool.false_and]
        (any_goals refine go lv25 0 ?_)
        repeat' (first | (refine Br.go (fun h h' => ?_) (fun h h' => ?_)) | (refine Br.mk (fun h => ?_) (fun h => ?_)))
        all_goals (try simp only [go_sem])
        exact Lx.le (Le_keepA [1, 8, 81, 82, 83, 9, 10])
      | true =>
        by_cases h19 : 19 ≤ k
        · have e2 : decide ((19 : Int) ≤ (k : Int)) = true := by rw [decide_eq_true_eq]; omega
          rw [decide_eq_true h19]
          (any_goals refine go lv25 0 ?_)
          repeat' (first | (refine Br.go (fun h h' => ?_) (fun h h' => ?_)) | (refine Br.mk (fun h => ?_) (fun h => ?_)))
          all_goals (try simp only [go_sem])
          exact Lx.le (Le_keepA [1, 8, 81, 82, 83, 9, 10])
        · have e2 : decide ((19 : Int) ≤ (k : Int)) = false := by rw [decide_eq_false_iff_not]; omega
          rw [decide_eq_false h19]
          obtain ⟨x, hx⟩ : ∃ x, wordsL[k]? = some x := ⟨wordsL[k]'(by rw [words_length]; omega), List.getElem?_eq_getElem _⟩
          have hgw := getD_map strR hx ([] : List RV)
          have ew : wordsL.getD k ⟨#[]⟩ = x := by simp [List.getD, hx]
          rw [ew]
          (any_goals refine go lv25 0 ?_)
          repeat' (first | (refine Br.go (fun h h' => ?_) (fun h h' => ?_)) | (refine Br.mk (fun h => ?_) (fun h => ?_)))
          all_goals (try simp only [go_sem])
          exact Lx.le (Le_keepA [1, 8, 81, 82, 83, 9, 10])
    generalize hX : (B0 && tOk p.texts k && (decide (19 ≤ k) || decide (s = wordsL.getD k ⟨#[]⟩))) = X
    (any_goals refine go lv25 0 ?_)
    repeat' (first | (refine Br.go (fun h h' => ?_) (fun h h' => ?_)) | (refine Br.mk (fun h => ?_) (fun h => ?_)))
    refine Rn_loopA [1, 8, 81, 82, 83, 10, 104, 105, 106] (fun i : Nat => i ≤ k) (fun i => ⟨218, [(1, .r (.rp (progR p))), (8, Bv (X && ((p.texts.take k).take i).all fun u => !decide (s = u))), (81, strsV p.texts), (82, Iv p.texts.length), (83, Iv k), (10, Sv s), (104, strsV (p.texts.take k)), (105, Iv k), (106, Iv i)], [(1, 2, .gone), (7, u, .gone), (14, u, .gone), (16, u, .gone), (18, u, .gone)]⟩) (fun i => k - i) 0 (Nat.zero_le _) ?_ rfl (by simp [trimT, memN])
    intro i hi
    by_cases hik : i < k
    case pos =>
      have c2 : decide ((i : Int) < (k : Int)) = true := by rw [decide_eq_true_eq]; omega
      have t2 : Int.toNat (i : Int) = i := by omega
      have w2 : IntKind.i64.wrap ((i : Int) + 1) = ((i + 1 : Nat) : Int) := by rw [wrap_id] <;> omega
      obtain ⟨y, hy⟩ : ∃ s, (p.texts.take k)[i]? = some s := ⟨(p.texts.take k)[i]'(by simp; omega), List.getElem?_eq_getElem _⟩
      have hgy := getD_map strR hy ([] : List RV)
      (any_goals refine go lv25 0 ?_)
      repeat' (first | (refine Br.go (fun h h' => ?_) (fun h h' => ?_)) | (refine Br.mk (fun h => ?_) (fun h => ?_)))
      all_goals (try simp only [go_sem])
      refine ⟨i + 1, by omega, by omega, ?_⟩
      rw [all_take hy, ← Bool.and_assoc]
      exact Le_keepA [1, 8, 81, 82, 83, 10, 104, 105, 106]
    obtain rfl : i = k := by omega
    have c2 : decide ((i : Int) < (i : Int)) = false := by rw [decide_eq_false_iff_not]; omega
    have eX : (X && ((p.texts.take i).take i).all fun u => !decide (s = u)) = (B0 && tOk p.texts (i + 1)) := by
      rw [tOk_succ, ← hX]
      unfold tOne
      rw [ek, List.take_of_length_le (l := p.texts.take i) (by simp; omega)]
      simp only [Bool.and_assoc]
    rw [eX]
    (any_goals refine go lv25 0 ?_)
    repeat' (first | (refine Br.go (fun h h' => ?_) (fun h h' => ?_)) | (refine Br.mk (fun h => ?_) (fun h => ?_)))
    all_goals (try simp only [go_sem])
    refine ⟨i + 1, by omega, by omega, ?_⟩
    exact Le_keepA [1, 8, 81, 82, 83]
  obtain rfl : k = p.texts.length := by omega
  have c1 : decide ((p.texts.length : Int) < (p.texts.length : Int)) = false := by rw [decide_eq_false_iff_not]; omega
  clear hlt hk
  generalize hC0 : (B0 && tOk p.texts p.texts.length) = C0
  (any_goals refine go lv25 0 ?_)
  repeat' (first | (refine Br.go (fun h h' => ?_) (fun h h' => ?_)) | (refine Br.mk (fun h => ?_) (fun h => ?_)))
  clear c1
  -- constants
  refine Rn_loopA [1, 8, 119, 120, 121] (fun x : Nat × Nat => x.1 ≤ p.consts.length) (fun x => let k := x.1; let u := x.2; ⟨218, [(1, .r (.rp (progR p))), (8, Bv (C0 && (p.consts.take k).all fun v => !badV p v)), (119, valsV p.consts), (120, Iv p.consts.length), (121, Iv k)], [(1, 2, .gone), (7, u, .gone), (14, u, .gone), (16, u, .gone), (18, u, .gone)]⟩) (fun x => p.consts.length - x.1) (0, u) (Nat.zero_le _) ?_ rfl (by simp [trimT, memN])
  clear u
  rintro ⟨k, u⟩ hk
  dsimp only at hk
  dsimp only
  by_cases hlt : k < p.consts.length
  case pos =>
    have c1 : decide ((k : Int) < (p.consts.length : Int)) = true := by rw [decide_eq_true_eq]; omega
    have t1 : Int.toNat (k : Int) = k := by omega
    have w1 : IntKind.i64.wrap ((k : Int) + 1) = ((k + 1 : Nat) : Int) := by rw [wrap_id] <;> omega
    obtain ⟨v, hf⟩ : ∃ s, p.consts[k]? = some s := ⟨p.consts[k], List.getElem?_eq_getElem hlt⟩
    have hg := getD_map valR hf ([] : List RV)
    (any_goals refine go lv25 0 ?_)
    repeat' (first | (refine Br.go (fun h h' => ?_) (fun h h' => ?_)) | (refine Br.mk (fun h => ?_) (fun h => ?_)))
    all_goals (try simp only [go_sem])
    refine ⟨(k + 1, u + 9), by dsimp only; omega, by dsimp only; omega, ?_⟩
    dsimp only
    rw [all_take hf, badV_and, Bool.and_assoc]
    exact Le_keepA [1, 8, 119, 120, 121]
  obtain rfl : k = p.consts.length := by omega
  have c1 : decide ((p.consts.length : Int) < (p.consts.length : Int)) = false := by rw [decide_eq_false_iff_not]; omega
  clear hlt hk
  have hR : rightP p = (C0 && (p.consts.all fun v => !badV p v) && firstF p && p.fns.all (functionF p)) := by
    unfold rightP
    have : (decide (19 ≤ p.texts.length) && decide (0 < p.fns.length)) = B0 := by rw [← hB0]; congr 1 <;> (rw [decide_eq_decide]; omega)
    rw [this, hC0]
  have hD0 : C0 = false ∨ 0 < p.fns.length := by
    rcases Nat.eq_zero_or_pos p.fns.length with h | h
    · left; rw [← hC0, ← hB0, h]; simp
    · exact .inr h
  rw [hR]
  rw [List.take_length]
  generalize hD : (C0 && (p.consts.all fun v => !badV p v)) = D at *
  replace hD0 : D = false ∨ 0 < p.fns.length := by
    rcases hD0 with h | h
    · left; rw [← hD, h]; rfl
    · exact .inr h
  clear hD hR
  (any_goals refine go lv25 0 ?_)
  repeat' (first | (refine Br.go (fun h h' => ?_) (fun h h' => ?_)) | (refine Br.mk (fun h => ?_) (fun h => ?_)))
  clear c1
  -- functions
  refine Rn_loopA [1, 8, 150, 151, 152] (fun x : Nat × Nat => x.1 ≤ p.fns.length) (fun x => let k := x.1; let u := x.2; ⟨218, [(1, .r (.rp (progR p))), (8, Bv (fnsOk p D k)), (150, fnsV p.fns), (151, Iv p.fns.length), (152, Iv k)], [(1, 2, .gone), (7, u, .gone), (14, u, .gone), (16, u, .gone), (18, u, .gone)]⟩) (fun x => p.fns.length - x.1) (0, u) (Nat.zero_le _) ?_ rfl (by simp [trimT, memN, fnsOk])
  clear u
  rintro ⟨k, u⟩ hk
  dsimp only at hk
  dsimp only
  by_cases hlt : k < p.fns.length
  case neg =>
    obtain rfl : k = p.fns.length := by omega
    have c1 : decide ((p.fns.length : Int) < (p.fns.length : Int)) = false := by rw [decide_eq_false_iff_not]; omega
    cases hq : fnsOk p D p.fns.length with
    | false =>
      have hE := fnsOk_no hk hq hD0
      rw [hE]
      (any_goals refine go lv25 0 ?_)
      repeat' (first | (refine Br.go (fun h h' => ?_) (fun h h' => ?_)) | (refine Br.mk (fun h => ?_) (fun h => ?_)))
      all_goals (try simp only [go_sem])
    | true =>
      have hE : (D && firstF p && p.fns.all (functionF p)) = true := by
        unfold fnsOk at hq
        rw [List.take_length] at hq
        rcases hD0 with h | h
        · rw [h] at hq; cases hq
        · rw [decide_eq_false (by omega), Bool.false_or] at hq; exact hq
      rw [hE]
      (any_goals refine go lv25 0 ?_)
      repeat' (first | (refine Br.go (fun h h' => ?_) (fun h h' => ?_)) | (refine Br.mk (fun h => ?_) (fun h => ?_)))
      all_goals (try simp only [go_sem])
  have c1 : decide ((k : Int) < (p.fns.length : Int)) = true := by rw [decide_eq_true_eq]; omega
  have t1 : Int.toNat (k : Int) = k := by omega
  have w1 : IntKind.i64.wrap ((k : Int) + 1) = ((k + 1 : Nat) : Int) := by rw [wrap_id] <;> omega
  obtain ⟨f, hf⟩ : ∃ s, p.fns[k]? = some s := ⟨p.fns[k], List.getElem?_eq_getElem hlt⟩
  have hg := getD_map fnR hf ([] : List RV)
  have l4 : (f.code.map insR).length = f.code.length := List.length_map ..
  have l5 : (f.caught.map intR).length = f.caught.length := List.length_map ..
  cases hq : fnsOk p D k with
  | false =>
    have hE := fnsOk_no hk hq hD0
    rw [hE]
    cases k0 : decide ((k : Int) = 0)
    all_goals
      (any_goals refine go lv25 0 ?_)
      repeat' (first | (refine Br.go (fun h h' => ?_) (fun h h' => ?_)) | (refine Br.mk (fun h => ?_) (fun h => ?_)))
      all_goals (try simp only [go_sem])
      all_goals rfl
  | true =>
  obtain ⟨hD1, hF1, hT1⟩ : D = true ∧ (k = 0 ∨ firstF p = true) ∧ (p.fns.take k).all (functionF p) = true := by
    unfold fnsOk at hq
    simpa [Bool.and_eq_true, and_assoc] using hq
  have hpf := hp.fn f (List.mem_of_getElem? hf)
  have hsk := fnsOk_succ (p := p) (b := D) hf
  by_cases hH : 0 ≤ f.params ∧ f.params ≤ f.regs ∧ 0 < f.regs
  case neg =>
    have hE := fn_no (b := D) hf (by unfold functionF; rw [if_pos (by omega)])
    rw [hE]
    by_cases h1 : 0 ≤ f.params ∧ f.params ≤ f.regs
    · have e1 : decide (0 ≤ f.params ∧ f.params ≤ f.regs) = true := by simpa using h1
      have e2 : decide (0 < f.regs) = false := by rw [decide_eq_false_iff_not]; omega
      cases k0 : decide ((k : Int) = 0)
      all_goals
        (any_goals refine go lv25 0 ?_)
        repeat' (first | (refine Br.go (fun h h' => ?_) (fun h h' => ?_)) | (refine Br.mk (fun h => ?_) (fun h => ?_)))
        all_goals (try simp only [go_sem])
        all_goals rfl
    · have e1 : decide (0 ≤ f.params ∧ f.params ≤ f.regs) = false := by rw [decide_eq_false_iff_not]; exact h1
      cases k0 : decide ((k : Int) = 0)
      all_goals
        (any_goals refine go lv25 0 ?_)
        repeat' (first | (refine Br.go (fun h h' => ?_) (fun h h' => ?_)) | (refine Br.mk (fun h => ?_) (fun h => ?_)))
        all_goals (try simp only [go_sem])
        all_goals rfl
  have e1 : decide (0 ≤ f.params ∧ f.params ≤ f.regs) = true := by rw [decide_eq_true_eq]; exact ⟨hH.1, hH.2.1⟩
  have e2 : decide (0 < f.regs) = true := by rw [decide_eq_true_eq]; exact hH.2.2
  by_cases hF0 : firstF p = true
  case neg =>
    have hF0' : firstF p = false := by simpa using hF0
    have hk0 : k = 0 := hF1.resolve_right hF0
    have k0 : decide ((k : Int) = 0) = true := by rw [decide_eq_true_eq]; omega
    have hff := (first_at (f := f) (by rw [← hk0]; exact hf)).symm
    rw [hF0'] at hff ⊢
    simp only [Bool.and_false, Bool.false_and]
    clear hk0
    (any_goals refine go lv25 0 ?_)
    repeat' (first | (refine Br.go (fun h h' => ?_) (fun h h' => ?_)) | (refine Br.mk (fun h => ?_) (fun h => ?_)))
    all_goals (try simp only [go_sem])
    all_goals rfl
  have hFok : Fok f := ⟨hpf.2.2, by have := hpf.1; omega, by omega, hpf.2.1⟩
  have hcau : Cau p := hp.cau
  have hFr : firstF p = true := by simpa using hF0
  (any_goals refine go (dropL 34 lv25) 0 ?_)
  repeat' (first | (refine Br.go (fun h h' => ?_) (fun h h' => ?_)) | (refine Br.mk (fun h => ?_) (fun h => ?_)))
  refine goR1 lv25 0 ?_
  refine Rn_cutX (st' := ⟨218, [(1, .r (.rp (progR p))), (8, Bv true), (150, fnsV p.fns), (151, Iv p.fns.length), (152, Iv k), (16, .os 16 (u + 1))], [(1, 2, .gone), (7, u, .gone), (14, u, .gone), (16, u + 1, .bx [Iv f.params, Iv f.regs, Bv f.gen, intsV f.caught, inssV f.code]), (18, u, .gone)]⟩) True rfl ?_ fun _ => ?_
  · by_cases hk0 : k = 0
    · have k0 : decide ((k : Int) = 0) = true := by rw [decide_eq_true_eq]; omega
      have hff := (first_at (f := f) (by rw [← hk0]; exact hf)).symm
      rw [hFr] at hff
      clear hk0
      rw [k0]
      (any_goals refine go lv25 0 ?_)
      repeat' (first | (refine Br.go (fun h h' => ?_) (fun h h' => ?_)) | (refine Br.mk (fun h => ?_) (fun h => ?_)))
      all_goals (try simp only [go_sem])
      exact Lx.le (Le_keepA [1, 8, 150, 151, 152, 16])
    · have k0 : decide ((k : Int) = 0) = false := by rw [decide_eq_false_iff_not]; omega
      rw [k0]
      (any_goals refine go lv25 0 ?_)
      repeat' (first | (refine Br.go (fun h h' => ?_) (fun h h' => ?_)) | (refine Br.mk (fun h => ?_) (fun h => ?_)))
      all_goals (try simp only [go_sem])
      exact Lx.le (Le_keepA [1, 8, 150, 151, 152, 16])
  (any_goals refine go lv25 0 ?_)
  repeat' (first | (refine Br.go (fun h h' => ?_) (fun h h' => ?_)) | (refine Br.mk (fun h => ?_) (fun h => ?_)))
  refine Rn_loopA [1, 8, 150, 151, 152, 16, 192, 193, 194] (fun x : Nat × Nat => x.1 ≤ f.code.length) (fun x => let i := x.1; let v := x.2; ⟨218, [(1, .r (.rp (progR p))), (8, Bv ((List.range i).all fun j => orderF p f j (f.code.getD j ins0))), (150, fnsV p.fns), (151, Iv p.fns.length), (152, Iv k), (16, .os 16 (u + 1)), (192, inssV f.code), (193, Iv f.code.length), (194, Iv i)], [(1, 2, .gone), (7, u, .gone), (14, u, .gone), (16, u + 1, .bx [Iv f.params, Iv f.regs, Bv f.gen, intsV f.caught, inssV f.code]), (18, v, .gone)]⟩) (fun x => f.code.length - x.1) (0, u) (Nat.zero_le _) ?_
  rintro ⟨i, v⟩ hi
  dsimp only at hi
  dsimp only
  by_cases hil : i < f.code.length
  case pos =>
    have c2 : decide ((i : Int) < (f.code.length : Int)) = true := by rw [decide_eq_true_eq]; omega
    have t2 : Int.toNat (i : Int) = i := by omega
    have w2 : IntKind.i64.wrap ((i : Int) + 1) = ((i + 1 : Nat) : Int) := by rw [wrap_id] <;> omega
    obtain ⟨x, hx⟩ : ∃ s, f.code[i]? = some s := ⟨f.code[i], List.getElem?_eq_getElem hil⟩
    have hgx := getD_map insR hx ([] : List RV)
    have hor : ((List.range (i + 1)).all fun j => orderF p f j (f.code.getD j ins0)) = (((List.range i).all fun j => orderF p f j (f.code.getD j ins0)) && orderF p f i x) := by
      rw [List.range_succ, List.all_append]
      simp [List.getD, hx]
    (any_goals refine go lv25 0 ?_)
    repeat' (first | (refine Br.go (fun h h' => ?_) (fun h h' => ?_)) | (refine Br.mk (fun h => ?_) (fun h => ?_)))
    all_goals (try simp only [go_sem])
    refine ⟨(i + 1, v + 9), by dsimp only; omega, by dsimp only; omega, ?_⟩
    dsimp only
    rw [hor]
    exact Le_keepA [1, 8, 150, 151, 152, 16, 192, 193, 194]
  obtain rfl : i = f.code.length := by omega
  have c2 : decide ((f.code.length : Int) < (f.code.length : Int)) = false := by rw [decide_eq_false_iff_not]; omega
  have hnoX : functionF p f = (ordersF p f && !(walkF f).bad) := by
    unfold functionF
    rw [if_neg (by omega)]
    cases ordersF p f <;> simp
  rw [show ((List.range f.code.length).all fun j => orderF p f j (f.code.getD j ins0)) = ordersF p f from rfl]
  cases hO : ordersF p f with
  | false =>
    have hE := fn_no (b := D) hf (by rw [hnoX, hO]; rfl)
    rw [hE]
    (any_goals refine go lv25 0 ?_)
    repeat' (first | (refine Br.go (fun h h' => ?_) (fun h h' => ?_)) | (refine Br.mk (fun h => ?_) (fun h => ?_)))
    all_goals (try simp only [go_sem])
    all_goals rfl
  | true =>
    have hcok : Cok f := ord_code hpf.1 hO
    have hsk' : fnsOk p D (k + 1) = !(docW f).bad := by
      rw [hsk, hD1, hFr, hT1, hnoX, hO, doc_bad hcok]; simp
    cases hb : (docW f).bad with
    | true =>
      have hRR := docR_bad hb
      rw [hb] at hsk'
      (any_goals refine go lv25 0 ?_)
      repeat' (first | (refine Br.go (fun h h' => ?_) (fun h h' => ?_)) | (refine Br.mk (fun h => ?_) (fun h => ?_)))
      all_goals (try simp only [go_sem])
      refine ⟨(k + 1, max u v + 9), by dsimp only; omega, by dsimp only; omega, ?_⟩
      dsimp only
      rw [hsk']
      exact Le_subA
    | false =>
      have hRR := docR_ok hb
      rw [hb] at hsk'
      (any_goals refine go lv25 0 ?_)
      repeat' (first | (refine Br.go (fun h h' => ?_) (fun h h' => ?_)) | (refine Br.mk (fun h => ?_) (fun h => ?_)))
      all_goals (try simp only [go_sem])
      refine ⟨(k + 1, max u v + 9), by dsimp only; omega, by dsimp only; omega, ?_⟩
      dsimp only
      rw [hsk']
      exact Le_subA
end Go.Proofs.YtjbhpoolghfhiaaDoor
