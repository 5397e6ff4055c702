/- Are two states the same? No condition: contracts of the program's functions. -/
import Derived.Test.YtbhnmolmkembdaaGreatDoorQ6
import Derived.Test.YtbhnmolmkembdaaGreatDoorQ4
namespace Go.Proofs.YtbhnmolmkembdaaGreatDoor
set_option linter.unusedVariables false
set_option linter.unusedSimpArgs false
set_option maxHeartbeats 10000000
open Go
set_option maxRecDepth 10000
theorem eqVal_c (l m : List (Int × Int)) (hl : l.length ≤ 9223372036854775807) : FC Cx 65 [valsV l, valsV m] [] (Bv (decide (l = m))) [] := by
  have hlen : (l.map valR).length = l.length := List.length_map ..
  have hlen' : (m.map valR).length = m.length := List.length_map ..
  refine FCp_of [] Tryz.func65 rfl Tryz.ntmps65 (by simp) Tryz.results65 rfl ?_
  apply Rn_st; (intro K0; simp only [go_sem]; exact ⟨id⟩)
  (any_goals refine go lv65 0 ?_)
  repeat' (first | (refine Br.go (fun h h' => ?_) (fun h h' => ?_)) | (refine Br.mk (fun h => ?_) (fun h => ?_)))
  · simp only [go_sem]
    have : l ≠ m := fun he => h' (by rw [he])
    simp [this]
  have hlm : l.length = m.length := by omega
  refine Rn_loopT [0, 1, 12, 13] (fun i => i ≤ l.length ∧ ∀ j, j < i → l[j]? = m[j]?) (fun (i : Nat) => ⟨26, [(0, valsV l), (1, valsV m), (12, Iv m.length), (13, Iv i)], []⟩) (fun i => l.length - i) 0 rfl rfl rfl ⟨Nat.zero_le _, fun j hj => by omega⟩ ?_
  rintro i ⟨hi, hno⟩
  by_cases hlt : i < l.length
  · obtain ⟨x, hx⟩ : ∃ x, l[i]? = some x := ⟨l[i], List.getElem?_eq_getElem hlt⟩
    obtain ⟨y, hy⟩ : ∃ y, m[i]? = some y := ⟨m[i], List.getElem?_eq_getElem (by omega)⟩
    have hg := getD_map valR hx ([] : List RV)
    have hg' := getD_map valR hy ([] : List RV)
    have hw : IntKind.i64.wrap ((i : Int) + 1) = ((i + 1 : Nat) : Int) := by rw [wrap_id] <;> omega
    have h1 : decide ((i : Int) < (m.length : Int)) = true := by rw [decide_eq_true_eq]; omega
    have h2 : Int.toNat (i : Int) = i := by omega
    (any_goals refine go lv65 0 ?_)
    repeat' (first | (refine Br.go (fun h h' => ?_) (fun h h' => ?_)) | (refine Br.mk (fun h => ?_) (fun h => ?_)))
    all_goals (try simp only [go_sem])
    · have h9 := h
      have : l ≠ m := fun he => by
        rw [he] at hx; rw [hx] at hy
        have := Option.some.inj hy
        subst this
        simp at h9
      simp [this]
    · refine ⟨i + 1, ⟨by omega, fun j hj => ?_⟩, by omega, Le_keep [0, 1, 12, 13] rfl rfl rfl⟩
      rcases Nat.lt_succ_iff_lt_or_eq.1 hj with h3 | h3
      · exact hno j h3
      · rw [h3, hx, hy]; exact congrArg some (by first | exact h' | exact Prod.ext h'.1 h'.2 | (cases x; cases y; simp_all))
  · have h1 : decide ((i : Int) < (m.length : Int)) = false := by rw [decide_eq_false_iff_not]; omega
    (any_goals refine go lv65 0 ?_)
    repeat' (first | (refine Br.go (fun h h' => ?_) (fun h h' => ?_)) | (refine Br.mk (fun h => ?_) (fun h => ?_)))
    all_goals (try simp only [go_sem])
    have : l = m := List.ext_getElem? fun j => by
      by_cases hj : j < i
      · exact hno j hj
      · rw [List.getElem?_eq_none (by omega), List.getElem?_eq_none (by omega)]
    simp [this]
theorem eqVal'_c (xs ys : List (List RV)) (h : xs = (valsOf xs).map valR ∧ ys = (valsOf ys).map valR ∧ xs.length ≤ 9223372036854775807) : FC Cx 65 [.r (.rs 2 xs), .r (.rs 2 ys)] [] (Bv (decide (valsOf xs = valsOf ys))) [] := by
  have := eqVal_c (valsOf xs) (valsOf ys) (by simpa [valsOf] using h.2.2)
  rwa [valsOf_at h.1, valsOf_at h.2.1] at this
def sp_eqVal' (args : List AV) (K : AV → Prop) : Prop := match args with
  | [.r (.rs 2 xs), .r (.rs 2 ys)] => (xs = (valsOf xs).map valR ∧ ys = (valsOf ys).map valR ∧ xs.length ≤ 9223372036854775807) ∧ K (Bv (decide (valsOf xs = valsOf ys)))
  | _ => False
theorem sp_eqVal'_ok (args : List AV) (K : AV → Prop) (h : sp_eqVal' args K) : ∃ r, CallOk Cx 65 args r ∧ K r := by
  unfold sp_eqVal' at h
  split at h
  · exact ⟨_, CallOk_of (eqVal'_c _ _ h.1) en65 rfl rfl, h.2⟩
  · exact h.elim
noncomputable def ct_eqVal' : Ct Cx := .pure 65 sp_eqVal' sp_eqVal'_ok
@[go_sem] theorem ct_eqVal'_g : ct_eqVal'.g = 65 := rfl
@[go_sem] theorem ct_eqVal'_run (c : Call) (fop : Operand) (caps : List AV) (o : Oper) (st : St) (K : List Loc → List (Loc × Cont) → Prop) : ct_eqVal'.run c fop caps o st K = callT Cx sp_eqVal' c fop caps o st K := rfl
@[go_sem] theorem sp_eqVal'_eq (args : List AV) (K : AV → Prop) : sp_eqVal' args K = (match args with
    | [.r (.rs 2 xs), .r (.rs 2 ys)] => (xs = (valsOf xs).map valR ∧ ys = (valsOf ys).map valR ∧ xs.length ≤ 9223372036854775807) ∧ K (Bv (decide (valsOf xs = valsOf ys)))
    | _ => False) := rfl
theorem eqShape_c (l m : List (Int × Int)) (hl : l.length ≤ 9223372036854775807) : FC Cx 67 [valsV l, valsV m] [] (Bv (decide (l = m))) [] := by
  have hlen : (l.map valR).length = l.length := List.length_map ..
  have hlen' : (m.map valR).length = m.length := List.length_map ..
  refine FCp_of [] Tryz.func67 rfl Tryz.ntmps67 (by simp) Tryz.results67 rfl ?_
  apply Rn_st; (intro K0; simp only [go_sem]; exact ⟨id⟩)
  (any_goals refine go lv67 0 ?_)
  repeat' (first | (refine Br.go (fun h h' => ?_) (fun h h' => ?_)) | (refine Br.mk (fun h => ?_) (fun h => ?_)))
  · simp only [go_sem]
    have : l ≠ m := fun he => h' (by rw [he])
    simp [this]
  have hlm : l.length = m.length := by omega
  refine Rn_loopT [0, 1, 12, 13] (fun i => i ≤ l.length ∧ ∀ j, j < i → l[j]? = m[j]?) (fun (i : Nat) => ⟨26, [(0, valsV l), (1, valsV m), (12, Iv m.length), (13, Iv i)], []⟩) (fun i => l.length - i) 0 rfl rfl rfl ⟨Nat.zero_le _, fun j hj => by omega⟩ ?_
  rintro i ⟨hi, hno⟩
  by_cases hlt : i < l.length
  · obtain ⟨x, hx⟩ : ∃ x, l[i]? = some x := ⟨l[i], List.getElem?_eq_getElem hlt⟩
    obtain ⟨y, hy⟩ : ∃ y, m[i]? = some y := ⟨m[i], List.getElem?_eq_getElem (by omega)⟩
    have hg := getD_map valR hx ([] : List RV)
    have hg' := getD_map valR hy ([] : List RV)
    have hw : IntKind.i64.wrap ((i : Int) + 1) = ((i + 1 : Nat) : Int) := by rw [wrap_id] <;> omega
    have h1 : decide ((i : Int) < (m.length : Int)) = true := by rw [decide_eq_true_eq]; omega
    have h2 : Int.toNat (i : Int) = i := by omega
    (any_goals refine go lv67 0 ?_)
    repeat' (first | (refine Br.go (fun h h' => ?_) (fun h h' => ?_)) | (refine Br.mk (fun h => ?_) (fun h => ?_)))
    all_goals (try simp only [go_sem])
    · have h9 := h
      have : l ≠ m := fun he => by
        rw [he] at hx; rw [hx] at hy
        have := Option.some.inj hy
        subst this
        simp at h9
      simp [this]
    · refine ⟨i + 1, ⟨by omega, fun j hj => ?_⟩, by omega, Le_keep [0, 1, 12, 13] rfl rfl rfl⟩
      rcases Nat.lt_succ_iff_lt_or_eq.1 hj with h3 | h3
      · exact hno j h3
      · rw [h3, hx, hy]; exact congrArg some (by first | exact h' | exact Prod.ext h'.1 h'.2 | (cases x; cases y; simp_all))
  · have h1 : decide ((i : Int) < (m.length : Int)) = false := by rw [decide_eq_false_iff_not]; omega
    (any_goals refine go lv67 0 ?_)
    repeat' (first | (refine Br.go (fun h h' => ?_) (fun h h' => ?_)) | (refine Br.mk (fun h => ?_) (fun h => ?_)))
    all_goals (try simp only [go_sem])
    have : l = m := List.ext_getElem? fun j => by
      by_cases hj : j < i
      · exact hno j hj
      · rw [List.getElem?_eq_none (by omega), List.getElem?_eq_none (by omega)]
    simp [this]
theorem eqShape'_c (xs ys : List (List RV)) (h : xs = (valsOf xs).map valR ∧ ys = (valsOf ys).map valR ∧ xs.length ≤ 9223372036854775807) : FC Cx 67 [.r (.rs 2 xs), .r (.rs 2 ys)] [] (Bv (decide (valsOf xs = valsOf ys))) [] := by
  have := eqShape_c (valsOf xs) (valsOf ys) (by simpa [valsOf] using h.2.2)
  rwa [valsOf_at h.1, valsOf_at h.2.1] at this
def sp_eqShape' (args : List AV) (K : AV → Prop) : Prop := match args with
  | [.r (.rs 2 xs), .r (.rs 2 ys)] => (xs = (valsOf xs).map valR ∧ ys = (valsOf ys).map valR ∧ xs.length ≤ 9223372036854775807) ∧ K (Bv (decide (valsOf xs = valsOf ys)))
  | _ => False
theorem sp_eqShape'_ok (args : List AV) (K : AV → Prop) (h : sp_eqShape' args K) : ∃ r, CallOk Cx 67 args r ∧ K r := by
  unfold sp_eqShape' at h
  split at h
  · exact ⟨_, CallOk_of (eqShape'_c _ _ h.1) en67 rfl rfl, h.2⟩
  · exact h.elim
noncomputable def ct_eqShape' : Ct Cx := .pure 67 sp_eqShape' sp_eqShape'_ok
@[go_sem] theorem ct_eqShape'_g : ct_eqShape'.g = 67 := rfl
@[go_sem] theorem ct_eqShape'_run (c : Call) (fop : Operand) (caps : List AV) (o : Oper) (st : St) (K : List Loc → List (Loc × Cont) → Prop) : ct_eqShape'.run c fop caps o st K = callT Cx sp_eqShape' c fop caps o st K := rfl
@[go_sem] theorem sp_eqShape'_eq (args : List AV) (K : AV → Prop) : sp_eqShape' args K = (match args with
    | [.r (.rs 2 xs), .r (.rs 2 ys)] => (xs = (valsOf xs).map valR ∧ ys = (valsOf ys).map valR ∧ xs.length ≤ 9223372036854775807) ∧ K (Bv (decide (valsOf xs = valsOf ys)))
    | _ => False) := rfl
theorem eqEnd_c (l m : List EndT) (hl : l.length ≤ 9223372036854775807) : FC Cx 71 [endsV l, endsV m] [] (Bv (decide (l = m))) [] := by
  have hlen : (l.map endR).length = l.length := List.length_map ..
  have hlen' : (m.map endR).length = m.length := List.length_map ..
  refine FCp_of [] Tryz.func71 rfl Tryz.ntmps71 (by simp) Tryz.results71 rfl ?_
  apply Rn_st; (intro K0; simp only [go_sem]; exact ⟨id⟩)
  (any_goals refine go lv71 0 ?_)
  repeat' (first | (refine Br.go (fun h h' => ?_) (fun h h' => ?_)) | (refine Br.mk (fun h => ?_) (fun h => ?_)))
  · simp only [go_sem]
    have : l ≠ m := fun he => h' (by rw [he])
    simp [this]
  have hlm : l.length = m.length := by omega
  refine Rn_loopT [0, 1, 12, 13] (fun i => i ≤ l.length ∧ ∀ j, j < i → l[j]? = m[j]?) (fun (i : Nat) => ⟨26, [(0, endsV l), (1, endsV m), (12, Iv m.length), (13, Iv i)], []⟩) (fun i => l.length - i) 0 rfl rfl rfl ⟨Nat.zero_le _, fun j hj => by omega⟩ ?_
  rintro i ⟨hi, hno⟩
  by_cases hlt : i < l.length
  · obtain ⟨x, hx⟩ : ∃ x, l[i]? = some x := ⟨l[i], List.getElem?_eq_getElem hlt⟩
    obtain ⟨y, hy⟩ : ∃ y, m[i]? = some y := ⟨m[i], List.getElem?_eq_getElem (by omega)⟩
    have hg := getD_map endR hx ([] : List RV)
    have hg' := getD_map endR hy ([] : List RV)
    have hw : IntKind.i64.wrap ((i : Int) + 1) = ((i + 1 : Nat) : Int) := by rw [wrap_id] <;> omega
    have h1 : decide ((i : Int) < (m.length : Int)) = true := by rw [decide_eq_true_eq]; omega
    have h2 : Int.toNat (i : Int) = i := by omega
    (any_goals refine go lv71 0 ?_)
    repeat' (first | (refine Br.go (fun h h' => ?_) (fun h h' => ?_)) | (refine Br.mk (fun h => ?_) (fun h => ?_)))
    all_goals (try simp only [go_sem])
    · have h9 := h
      have : l ≠ m := fun he => by
        rw [he] at hx; rw [hx] at hy
        have := Option.some.inj hy
        subst this
        simp at h9
      simp [this]
    · refine ⟨i + 1, ⟨by omega, fun j hj => ?_⟩, by omega, Le_keep [0, 1, 12, 13] rfl rfl rfl⟩
      rcases Nat.lt_succ_iff_lt_or_eq.1 hj with h3 | h3
      · exact hno j h3
      · rw [h3, hx, hy]; exact congrArg some (by first | exact h' | exact Prod.ext h'.1 h'.2 | (cases x; cases y; simp_all [Prod.ext_iff]; done))
  · have h1 : decide ((i : Int) < (m.length : Int)) = false := by rw [decide_eq_false_iff_not]; omega
    (any_goals refine go lv71 0 ?_)
    repeat' (first | (refine Br.go (fun h h' => ?_) (fun h h' => ?_)) | (refine Br.mk (fun h => ?_) (fun h => ?_)))
    all_goals (try simp only [go_sem])
    have : l = m := List.ext_getElem? fun j => by
      by_cases hj : j < i
      · exact hno j hj
      · rw [List.getElem?_eq_none (by omega), List.getElem?_eq_none (by omega)]
    simp [this]
theorem eqEnd'_c (xs ys : List (List RV)) (h : xs = (endsOf xs).map endR ∧ ys = (endsOf ys).map endR ∧ xs.length ≤ 9223372036854775807) : FC Cx 71 [.r (.rs 3 xs), .r (.rs 3 ys)] [] (Bv (decide (endsOf xs = endsOf ys))) [] := by
  have := eqEnd_c (endsOf xs) (endsOf ys) (by simpa [endsOf] using h.2.2)
  rwa [endsOf_at h.1, endsOf_at h.2.1] at this
def sp_eqEnd' (args : List AV) (K : AV → Prop) : Prop := match args with
  | [.r (.rs 3 xs), .r (.rs 3 ys)] => (xs = (endsOf xs).map endR ∧ ys = (endsOf ys).map endR ∧ xs.length ≤ 9223372036854775807) ∧ K (Bv (decide (endsOf xs = endsOf ys)))
  | _ => False
theorem sp_eqEnd'_ok (args : List AV) (K : AV → Prop) (h : sp_eqEnd' args K) : ∃ r, CallOk Cx 71 args r ∧ K r := by
  unfold sp_eqEnd' at h
  split at h
  · exact ⟨_, CallOk_of (eqEnd'_c _ _ h.1) en71 rfl rfl, h.2⟩
  · exact h.elim
noncomputable def ct_eqEnd' : Ct Cx := .pure 71 sp_eqEnd' sp_eqEnd'_ok
@[go_sem] theorem ct_eqEnd'_g : ct_eqEnd'.g = 71 := rfl
@[go_sem] theorem ct_eqEnd'_run (c : Call) (fop : Operand) (caps : List AV) (o : Oper) (st : St) (K : List Loc → List (Loc × Cont) → Prop) : ct_eqEnd'.run c fop caps o st K = callT Cx sp_eqEnd' c fop caps o st K := rfl
@[go_sem] theorem sp_eqEnd'_eq (args : List AV) (K : AV → Prop) : sp_eqEnd' args K = (match args with
    | [.r (.rs 3 xs), .r (.rs 3 ys)] => (xs = (endsOf xs).map endR ∧ ys = (endsOf ys).map endR ∧ xs.length ≤ 9223372036854775807) ∧ K (Bv (decide (endsOf xs = endsOf ys)))
    | _ => False) := rfl
theorem eqfFrame_c (l m : List FrameT) (f : Nat) (hl : l.length ≤ 9223372036854775807) (hcl : ∀ x ∈ l, ∀ y ∈ m, CallOk Cx f [frameA x, frameA y] (Bv (decide (x = y)))) : FC Cx 128 [framesV l, framesV m, .r (.fn f [])] [] (Bv (decide (l = m))) [] := by
  have hlen : (l.map frameR).length = l.length := List.length_map ..
  have hlen' : (m.map frameR).length = m.length := List.length_map ..
  refine FCp_of [] Tryz.func128 rfl Tryz.ntmps128 (by simp) Tryz.results128 rfl ?_
  apply Rn_st; (intro K0; simp only [go_sem]; exact ⟨id⟩)
  (any_goals refine go lv128 0 ?_)
  repeat' (first | (refine Br.go (fun h h' => ?_) (fun h h' => ?_)) | (refine Br.mk (fun h => ?_) (fun h => ?_)))
  · simp only [go_sem]
    have : l ≠ m := fun he => h' (by rw [he])
    simp [this]
  have hlm : l.length = m.length := by omega
  refine Rn_loopS (fun x : Nat × Nat => x.1 ≤ l.length ∧ ∀ j, j < x.1 → l[j]? = m[j]?) (fun x => ⟨32, [(1, framesV m), (2, .r (.fn f [])), (15, framesV l), (16, Iv m.length), (17, Iv x.1)], [(8, x.2, .gone), (9, x.2, .gone)]⟩) (fun x => l.length - x.1) (0, 0) ⟨Nat.zero_le _, fun j hj => by omega⟩ ?_
  rintro ⟨i, u⟩ ⟨hi, hno⟩
  dsimp only at hi hno ⊢
  by_cases hlt : i < l.length
  · obtain ⟨x, hx⟩ : ∃ x, l[i]? = some x := ⟨l[i], List.getElem?_eq_getElem hlt⟩
    obtain ⟨y, hy⟩ : ∃ y, m[i]? = some y := ⟨m[i], List.getElem?_eq_getElem (by omega)⟩
    have hg := getD_map frameR hx ([] : List RV)
    have hg' := getD_map frameR hy ([] : List RV)
    have hw : IntKind.i64.wrap ((i : Int) + 1) = ((i + 1 : Nat) : Int) := by rw [wrap_id] <;> omega
    have h1 : decide ((i : Int) < (m.length : Int)) = true := by rw [decide_eq_true_eq]; omega
    have h2 : Int.toNat (i : Int) = i := by omega
    have hE : ∀ z, z = [frameA x, frameA y] → CallOk Cx f z (Bv (decide (x = y))) := fun z hz => by rw [hz]; exact hcl x (List.mem_of_getElem? hx) y (List.mem_of_getElem? hy)
    refine Rn_T [ctE f [frameA x, frameA y] (Bv (decide (x = y))) hE] ?_
    rcases Bool.eq_false_or_eq_true (decide (x = y)) with hb | hb
    · skip
      (any_goals refine go lv128 0 ?_)
      repeat' (first | (refine Br.go (fun h h' => ?_) (fun h h' => ?_)) | (refine Br.mk (fun h => ?_) (fun h => ?_)))
      all_goals (try simp only [go_sem])
      refine ⟨(i + 1, u + 9), ⟨by dsimp only; omega, fun j hj => ?_⟩, by dsimp only; omega, ?_⟩
      · dsimp only at hj
        rcases Nat.lt_succ_iff_lt_or_eq.1 hj with h3 | h3
        · exact hno j h3
        · rw [h3, hx, hy]; exact congrArg some (by simpa using hb)
      · dsimp only
        exact Le_subA
    · have hne : decide (l = m) = false := by
        rw [decide_eq_false_iff_not]
        intro he
        rw [he] at hx; rw [hx] at hy
        have := Option.some.inj hy
        simp [this] at hb
      rw [hne]
      clear hne
      (any_goals refine go lv128 0 ?_)
      repeat' (first | (refine Br.go (fun h h' => ?_) (fun h h' => ?_)) | (refine Br.mk (fun h => ?_) (fun h => ?_)))
      all_goals (try simp only [go_sem])
  · have h1 : decide ((i : Int) < (m.length : Int)) = false := by rw [decide_eq_false_iff_not]; omega
    have : l = m := List.ext_getElem? fun j => by
      by_cases hj : j < i
      · exact hno j hj
      · rw [List.getElem?_eq_none (by omega), List.getElem?_eq_none (by omega)]
    rw [decide_eq_true this]
    clear this
    (any_goals refine go lv128 0 ?_)
    repeat' (first | (refine Br.go (fun h h' => ?_) (fun h h' => ?_)) | (refine Br.mk (fun h => ?_) (fun h => ?_)))
    all_goals (try simp only [go_sem])
theorem eqfCell_c (l m : List CellT) (f : Nat) (hl : l.length ≤ 9223372036854775807) (hcl : ∀ x ∈ l, ∀ y ∈ m, CallOk Cx f [cellA x, cellA y] (Bv (decide (x = y)))) : FC Cx 63 [cellsV l, cellsV m, .r (.fn f [])] [] (Bv (decide (l = m))) [] := by
  have hlen : (l.map cellR).length = l.length := List.length_map ..
  have hlen' : (m.map cellR).length = m.length := List.length_map ..
  refine FCp_of [] Tryz.func63 rfl Tryz.ntmps63 (by simp) Tryz.results63 rfl ?_
  apply Rn_st; (intro K0; simp only [go_sem]; exact ⟨id⟩)
  (any_goals refine go lv63 0 ?_)
  repeat' (first | (refine Br.go (fun h h' => ?_) (fun h h' => ?_)) | (refine Br.mk (fun h => ?_) (fun h => ?_)))
  · simp only [go_sem]
    have : l ≠ m := fun he => h' (by rw [he])
    simp [this]
  have hlm : l.length = m.length := by omega
  refine Rn_loopS (fun x : Nat × Nat => x.1 ≤ l.length ∧ ∀ j, j < x.1 → l[j]? = m[j]?) (fun x => ⟨32, [(1, cellsV m), (2, .r (.fn f [])), (15, cellsV l), (16, Iv m.length), (17, Iv x.1)], [(8, x.2, .gone), (9, x.2, .gone)]⟩) (fun x => l.length - x.1) (0, 0) ⟨Nat.zero_le _, fun j hj => by omega⟩ ?_
  rintro ⟨i, u⟩ ⟨hi, hno⟩
  dsimp only at hi hno ⊢
  by_cases hlt : i < l.length
  · obtain ⟨x, hx⟩ : ∃ x, l[i]? = some x := ⟨l[i], List.getElem?_eq_getElem hlt⟩
    obtain ⟨y, hy⟩ : ∃ y, m[i]? = some y := ⟨m[i], List.getElem?_eq_getElem (by omega)⟩
    have hg := getD_map cellR hx ([] : List RV)
    have hg' := getD_map cellR hy ([] : List RV)
    have hw : IntKind.i64.wrap ((i : Int) + 1) = ((i + 1 : Nat) : Int) := by rw [wrap_id] <;> omega
    have h1 : decide ((i : Int) < (m.length : Int)) = true := by rw [decide_eq_true_eq]; omega
    have h2 : Int.toNat (i : Int) = i := by omega
    have hE : ∀ z, z = [cellA x, cellA y] → CallOk Cx f z (Bv (decide (x = y))) := fun z hz => by rw [hz]; exact hcl x (List.mem_of_getElem? hx) y (List.mem_of_getElem? hy)
    refine Rn_T [ctE f [cellA x, cellA y] (Bv (decide (x = y))) hE] ?_
    rcases Bool.eq_false_or_eq_true (decide (x = y)) with hb | hb
    · skip
      (any_goals refine go lv63 0 ?_)
      repeat' (first | (refine Br.go (fun h h' => ?_) (fun h h' => ?_)) | (refine Br.mk (fun h => ?_) (fun h => ?_)))
      all_goals (try simp only [go_sem])
      refine ⟨(i + 1, u + 9), ⟨by dsimp only; omega, fun j hj => ?_⟩, by dsimp only; omega, ?_⟩
      · dsimp only at hj
        rcases Nat.lt_succ_iff_lt_or_eq.1 hj with h3 | h3
        · exact hno j h3
        · rw [h3, hx, hy]; exact congrArg some (by simpa using hb)
      · dsimp only
        exact Le_subA
    · have hne : decide (l = m) = false := by
        rw [decide_eq_false_iff_not]
        intro he
        rw [he] at hx; rw [hx] at hy
        have := Option.some.inj hy
        simp [this] at hb
      rw [hne]
      clear hne
      (any_goals refine go lv63 0 ?_)
      repeat' (first | (refine Br.go (fun h h' => ?_) (fun h h' => ?_)) | (refine Br.mk (fun h => ?_) (fun h => ?_)))
      all_goals (try simp only [go_sem])
  · have h1 : decide ((i : Int) < (m.length : Int)) = false := by rw [decide_eq_false_iff_not]; omega
    have : l = m := List.ext_getElem? fun j => by
      by_cases hj : j < i
      · exact hno j hj
      · rw [List.getElem?_eq_none (by omega), List.getElem?_eq_none (by omega)]
    rw [decide_eq_true this]
    clear this
    (any_goals refine go lv63 0 ?_)
    repeat' (first | (refine Br.go (fun h h' => ?_) (fun h h' => ?_)) | (refine Br.mk (fun h => ?_) (fun h => ?_)))
    all_goals (try simp only [go_sem])
theorem eqfThread_c (l m : List ThreadT) (f : Nat) (hl : l.length ≤ 9223372036854775807) (hcl : ∀ x ∈ l, ∀ y ∈ m, CallOk Cx f [threadA x, threadA y] (Bv (decide (x = y)))) : FC Cx 69 [threadsV l, threadsV m, .r (.fn f [])] [] (Bv (decide (l = m))) [] := by
  have hlen : (l.map threadR).length = l.length := List.length_map ..
  have hlen' : (m.map threadR).length = m.length := List.length_map ..
  refine FCp_of [] Tryz.func69 rfl Tryz.ntmps69 (by simp) Tryz.results69 rfl ?_
  apply Rn_st; (intro K0; simp only [go_sem]; exact ⟨id⟩)
  (any_goals refine go lv69 0 ?_)
  repeat' (first | (refine Br.go (fun h h' => ?_) (fun h h' => ?_)) | (refine Br.mk (fun h => ?_) (fun h => ?_)))
  · simp only [go_sem]
    have : l ≠ m := fun he => h' (by rw [he])
    simp [this]
  have hlm : l.length = m.length := by omega
  refine Rn_loopS (fun x : Nat × Nat => x.1 ≤ l.length ∧ ∀ j, j < x.1 → l[j]? = m[j]?) (fun x => ⟨32, [(1, threadsV m), (2, .r (.fn f [])), (15, threadsV l), (16, Iv m.length), (17, Iv x.1)], [(8, x.2, .gone), (9, x.2, .gone)]⟩) (fun x => l.length - x.1) (0, 0) ⟨Nat.zero_le _, fun j hj => by omega⟩ ?_
  rintro ⟨i, u⟩ ⟨hi, hno⟩
  dsimp only at hi hno ⊢
  by_cases hlt : i < l.length
  · obtain ⟨x, hx⟩ : ∃ x, l[i]? = some x := ⟨l[i], List.getElem?_eq_getElem hlt⟩
    obtain ⟨y, hy⟩ : ∃ y, m[i]? = some y := ⟨m[i], List.getElem?_eq_getElem (by omega)⟩
    have hg := getD_map threadR hx ([] : List RV)
    have hg' := getD_map threadR hy ([] : List RV)
    have hw : IntKind.i64.wrap ((i : Int) + 1) = ((i + 1 : Nat) : Int) := by rw [wrap_id] <;> omega
    have h1 : decide ((i : Int) < (m.length : Int)) = true := by rw [decide_eq_true_eq]; omega
    have h2 : Int.toNat (i : Int) = i := by omega
    have hE : ∀ z, z = [threadA x, threadA y] → CallOk Cx f z (Bv (decide (x = y))) := fun z hz => by rw [hz]; exact hcl x (List.mem_of_getElem? hx) y (List.mem_of_getElem? hy)
    refine Rn_T [ctE f [threadA x, threadA y] (Bv (decide (x = y))) hE] ?_
    rcases Bool.eq_false_or_eq_true (decide (x = y)) with hb | hb
    · skip
      (any_goals refine go lv69 0 ?_)
      repeat' (first | (refine Br.go (fun h h' => ?_) (fun h h' => ?_)) | (refine Br.mk (fun h => ?_) (fun h => ?_)))
      all_goals (try simp only [go_sem])
      refine ⟨(i + 1, u + 9), ⟨by dsimp only; omega, fun j hj => ?_⟩, by dsimp only; omega, ?_⟩
      · dsimp only at hj
        rcases Nat.lt_succ_iff_lt_or_eq.1 hj with h3 | h3
        · exact hno j h3
        · rw [h3, hx, hy]; exact congrArg some (by simpa using hb)
      · dsimp only
        exact Le_subA
    · have hne : decide (l = m) = false := by
        rw [decide_eq_false_iff_not]
        intro he
        rw [he] at hx; rw [hx] at hy
        have := Option.some.inj hy
        simp [this] at hb
      rw [hne]
      clear hne
      (any_goals refine go lv69 0 ?_)
      repeat' (first | (refine Br.go (fun h h' => ?_) (fun h h' => ?_)) | (refine Br.mk (fun h => ?_) (fun h => ?_)))
      all_goals (try simp only [go_sem])
  · have h1 : decide ((i : Int) < (m.length : Int)) = false := by rw [decide_eq_false_iff_not]; omega
    have : l = m := List.ext_getElem? fun j => by
      by_cases hj : j < i
      · exact hno j hj
      · rw [List.getElem?_eq_none (by omega), List.getElem?_eq_none (by omega)]
    rw [decide_eq_true this]
    clear this
    (any_goals refine go lv69 0 ?_)
    repeat' (first | (refine Br.go (fun h h' => ?_) (fun h h' => ?_)) | (refine Br.mk (fun h => ?_) (fun h => ?_)))
    all_goals (try simp only [go_sem])
theorem eqFrame_at (x y : FrameT) : decide (x = y) = (decide (x.fn = y.fn) && decide (x.pc = y.pc) && decide (x.tov = y.tov) && decide (x.gen = y.gen) && (decide (x.self.1 = y.self.1) && decide (x.self.2 = y.self.2)) && decide (x.regs = y.regs) && decide (x.tries = y.tries)) := by
  obtain ⟨a1, a2, a3, a4, ⟨a5, a6⟩, a7, a8⟩ := x
  obtain ⟨b1, b2, b3, b4, ⟨b5, b6⟩, b7, b8⟩ := y
  simp only [← Bool.decide_and, FrameT.mk.injEq, Prod.mk.injEq, and_assoc]
theorem eqCell_at (x y : CellT) : decide (x = y) = (decide (x.kind = y.kind) && decide (x.num = y.num) && decide (x.vals = y.vals) && decide (x.frames = y.frames)) := by
  obtain ⟨a1, a2, a3, a4⟩ := x
  obtain ⟨b1, b2, b3, b4⟩ := y
  simp only [← Bool.decide_and, CellT.mk.injEq, and_assoc]
theorem eqThread_at (x y : ThreadT) : decide (x = y) = (decide (x.state = y.state) && decide (x.on = y.on) && (decide (x.val.1 = y.val.1) && decide (x.val.2 = y.val.2)) && decide (x.frames = y.frames)) := by
  obtain ⟨a1, a2, a3, ⟨a4, a5⟩⟩ := x
  obtain ⟨b1, b2, b3, ⟨b4, b5⟩⟩ := y
  simp only [← Bool.decide_and, ThreadT.mk.injEq, Prod.mk.injEq, and_assoc]
  rw [decide_eq_decide]
  exact ⟨fun ⟨h1, h2, h3, h4, h5⟩ => ⟨h2, h3, h4, h5, h1⟩, fun ⟨h2, h3, h4, h5, h1⟩ => ⟨h1, h2, h3, h4, h5⟩⟩
theorem eqState_at (x y : StateT) : decide (x = y) = (decide (x.cells = y.cells) && decide (x.shapes = y.shapes) && decide (x.texts = y.texts) && decide (x.threads = y.threads) && decide (x.ends = y.ends) && decide (x.said = y.said) && decide (x.asked = y.asked) && decide (x.steps = y.steps)) := by
  obtain ⟨a1, a2, a3, a4, a5, a6, a7, a8⟩ := x
  obtain ⟨b1, b2, b3, b4, b5, b6, b7, b8⟩ := y
  simp only [← Bool.decide_and, StateT.mk.injEq, and_assoc]
theorem frames1_c (x y : FrameT) (hx : Gwf x) (hy : Gwf y) : FC Cx 129 [frameA x, frameA y] [] (Bv (decide (x = y))) [] := by
  have h1 := hx.regs
  have h2 := hx.tries
  have l1 : (x.regs.map valR).length = x.regs.length := List.length_map ..
  have l2 : (x.tries.map tryR).length = x.tries.length := List.length_map ..
  rw [eqFrame_at]
  have hV : ∀ z, z = [valsV x.regs, valsV y.regs] → CallOk Cx 65 z (Bv (decide (x.regs = y.regs))) := fun z hz => by rw [hz]; exact CallOk_of (eqVal_c x.regs y.regs h1) en65 rfl rfl
  refine FCp_of [ct_eqTry', ctE 65 [valsV x.regs, valsV y.regs] (Bv (decide (x.regs = y.regs))) hV] Tryz.func129 rfl Tryz.ntmps129 (by simp) Tryz.results129 rfl ?_
  apply Rn_st; (intro K0; simp only [go_sem]; exact ⟨id⟩)
  refine goR (L := []) (n := 0) ?_
  (apply Rn_frzB 2; (exact rfl); (exact rfl); (exact rfl); (intro K0; (try simp only [go_sem]); exact ⟨id⟩))
  (apply Rn_frzB 3; (exact rfl); (exact rfl); (exact rfl); (intro K0; (try simp only [go_sem]); exact ⟨id⟩))
  (any_goals refine go lv129 0 ?_)
  repeat' (first | (refine Br.go (fun h h' => ?_) (fun h h' => ?_)) | (refine Br.mk (fun h => ?_) (fun h => ?_)))
  all_goals (try simp only [go_sem])
end Go.Proofs.YtbhnmolmkembdaaGreatDoor
namespace Go.Proofs.YtbhnmolmkembdaaGreatDoor
set_option linter.unusedVariables false
set_option linter.unusedSimpArgs false
set_option maxHeartbeats 10000000
open Go
set_option maxRecDepth 10000
theorem sframes_c (x y : List FrameT) (hl : x.length ≤ 9223372036854775807) (hx : ∀ f ∈ x, Gwf f) (hy : ∀ f ∈ y, Gwf f) : FC Cx 66 [framesV x, framesV y] [] (Bv (decide (x = y))) [] := by
  have hE : ∀ z, z = [framesV x, framesV y, .r (.fn 129 [])] → CallOk Cx 128 z (Bv (decide (x = y))) := fun z hz => by
    rw [hz]
    exact CallOk_of (eqfFrame_c x y 129 hl fun f hf g hg => CallOk_of (frames1_c f g (hx f hf) (hy g hg)) en129 rfl rfl) en128 rfl rfl
  refine FCp_of [ctE 128 [framesV x, framesV y, .r (.fn 129 [])] (Bv (decide (x = y))) hE] Tryz.func66 rfl Tryz.ntmps66 (by simp) Tryz.results66 rfl ?_
  apply Rn_st; (intro K0; simp only [go_sem]; exact ⟨id⟩)
  (any_goals refine go lv66 0 ?_)
  repeat' (first | (refine Br.go (fun h h' => ?_) (fun h h' => ?_)) | (refine Br.mk (fun h => ?_) (fun h => ?_)))
  all_goals (try simp only [go_sem])
theorem same1_c (x y : CellT) (hx : Cwf x) (hy : Cwf y) : FC Cx 64 [cellA x, cellA y] [] (Bv (decide (x = y))) [] := by
  rw [eqCell_at]
  have hV : ∀ z, z = [valsV x.vals, valsV y.vals] → CallOk Cx 65 z (Bv (decide (x.vals = y.vals))) := fun z hz => by rw [hz]; exact CallOk_of (eqVal_c x.vals y.vals hx.vals) en65 rfl rfl
  have hF : ∀ z, z = [framesV x.frames, framesV y.frames] → CallOk Cx 66 z (Bv (decide (x.frames = y.frames))) := fun z hz => by rw [hz]; exact CallOk_of (sframes_c x.frames y.frames hx.frames hx.frame hy.frame) en66 rfl rfl
  refine FCp_of [ctE 65 [valsV x.vals, valsV y.vals] (Bv (decide (x.vals = y.vals))) hV, ctE 66 [framesV x.frames, framesV y.frames] (Bv (decide (x.frames = y.frames))) hF] Tryz.func64 rfl Tryz.ntmps64 (by simp) Tryz.results64 rfl ?_
  apply Rn_st; (intro K0; simp only [go_sem]; exact ⟨id⟩)
  refine goR (L := []) (n := 0) ?_
  (apply Rn_frzB 2; (exact rfl); (exact rfl); (exact rfl); (intro K0; (try simp only [go_sem]); exact ⟨id⟩))
  (apply Rn_frzB 3; (exact rfl); (exact rfl); (exact rfl); (intro K0; (try simp only [go_sem]); exact ⟨id⟩))
  (any_goals refine go lv64 0 ?_)
  repeat' (first | (refine Br.go (fun h h' => ?_) (fun h h' => ?_)) | (refine Br.mk (fun h => ?_) (fun h => ?_)))
  all_goals (try simp only [go_sem])
theorem same2_c (x y : ThreadT) (hl : x.frames.length ≤ 9223372036854775807) (hx : ∀ f ∈ x.frames, Gwf f) (hy : ∀ f ∈ y.frames, Gwf f) : FC Cx 70 [threadA x, threadA y] [] (Bv (decide (x = y))) [] := by
  rw [eqThread_at]
  have hF : ∀ z, z = [framesV x.frames, framesV y.frames] → CallOk Cx 66 z (Bv (decide (x.frames = y.frames))) := fun z hz => by rw [hz]; exact CallOk_of (sframes_c x.frames y.frames hl hx hy) en66 rfl rfl
  refine FCp_of [ctE 66 [framesV x.frames, framesV y.frames] (Bv (decide (x.frames = y.frames))) hF] Tryz.func70 rfl Tryz.ntmps70 (by simp) Tryz.results70 rfl ?_
  apply Rn_st; (intro K0; simp only [go_sem]; exact ⟨id⟩)
  refine goR (L := []) (n := 0) ?_
  (apply Rn_frzB 2; (exact rfl); (exact rfl); (exact rfl); (intro K0; (try simp only [go_sem]); exact ⟨id⟩))
  (apply Rn_frzB 3; (exact rfl); (exact rfl); (exact rfl); (intro K0; (try simp only [go_sem]); exact ⟨id⟩))
  (any_goals refine go lv70 0 ?_)
  repeat' (first | (refine Br.go (fun h h' => ?_) (fun h h' => ?_)) | (refine Br.mk (fun h => ?_) (fun h => ?_)))
  all_goals (try simp only [go_sem])
theorem stSame_c (x y : StateT) (hx : Swf x) (hy : Swf y) : FC Cx 24 [stateV x, stateV y] [] (Bv (decide (x = y))) [] := by
  have hl := hx.len
  have h3 := hl.texts
  have l1 : (x.texts.map strR).length = x.texts.length := List.length_map ..
  rw [eqState_at]
  have hC : ∀ z, z = [cellsV x.cells, cellsV y.cells, .r (.fn 64 [])] → CallOk Cx 63 z (Bv (decide (x.cells = y.cells))) := fun z hz => by
    rw [hz]
    exact CallOk_of (eqfCell_c x.cells y.cells 64 hl.cells fun f hf g hg => CallOk_of (same1_c f g (hx.cell f hf) (hy.cell g hg)) en64 rfl rfl) en63 rfl rfl
  have hT : ∀ z, z = [threadsV x.threads, threadsV y.threads, .r (.fn 70 [])] → CallOk Cx 69 z (Bv (decide (x.threads = y.threads))) := fun z hz => by
    rw [hz]
    exact CallOk_of (eqfThread_c x.threads y.threads 70 hl.threads fun f hf g hg => CallOk_of (same2_c f g (hx.thread f hf).1 (hx.thread f hf).2 (hy.thread g hg).2) en70 rfl rfl) en69 rfl rfl
  have hS : ∀ z, z = [valsV x.shapes, valsV y.shapes] → CallOk Cx 67 z (Bv (decide (x.shapes = y.shapes))) := fun z hz => by rw [hz]; exact CallOk_of (eqShape_c x.shapes y.shapes hl.shapes) en67 rfl rfl
  have hV : ∀ z, z = [valsV x.said, valsV y.said] → CallOk Cx 65 z (Bv (decide (x.said = y.said))) := fun z hz => by rw [hz]; exact CallOk_of (eqVal_c x.said y.said hl.said) en65 rfl rfl
  have hE : ∀ z, z = [endsV x.ends, endsV y.ends] → CallOk Cx 71 z (Bv (decide (x.ends = y.ends))) := fun z hz => by rw [hz]; exact CallOk_of (eqEnd_c x.ends y.ends hl.ends) en71 rfl rfl
  refine FCp_of [ct_eqStr', ctE 63 [cellsV x.cells, cellsV y.cells, .r (.fn 64 [])] (Bv (decide (x.cells = y.cells))) hC, ctE 69 [threadsV x.threads, threadsV y.threads, .r (.fn 70 [])] (Bv (decide (x.threads = y.threads))) hT, ctE 67 [valsV x.shapes, valsV y.shapes] (Bv (decide (x.shapes = y.shapes))) hS, ctE 65 [valsV x.said, valsV y.said] (Bv (decide (x.said = y.said))) hV, ctE 71 [endsV x.ends, endsV y.ends] (Bv (decide (x.ends = y.ends))) hE] Tryz.func24 rfl Tryz.ntmps24 (by simp) Tryz.results24 rfl ?_
  apply Rn_st; (intro K0; simp only [go_sem]; exact ⟨id⟩)
  refine goR (L := []) (n := 0) ?_
  (apply Rn_frzB 2; (exact rfl); (exact rfl); (exact rfl); (intro K0; (try simp only [go_sem]); exact ⟨id⟩))
  (apply Rn_frzB 3; (exact rfl); (exact rfl); (exact rfl); (intro K0; (try simp only [go_sem]); exact ⟨id⟩))
  (any_goals refine go lv24 0 ?_)
  repeat' (first | (refine Br.go (fun h h' => ?_) (fun h h' => ?_)) | (refine Br.mk (fun h => ?_) (fun h => ?_)))
  all_goals (try simp only [go_sem])
theorem stSame'_c (ca sh tx th en sd ca' sh' tx' th' en' sd' : List (List RV)) (aq sq aq' sq' : Int) (h : ((ca = (cellsOf ca).map cellR ∧ sh = (valsOf sh).map valR ∧ tx = (strsOf tx).map strR ∧ th = (threadsOf th).map threadR ∧ en = (endsOf en).map endR ∧ sd = (valsOf sd).map valR) ∧ (ca' = (cellsOf ca').map cellR ∧ sh' = (valsOf sh').map valR ∧ tx' = (strsOf tx').map strR ∧ th' = (threadsOf th').map threadR ∧ en' = (endsOf en').map endR ∧ sd' = (valsOf sd').map valR)) ∧ Swf ⟨cellsOf ca, valsOf sh, strsOf tx, threadsOf th, endsOf en, valsOf sd, aq, sq⟩ ∧ Swf ⟨cellsOf ca', valsOf sh', strsOf tx', threadsOf th', endsOf en', valsOf sd', aq', sq'⟩) :
    FC Cx 24 [.agg [.r (.rs 4 ca), .r (.rs 2 sh), .r (.rs 1 tx), .r (.rs 5 th), .r (.rs 3 en), .r (.rs 2 sd), Iv aq, Iv sq], .agg [.r (.rs 4 ca'), .r (.rs 2 sh'), .r (.rs 1 tx'), .r (.rs 5 th'), .r (.rs 3 en'), .r (.rs 2 sd'), .r (.v (.int .i64 aq')), .r (.v (.int .i64 sq'))]] [] (Bv (decide (⟨cellsOf ca, valsOf sh, strsOf tx, threadsOf th, endsOf en, valsOf sd, aq, sq⟩ = (⟨cellsOf ca', valsOf sh', strsOf tx', threadsOf th', endsOf en', valsOf sd', aq', sq'⟩ : StateT)))) [] := by
  have := stSame_c ⟨cellsOf ca, valsOf sh, strsOf tx, threadsOf th, endsOf en, valsOf sd, aq, sq⟩ ⟨cellsOf ca', valsOf sh', strsOf tx', threadsOf th', endsOf en', valsOf sd', aq', sq'⟩ h.2.1 h.2.2
  rwa [state_at _ _ _ _ _ _ _ _ h.1.1, state_at _ _ _ _ _ _ _ _ h.1.2] at this
end Go.Proofs.YtbhnmolmkembdaaGreatDoor
namespace Go.Proofs.YtbhnmolmkembdaaGreatDoor
set_option linter.unusedVariables false
set_option linter.unusedSimpArgs false
set_option maxHeartbeats 10000000
open Go
set_option maxRecDepth 10000
def canF (s : StateT) (k : Nat) : Bool :=
  if (s.threads.getD k thread0).state = 0 then true else if (s.threads.getD k thread0).state = 1 then decide ((s.cells.getD (s.threads.getD k thread0).on.toNat cell0).num = -1) else
  if (s.threads.getD k thread0).state = 2 then decide ((s.threads.getD (s.threads.getD k thread0).on.toNat thread0).state = 3) || decide ((s.threads.getD (s.threads.getD k thread0).on.toNat thread0).state = 4) else false
theorem can_c (s : StateT) (k : Nat) (t : ThreadT) (ht : s.threads[k]? = some t) (h1 : t.state = 1 → 0 ≤ t.on ∧ t.on < (s.cells.length : Int)) (h2 : t.state = 2 → 0 ≤ t.on ∧ t.on < (s.threads.length : Int)) :
    FC Cx 56 [stateP s, Iv k] [] (Bv (canF s k)) [] := by
  have l0 : (s.cells.map cellR).length = s.cells.length := List.length_map ..
  have l1 : (s.threads.map threadR).length = s.threads.length := List.length_map ..
  have hk := (List.getElem?_eq_some_iff.1 ht).1
  have t1 : Int.toNat (k : Int) = k := by omega
  have hg := getD_map threadR ht ([] : List RV)
  have et : s.threads.getD k thread0 = t := by rw [List.getD_eq_getElem?_getD, ht]; rfl
  unfold canF
  rw [et]
  clear et
  obtain ⟨fs, state, on, ⟨vk, vn⟩⟩ := t
  dsimp only at h1 h2 ⊢
  by_cases s0 : state = 0
  · subst s0
    rw [if_pos rfl]
    refine FCp_of [] Tryz.func56 rfl Tryz.ntmps56 (by simp) Tryz.results56 rfl ?_
    apply Rn_st; (intro K0; simp only [go_sem]; exact ⟨id⟩)
    refine goR (L := []) (n := 0) ?_
    (any_goals refine go lv56 0 ?_)
    repeat' (first | (refine Br.go (fun h h' => ?_) (fun h h' => ?_)) | (refine Br.mk (fun h => ?_) (fun h => ?_)))
    all_goals (try simp only [go_sem])
  rw [if_neg s0]
  have d0 : decide (state = 0) = false := by simpa using s0
  by_cases s1 : state = 1
  · subst s1
    obtain ⟨b1, b2⟩ := h1 rfl
    obtain ⟨c, hc⟩ : ∃ c, s.cells[on.toNat]? = some c := ⟨s.cells[on.toNat]'(by omega), List.getElem?_eq_getElem _⟩
    have gc := getD_map cellR hc ([] : List RV)
    have ec : s.cells.getD on.toNat cell0 = c := by rw [List.getD_eq_getElem?_getD, hc]; rfl
    rw [if_pos rfl, ec]
    clear ec h1 h2
    refine FCp_of [] Tryz.func56 rfl Tryz.ntmps56 (by simp) Tryz.results56 rfl ?_
    apply Rn_st; (intro K0; simp only [go_sem]; exact ⟨id⟩)
    refine goR (L := []) (n := 0) ?_
    (any_goals refine go lv56 0 ?_)
    repeat' (first | (refine Br.go (fun h h' => ?_) (fun h h' => ?_)) | (refine Br.mk (fun h => ?_) (fun h => ?_)))
    all_goals (try simp only [go_sem])
  rw [if_neg s1]
  have d1 : decide (state = 1) = false := by simpa using s1
  by_cases s2 : state = 2
  · subst s2
    obtain ⟨b1, b2⟩ := h2 rfl
    obtain ⟨c, hc⟩ : ∃ c, s.threads[on.toNat]? = some c := ⟨s.threads[on.toNat]'(by omega), List.getElem?_eq_getElem _⟩
    have gc := getD_map threadR hc ([] : List RV)
    have ec : s.threads.getD on.toNat thread0 = c := by rw [List.getD_eq_getElem?_getD, hc]; rfl
    rw [if_pos rfl, ec]
    clear ec h1 h2
    refine FCp_of [] Tryz.func56 rfl Tryz.ntmps56 (by simp) Tryz.results56 rfl ?_
    apply Rn_st; (intro K0; simp only [go_sem]; exact ⟨id⟩)
    refine goR (L := []) (n := 0) ?_
    (any_goals refine go lv56 0 ?_)
    repeat' (first | (refine Br.go (fun h h' => ?_) (fun h h' => ?_)) | (refine Br.mk (fun h => ?_) (fun h => ?_)))
    all_goals (try simp only [go_sem])
  rw [if_neg s2]
  have d2 : decide (state = 2) = false := by simpa using s2
  clear h1 h2
  refine FCp_of [] Tryz.func56 rfl Tryz.ntmps56 (by simp) Tryz.results56 rfl ?_
  apply Rn_st; (intro K0; simp only [go_sem]; exact ⟨id⟩)
  refine goR (L := []) (n := 0) ?_
  (any_goals refine go lv56 0 ?_)
  repeat' (first | (refine Br.go (fun h h' => ?_) (fun h h' => ?_)) | (refine Br.mk (fun h => ?_) (fun h => ?_)))
  all_goals (try simp only [go_sem])
theorem ref_on {s : StateT} {n q : Int} (h : refF s (5, n) q = true) : 0 ≤ n ∧ n < (s.cells.length : Int) ∧ (s.cells.getD n.toNat cell0).kind = q := by
  unfold refF at h
  simp only [Bool.and_eq_true, decide_eq_true_eq] at h
  exact ⟨h.1.1.2, h.1.2, h.2⟩
theorem head_on {p : ProgT} {s : StateT} {t : ThreadT} (h : headF p s t = true) : (t.state = 1 → 0 ≤ t.on ∧ t.on < (s.cells.length : Int)) ∧ (t.state = 2 → 0 ≤ t.on ∧ t.on < (s.threads.length : Int)) := by
  unfold headF at h
  rw [Bool.and_eq_true] at h
  have h2 := h.2
  refine ⟨fun s1 => ?_, fun s2 => ?_⟩
  · rw [if_pos s1] at h2
    have := ref_on h2
    exact ⟨this.1, this.2.1⟩
  · rw [if_neg (by omega), if_pos s2] at h2
    simp at h2; omega
def readyN (s : StateT) (n : Nat) : List Int := ((List.range n).filter (canF s)).map fun (k : Nat) => (k : Int)
theorem readyN_yes {s : StateT} {n : Nat} (h : canF s n = true) : readyN s (n + 1) = readyN s n ++ [(n : Int)] := by
  unfold readyN; rw [List.range_succ, List.filter_append, List.map_append]; simp [h]
theorem readyN_no {s : StateT} {n : Nat} (h : canF s n = false) : readyN s (n + 1) = readyN s n := by
  unfold readyN; rw [List.range_succ, List.filter_append, List.map_append]; simp [h]
theorem readyN_len (s : StateT) (n : Nat) : (readyN s n).length ≤ n := by
  unfold readyN; rw [List.length_map]
  exact Nat.le_trans (List.length_filter_le _ _) (by simp)
noncomputable def readyL (p : ProgT) (s : StateT) : List Int := if faultS p s = 0 then readyN s s.threads.length else []
theorem Ready_c (p : ProgT) (s : StateT) (hw : Pwf p) (hs : Swf s) : FC Cx 17 [progV p, stateV s] [] (.tup [intsV (readyL p s), Iv (faultS p s)]) [] := by
  have l1 : (s.threads.map threadR).length = s.threads.length := List.length_map ..
  unfold readyL
  by_cases hf : faultS p s = 0
  case neg =>
    rw [if_neg hf]
    have d0 : decide (faultS p s = 0) = false := by simpa using hf
    clear hf
    refine FCf_of [ct_stFault'] Tryz.func17 rfl Tryz.ntmps17 (by simp) Tryz.results17 rfl ?_
    apply Rn_st; (intro K0; simp only [go_sem]; exact ⟨id⟩)
    refine goR (L := []) (n := 0) ?_
    (apply Rn_frzB 2; (exact rfl); (exact rfl); (exact rfl); (intro K0; (try simp only [go_sem]); exact ⟨id⟩))
    (apply Rn_frzB 3; (exact rfl); (exact rfl); (exact rfl); (intro K0; (try simp only [go_sem]); exact ⟨id⟩))
    (any_goals refine go lv17 0 ?_)
    repeat' (first | (refine Br.go (fun h h' => ?_) (fun h h' => ?_)) | (refine Br.mk (fun h => ?_) (fun h => ?_)))
    all_goals (try simp only [go_sem])
  rw [if_pos hf]
  have hR := rightS_iff.1 hf
  have d0 : decide (faultS p s = 0) = true := by simpa using hf
  rw [hf]
  have h5 : s.threads.length ≤ 5 := by
    have := hR.few
    unfold manyS at this
    simp only [Bool.or_eq_false_iff, decide_eq_false_iff_not] at this
    omega
  refine FCf_of [ct_stFault'] Tryz.func17 rfl Tryz.ntmps17 (by simp) Tryz.results17 rfl ?_
  apply Rn_st; (intro K0; simp only [go_sem]; exact ⟨id⟩)
  refine goR (L := []) (n := 0) ?_
  (apply Rn_frzB 2; (exact rfl); (exact rfl); (exact rfl); (intro K0; (try simp only [go_sem]); exact ⟨id⟩))
  (apply Rn_frzB 3; (exact rfl); (exact rfl); (exact rfl); (intro K0; (try simp only [go_sem]); exact ⟨id⟩))
  (any_goals refine go lv17 0 ?_)
  repeat' (first | (refine Br.go (fun h h' => ?_) (fun h h' => ?_)) | (refine Br.mk (fun h => ?_) (fun h => ?_)))
  (apply Rn_ownnil 7 1007 3 1; (exact rfl); (exact rfl); (intro K0; (try simp only [go_sem]); exact ⟨id⟩))
  refine Rn_loopS (fun x : Nat × Nat × Nat => x.1 ≤ s.threads.length) (fun x => ⟨29, [(3, stateP s), (7, .os 1007 (1 + (readyN s x.1).length)), (17, Iv s.threads.length), (18, Iv x.1)], [(2, 2, .gone), (3, 2, .gone), (1007, 1 + (readyN s x.1).length, .sl 3 1 ((readyN s x.1).map fun k => [Iv k])), (25, x.2.1, .gone)]⟩) (fun x => s.threads.length - x.1) (0, 0, 0) (Nat.zero_le _) ?_
  rintro ⟨i, u, _⟩ hi
  dsimp only at hi ⊢
  by_cases hlt : i < s.threads.length
  case neg =>
    obtain rfl : i = s.threads.length := by omega
    have e1 : decide ((s.threads.length : Int) < (s.threads.length : Int)) = false := by rw [decide_eq_false_iff_not]; omega
    (any_goals refine go lv17 0 ?_)
    repeat' (first | (refine Br.go (fun h h' => ?_) (fun h h' => ?_)) | (refine Br.mk (fun h => ?_) (fun h => ?_)))
    all_goals (try simp only [go_sem])
    all_goals skip
  have e1 : decide ((i : Int) < (s.threads.length : Int)) = true := by rw [decide_eq_true_eq]; omega
  have t1 : Int.toNat (i : Int) = i := by omega
  have w1 : IntKind.i64.wrap ((i : Int) + 1) = ((i + 1 : Nat) : Int) := by rw [wrap_id] <;> omega
  obtain ⟨t, ht⟩ : ∃ v, s.threads[i]? = some v := ⟨s.threads[i], List.getElem?_eq_getElem hlt⟩
  have hon := head_on (hR.threads t (List.mem_of_getElem? ht)).1
  have hE : ∀ z, z = [stateP s, Iv i] → CallOk Cx 56 z (Bv (canF s i)) := fun z hz => by rw [hz]; exact CallOk_of (can_c s i t ht hon.1 hon.2) en56 rfl rfl
  refine Rn_T [ctE 56 [stateP s, Iv i] (Bv (canF s i)) hE] ?_
  have hrl := readyN_len s i
  have lr : ((readyN s i).map fun k => [Iv k]).length = (readyN s i).length := List.length_map ..
  rcases Bool.eq_false_or_eq_true (canF s i) with hb | hb
  · skip
    (any_goals refine go lv17 0 ?_)
    repeat' (first | (refine Br.go (fun h h' => ?_) (fun h h' => ?_)) | (refine Br.mk (fun h => ?_) (fun h => ?_)))
    all_goals (try simp only [go_sem])
    have hn := readyN_yes hb
    refine ⟨(i + 1, u + 9, 0), by dsimp only; omega, by dsimp only; omega, ?_⟩
    dsimp only
    rw [hn, List.length_append, List.map_append]
    exact Le_subA
  · skip
    (any_goals refine go lv17 0 ?_)
    repeat' (first | (refine Br.go (fun h h' => ?_) (fun h h' => ?_)) | (refine Br.mk (fun h => ?_) (fun h => ?_)))
    all_goals (try simp only [go_sem])
    have hn := readyN_no hb
    refine ⟨(i + 1, u + 9, 0), by dsimp only; omega, by dsimp only; omega, ?_⟩
    dsimp only
    rw [hn]
    exact Le_subA
end Go.Proofs.YtbhnmolmkembdaaGreatDoor
namespace Go.Proofs.YtbhnmolmkembdaaGreatDoor
set_option linter.unusedVariables false
set_option linter.unusedSimpArgs false
set_option maxHeartbeats 10000000
open Go
section
variable {C : Ctx} {T : List (Ct C)} {L : List (Nat × List Nat)} {n : Nat} {B B1 B2 : Prop} {r r' r'' : List It} {st st' : St} {K : Exit → St → Prop} {A : St → Prop}
variable {k k' : Nat} {done done' : List (Nat × Nat)} {o : Oper} {l : List Oper} {j d d' : Nat} {b w q : Bool} {x : AV}
variable {fps fps' : List (List Loc × List Loc)} {edges : List (List Nat)} {rds : List Loc} {ws : List (Loc × Cont)}
theorem goF8 (L : List (Nat × List Nat)) (n : Nat) (hb : B)
    (h : Gw T L n B (Rn C T r st K) := by
      repeat' (first | (apply Gw.frzi 0; (exact rfl); (exact rfl); (exact rfl); (exact rfl); (exact rfl); (intro K0; (try simp only [go_sem]); exact ⟨id⟩)) | (apply Gw.frzi 1; (exact rfl); (exact rfl); (exact rfl); (exact rfl); (exact rfl); (intro K0; (try simp only [go_sem]); exact ⟨id⟩)) | (apply Gw.frzi 2; (exact rfl); (exact rfl); (exact rfl); (exact rfl); (exact rfl); (intro K0; (try simp only [go_sem]); exact ⟨id⟩)) | (apply Gw.frzi 3; (exact rfl); (exact rfl); (exact rfl); (exact rfl); (exact rfl); (intro K0; (try simp only [go_sem]); exact ⟨id⟩)) | (apply Gw.frzi 4; (exact rfl); (exact rfl); (exact rfl); (exact rfl); (exact rfl); (intro K0; (try simp only [go_sem]); exact ⟨id⟩)) | (apply Gw.frzi 5; (exact rfl); (exact rfl); (exact rfl); (exact rfl); (exact rfl); (intro K0; (try simp only [go_sem]); exact ⟨id⟩)) | (apply Gw.frzi 6; (exact rfl); (exact rfl); (exact rfl); (exact rfl); (exact rfl); (intro K0; (try simp only [go_sem]); exact ⟨id⟩)) | (apply Gw.frzi 7; (exact rfl); (exact rfl); (exact rfl); (exact rfl); (exact rfl); (intro K0; (try simp only [go_sem]); exact ⟨id⟩)) | (focus (intro K0; (try simp only [go_sem, *]); (first | exact ⟨id⟩ | (refine ⟨fun h => ?_⟩; (repeat' (first | exact h | refine And.intro ?_ ?_ | omega | rfl)); done)))) | (apply Gw.seq) | (apply Gw.block) | (apply Gw.region; (exact rfl)) | (apply Gw.op; (exact rfl)) | (apply Gw.onil) | ((first | apply Gw.g | apply Gw.dg); (exact rfl); (exact rfl); (focus (intro K0; (try simp only [lookT, ev, Nat.reduceEqDiff, ↓reduceIte]); exact ⟨id⟩))) | (with_reducible (first | apply Gw.yes | apply Gw.dyes)) | ((with_reducible (first | apply Gw.tno | apply Gw.fno | apply Gw.un | apply Gw.dtno | apply Gw.dfno | apply Gw.dun)); (exact rfl)) | ((first | apply Gw.never | apply Gw.dnever); (focus (intro K0; (try simp only [go_sem]); exact ⟨id⟩)); (exact rfl)) | ((first | apply Gw.lazy | apply Gw.dlazy); (exact rfl); (focus (intro K0; (try simp only [go_sem]); exact ⟨id⟩)); (focus (first | (simp only [Nat.reduceLT]; done) | omega)); (focus (intro hw0; (try simp only [Bool.and_eq_true, Bool.not_eq_true', beq_true', beq_false'] at hw0); (focus (intro K0; (try simp only [go_sem, *]); (first | exact ⟨id⟩ | (refine ⟨fun h => ?_⟩; (repeat' (first | exact h | refine And.intro ?_ ?_ | omega | rfl)); done))))))) | (apply Gw.c; (focus (intro K0; (try simp only [lookT, ev, Nat.reduceEqDiff, ↓reduceIte]); exact ⟨id⟩))) | (with_reducible (first | apply Gw.ct | apply Gw.cf)) | (apply Gw.unroll) | (apply Gw.skip) | (apply Gw.exit rfl) | (apply Gw.bb) | (apply Gw.drawn; (exact rfl)) | (apply Gw.dop; (exact rfl)) | (apply Gw.dnil (by kernel_rfl)) | ((with_reducible (first | apply Gw.gsplit | apply Gw.dsplit | apply Gw.csplit)) <;> (first | (intro h; (have h' := h); (try simp only [decide_eq_true_eq, decide_eq_false_iff_not, Bool.not_eq_true', Bool.not_eq_false', Bool.and_eq_true, Bool.or_eq_true, Bool.or_eq_false_iff, beq_iff_eq, bne_iff_ne, ne_eq, Bool.not_true, Bool.not_false, not_false_eq_true, reduceCtorEq, beq_eq_false_iff_ne, bne_eq_false_iff_eq] at h'); (first | apply Gw.stt | apply Gw.dstt | done)) | skip)) | (apply Gw.outck rfl rfl) | (apply Gw.out rfl) | (apply Gw.tret) | (apply Gw.tout rfl) | (apply Gw.tthru rfl) | (first | apply Gw.retck | apply Gw.ret | apply Gw.nilthen) | (apply Gw.ls) | (apply Gw.nil))
      all_goals (first | exact Gw.leaf | exact True)) : Rn C T r st K := h.run hb
theorem goN (L : List (Nat × List Nat)) (n : Nat) (hb : B)
    (h : Gw T L n B (Rn C T r st K) := by
      repeat' (first | (focus (intro K0; (try simp only [go_sem, *]); (first | exact ⟨id⟩ | (refine ⟨fun h => ?_⟩; (repeat' (first | exact h | refine And.intro ?_ ?_ | omega | rfl)); done)))) | (apply Gw.seq) | (apply Gw.block) | (apply Gw.region; (exact rfl)) | (apply Gw.op; (exact rfl)) | (apply Gw.onil) | ((first | apply Gw.g | apply Gw.dg); (exact rfl); (exact rfl); (focus (intro K0; (try simp only [lookT, ev, Nat.reduceEqDiff, ↓reduceIte]); exact ⟨id⟩))) | (with_reducible (first | apply Gw.yes | apply Gw.dyes)) | ((with_reducible (first | apply Gw.tno | apply Gw.fno | apply Gw.un | apply Gw.dtno | apply Gw.dfno | apply Gw.dun)); (exact rfl)) | ((first | apply Gw.never | apply Gw.dnever); (focus (intro K0; (try simp only [go_sem]); exact ⟨id⟩)); (exact rfl)) | ((first | apply Gw.lazy | apply Gw.dlazy); (exact rfl); (focus (intro K0; (try simp only [go_sem]); exact ⟨id⟩)); (focus (first | (simp only [Nat.reduceLT]; done) | omega)); (focus (intro hw0; (try simp only [Bool.and_eq_true, Bool.not_eq_true', beq_true', beq_false'] at hw0); (focus (intro K0; (try simp only [go_sem, *]); (first | exact ⟨id⟩ | (refine ⟨fun h => ?_⟩; (repeat' (first | exact h | refine And.intro ?_ ?_ | omega | rfl)); done))))))) | (apply Gw.c; (focus (intro K0; (try simp only [lookT, ev, Nat.reduceEqDiff, ↓reduceIte]); exact ⟨id⟩))) | (with_reducible (first | apply Gw.ct | apply Gw.cf)) | (apply Gw.unroll) | (apply Gw.skip) | (apply Gw.exit rfl) | (apply Gw.bb) | (apply Gw.drawn; (exact rfl)) | (apply Gw.dop; (exact rfl)) | (apply Gw.dnil (by kernel_rfl)) | ((with_reducible (first | apply Gw.gsplit | apply Gw.dsplit | apply Gw.csplit)) <;> (first | (intro h; (have h' := h); (try simp only [decide_eq_true_eq, decide_eq_false_iff_not, Bool.not_eq_true', Bool.not_eq_false', Bool.and_eq_true, Bool.or_eq_true, Bool.or_eq_false_iff, beq_iff_eq, bne_iff_ne, ne_eq, Bool.not_true, Bool.not_false, not_false_eq_true, reduceCtorEq, beq_eq_false_iff_ne, bne_eq_false_iff_eq] at h'); (first | apply Gw.stt | apply Gw.dstt | done)) | skip)) | (apply Gw.outck rfl rfl) | (apply Gw.out rfl) | (apply Gw.tret) | (apply Gw.tout rfl) | (apply Gw.tthru rfl) | (first | apply Gw.nilthen) | (apply Gw.ls) | (apply Gw.nil))
      all_goals (first | exact Gw.leaf | exact True)) : Rn C T r st K := h.run hb
theorem Rn_frzD (k : Nat) {ver : Nat} {res : Res} (y : RV) (hk : lookR k st.rs = (ver, res)) (hne : res ≠ .gone) (hl : lendC 4 st (.os k ver) fun l z => l = [.R k] ∧ z = y) (hr : hasC r = true) (hst : ∀ K0 : St → Prop, Imp (K0 st') (K0 (frzSt k ver y st))) (hk2 : Rn C T r st' K) : Rn C T r st K := by
  have hk' := (hst fun s => Rn C T r s K).run hk2
  refine Rn_up hr (fun e a w ⟨ho, g, hs⟩ => ?_) hk'
  obtain ⟨l, z, ⟨rfl, rfl⟩, hb⟩ := lendC_ok 4 _ _ hl
  exact ⟨ho, g, hs.frz hk hne hb⟩
end
end Go.Proofs.YtbhnmolmkembdaaGreatDoor
namespace Go.Proofs.YtbhnmolmkembdaaGreatDoor
set_option linter.unusedVariables false
set_option linter.unusedSimpArgs false
set_option maxHeartbeats 10000000
open Go
set_option maxRecDepth 10000
abbrev valC (v : Int × Int) : List AV := [Iv v.1, Iv v.2]
abbrev strC (s : ByteArray) : List AV := [Sv s]
theorem flatValC (l : List (Int × Int)) : ∀ row ∈ l.map valC, withinL none0 row = true := fun row h => by
  obtain ⟨x, _, rfl⟩ := List.mem_map.1 h; rfl
@[go_sem] theorem okValC : ∀ l : List (Int × Int), okRows (l.map valC) = true
  | [] => rfl
  | x :: l => okValC l
@[go_sem] theorem roValC (l : List (Int × Int)) : ((l.map valR).map fun r => r.map AV.r) = l.map valC := by rw [List.map_map]; rfl
theorem cloneValP_rows (xs : List (List RV)) : ∀ row ∈ (valsOf xs).map valC, withinL none0 row = true := flatValC _
theorem cloneValP_c (xs : List (List RV)) (h : xs = (valsOf xs).map valR ∧ xs.length ≤ 1000000000) : FC Cx 27 [.r (.rs 2 xs)] [] (.os 0 1) [(0, 1, .sl 50 2 ((valsOf xs).map valC))] := by
  have hl : (valsOf xs).length = xs.length := by simp [valsOf]
  have hlenS : ∀ l : List (Int × Int), (l.map valC).length = l.length := fun l => List.length_map ..
  obtain ⟨h1, h2⟩ := h
  generalize valsOf xs = l at h1 hl
  subst h1
  rw [← hl] at h2
  refine FCo_of [] (i := 0) [.os 0 1] Tryz.func27 rfl Tryz.ntmps27 (by simp) Tryz.results27 (flatValC _) ?_
  apply Rn_st; (intro K0; simp only [go_sem]; exact ⟨id⟩)
  iterate 8 (any_goals (first | (focus (intro K0; (try simp only [go_sem, *]); (first | exact ⟨id⟩ | (refine ⟨fun h => ?_⟩; (repeat' (first | exact h | refine And.intro ?_ ?_ | omega | rfl)); done)))) | (refine Rn_seq ?_) | (refine Rn_block ?_) | (apply Rn_region' lv27; (exact rfl)) | (refine Rn_region ?_) | (apply Rn_op'; (exact rfl)) | (refine Rn_o_nil ?_) | ((first | apply Rn_g | apply Rd_g); (exact rfl); (exact rfl); (focus (intro K0; (try simp only [lookT, ev, Nat.reduceEqDiff, ↓reduceIte]); exact ⟨id⟩))) | (with_reducible (first | apply RnG_yes | apply RdG_yes)) | ((with_reducible (first | apply RnG_t_no | apply RnG_f_no | apply RnG_un | apply RdG_t_no | apply RdG_f_no | apply RdG_un)); (exact rfl)) | ((first | apply RnG_never | apply RdG_never); (focus (intro K0; (try simp only [go_sem]); exact ⟨id⟩)); (exact rfl)) | ((first | apply RnG_lazy | apply RdG_lazy); (exact rfl); (focus (intro K0; (try simp only [go_sem]); exact ⟨id⟩)); (focus (first | (simp only [Nat.reduceLT]; done) | omega)); (focus (intro hw0; (try simp only [Bool.and_eq_true, Bool.not_eq_true', beq_true', beq_false'] at hw0); (focus (intro K0; (try simp only [go_sem, *]); (first | exact ⟨id⟩ | (refine ⟨fun h => ?_⟩; (repeat' (first | exact h | refine And.intro ?_ ?_ | omega | rfl)); done))))))) | (apply Rn_c; (focus (intro K0; (try simp only [lookT, ev, Nat.reduceEqDiff, ↓reduceIte]); exact ⟨id⟩))) | (with_reducible (first | refine RnC_t ?_ | refine RnC_f ?_)) | (refine Rn_skip ?_) | (refine Rn_exit rfl ?_) | (refine Rn_b ?_) | (apply Rn_draw' lv27; (exact rfl)) | (refine Rn_draw ?_) | (apply Rd_op'; (exact rfl)) | (refine Rd_nil (by kernel_rfl) ?_) | ((with_reducible (first | refine RnG_split (fun h => ?_) (fun h => ?_) | refine RdG_split (fun h => ?_) (fun h => ?_) | refine RnC_split (fun h => ?_) (fun h => ?_))) <;> (have h' := h) <;> (try simp only [decide_eq_true_eq, decide_eq_false_iff_not, Bool.not_eq_true', Bool.not_eq_false', Bool.and_eq_true, Bool.or_eq_true, Bool.or_eq_false_iff, beq_iff_eq, bne_iff_ne, ne_eq, Bool.not_true, Bool.not_false, not_false_eq_true, reduceCtorEq, beq_eq_false_iff_ne, bne_eq_false_iff_eq] at h') <;> (first | apply Rn_st | apply Rd_st)) | (refine Rn_out_ck rfl rfl ?_) | (first | refine Rn_ret_ck ?_ | refine Rn_ret ?_ | refine Rn_nil_then ?_) | (refine LoopN_step (T := []) ?_) | (refine Rn_nil ?_)))
  · intro K0; (try simp only [go_sem]); exact ⟨id⟩
  refine Rn_isnil (sz := 2) rfl (.inl rfl) rfl rfl (Nat.le_of_ble_eq_true rfl) rfl rfl (by kernel_rfl) (fun q hq => ?_)
  apply Rn_o_st
  · intro K0; (try simp only [go_sem]); exact ⟨id⟩
  cases q with
  | true =>
    have h0 : l = [] := by have := hq rfl; simpa using this
    subst h0
    (any_goals refine go lv27 0 ?_)
    repeat' (first | (refine Br.go (fun h h' => ?_) (fun h h' => ?_)) | (refine Br.mk (fun h => ?_) (fun h => ?_)))
    all_goals (try simp only [go_sem])
  | false =>
    clear hq
    (any_goals refine go lv27 0 ?_)
    repeat' (first | (refine Br.go (fun h h' => ?_) (fun h h' => ?_)) | (refine Br.mk (fun h => ?_) (fun h => ?_)))
    all_goals (try simp only [go_sem])
def sp_cloneValP (st : St) (d : Nat) (args : List AV) (K : AV → List Loc → List (Loc × Cont) → Prop) : Prop := match args with
  | [.r (.rs 2 xs)] => (xs = (valsOf xs).map valR ∧ xs.length ≤ 1000000000) ∧ K (ren (fun _ => d) (fun _ => st.cur d) (.os 0 1)) [.R d] [(.R d, .s (1 + st.cur d) (.sl 50 2 ((valsOf xs).map valC)))]
  | _ => False
theorem sp_cloneValP_ok (st : St) (d : Nat) (args : List AV) (K : AV → List Loc → List (Loc × Cont) → Prop) (h : sp_cloneValP st d args K) : ∃ r ls outs, CallR Cx 27 st args r ls outs ∧ K r ls outs := by
  unfold sp_cloneValP at h
  split at h
  · exact ⟨_, _, _, CallR.own (cloneValP_c _ h.1) rfl (cloneValP_rows _) rfl d, h.2⟩
  · exact h.elim
noncomputable def ct_cloneValP : Ct Cx := .res 27 sp_cloneValP en27 sp_cloneValP_ok
@[go_sem] theorem ct_cloneValP_g : ct_cloneValP.g = 27 := rfl
@[go_sem] theorem ct_cloneValP_run (c : Call) (fop : Operand) (caps : List AV) (o : Oper) (st : St) (K : List Loc → List (Loc × Cont) → Prop) : ct_cloneValP.run c fop caps o st K = callG sp_cloneValP c fop caps o st K := rfl
@[go_sem] theorem sp_cloneValP_eq (st : St) (d : Nat) (args : List AV) (K : AV → List Loc → List (Loc × Cont) → Prop) : sp_cloneValP st d args K = (match args with
    | [.r (.rs 2 xs)] => (xs = (valsOf xs).map valR ∧ xs.length ≤ 1000000000) ∧ K (ren (fun _ => d) (fun _ => st.cur d) (.os 0 1)) [.R d] [(.R d, .s (1 + st.cur d) (.sl 50 2 ((valsOf xs).map valC)))]
    | _ => False) := rfl
theorem cloneVal_c (xs : List (List RV)) (h : xs = (valsOf xs).map valR ∧ xs.length ≤ 1000000000) : FC Cx 27 [.r (.rs 2 xs)] [] (valsV (valsOf xs)) [] := (cloneValP_c xs h).freeze1 (roValC _).symm
def sp_cloneVal (args : List AV) (K : AV → Prop) : Prop := match args with
  | [.r (.rs 2 xs)] => (xs = (valsOf xs).map valR ∧ xs.length ≤ 1000000000) ∧ K (valsV (valsOf xs))
  | _ => False
theorem sp_cloneVal_ok (args : List AV) (K : AV → Prop) (h : sp_cloneVal args K) : ∃ r, CallOk Cx 27 args r ∧ K r := by
  unfold sp_cloneVal at h
  split at h
  · exact ⟨_, CallOk_of (cloneVal_c _ h.1) en27 rfl rfl, h.2⟩
  · exact h.elim
noncomputable def ct_cloneVal : Ct Cx := .pure 27 sp_cloneVal sp_cloneVal_ok
@[go_sem] theorem ct_cloneVal_g : ct_cloneVal.g = 27 := rfl
@[go_sem] theorem ct_cloneVal_run (c : Call) (fop : Operand) (caps : List AV) (o : Oper) (st : St) (K : List Loc → List (Loc × Cont) → Prop) : ct_cloneVal.run c fop caps o st K = callT Cx sp_cloneVal c fop caps o st K := rfl
@[go_sem] theorem sp_cloneVal_eq (args : List AV) (K : AV → Prop) : sp_cloneVal args K = (match args with
    | [.r (.rs 2 xs)] => (xs = (valsOf xs).map valR ∧ xs.length ≤ 1000000000) ∧ K (valsV (valsOf xs))
    | _ => False) := rfl
theorem flatStrC (l : List ByteArray) : ∀ row ∈ l.map strC, withinL none0 row = true := fun row h => by
  obtain ⟨x, _, rfl⟩ := List.mem_map.1 h; rfl
@[go_sem] theorem okStrC : ∀ l : List ByteArray, okRows (l.map strC) = true
  | [] => rfl
  | x :: l => okStrC l
@[go_sem] theorem roStrC (l : List ByteArray) : ((l.map strR).map fun r => r.map AV.r) = l.map strC := by rw [List.map_map]; rfl
theorem cloneStrP_rows (xs : List (List RV)) : ∀ row ∈ (strsOf xs).map strC, withinL none0 row = true := flatStrC _
theorem cloneStrP_c (xs : List (List RV)) (h : xs = (strsOf xs).map strR ∧ xs.length ≤ 1000000000) : FC Cx 23 [.r (.rs 1 xs)] [] (.os 0 1) [(0, 1, .sl 9 1 ((strsOf xs).map strC))] := by
  have hl : (strsOf xs).length = xs.length := by simp [strsOf]
  have hlenS : ∀ l : List ByteArray, (l.map strC).length = l.length := fun l => List.length_map ..
  obtain ⟨h1, h2⟩ := h
  generalize strsOf xs = l at h1 hl
  subst h1
  rw [← hl] at h2
  refine FCo_of [] (i := 0) [.os 0 1] Tryz.func23 rfl Tryz.ntmps23 (by simp) Tryz.results23 (flatStrC _) ?_
  apply Rn_st; (intro K0; simp only [go_sem]; exact ⟨id⟩)
  iterate 8 (any_goals (first | (focus (intro K0; (try simp only [go_sem, *]); (first | exact ⟨id⟩ | (refine ⟨fun h => ?_⟩; (repeat' (first | exact h | refine And.intro ?_ ?_ | omega | rfl)); done)))) | (refine Rn_seq ?_) | (refine Rn_block ?_) | (apply Rn_region' lv23; (exact rfl)) | (refine Rn_region ?_) | (apply Rn_op'; (exact rfl)) | (refine Rn_o_nil ?_) | ((first | apply Rn_g | apply Rd_g); (exact rfl); (exact rfl); (focus (intro K0; (try simp only [lookT, ev, Nat.reduceEqDiff, ↓reduceIte]); exact ⟨id⟩))) | (with_reducible (first | apply RnG_yes | apply RdG_yes)) | ((with_reducible (first | apply RnG_t_no | apply RnG_f_no | apply RnG_un | apply RdG_t_no | apply RdG_f_no | apply RdG_un)); (exact rfl)) | ((first | apply RnG_never | apply RdG_never); (focus (intro K0; (try simp only [go_sem]); exact ⟨id⟩)); (exact rfl)) | ((first | apply RnG_lazy | apply RdG_lazy); (exact rfl); (focus (intro K0; (try simp only [go_sem]); exact ⟨id⟩)); (focus (first | (simp only [Nat.reduceLT]; done) | omega)); (focus (intro hw0; (try simp only [Bool.and_eq_true, Bool.not_eq_true', beq_true', beq_false'] at hw0); (focus (intro K0; (try simp only [go_sem, *]); (first | exact ⟨id⟩ | (refine ⟨fun h => ?_⟩; (repeat' (first | exact h | refine And.intro ?_ ?_ | omega | rfl)); done))))))) | (apply Rn_c; (focus (intro K0; (try simp only [lookT, ev, Nat.reduceEqDiff, ↓reduceIte]); exact ⟨id⟩))) | (with_reducible (first | refine RnC_t ?_ | refine RnC_f ?_)) | (refine Rn_skip ?_) | (refine Rn_exit rfl ?_) | (refine Rn_b ?_) | (apply Rn_draw' lv23; (exact rfl)) | (refine Rn_draw ?_) | (apply Rd_op'; (exact rfl)) | (refine Rd_nil (by kernel_rfl) ?_) | ((with_reducible (first | refine RnG_split (fun h => ?_) (fun h => ?_) | refine RdG_split (fun h => ?_) (fun h => ?_) | refine RnC_split (fun h => ?_) (fun h => ?_))) <;> (have h' := h) <;> (try simp only [decide_eq_true_eq, decide_eq_false_iff_not, Bool.not_eq_true', Bool.not_eq_false', Bool.and_eq_true, Bool.or_eq_true, Bool.or_eq_false_iff, beq_iff_eq, bne_iff_ne, ne_eq, Bool.not_true, Bool.not_false, not_false_eq_true, reduceCtorEq, beq_eq_false_iff_ne, bne_eq_false_iff_eq] at h') <;> (first | apply Rn_st | apply Rd_st)) | (refine Rn_out_ck rfl rfl ?_) | (first | refine Rn_ret_ck ?_ | refine Rn_ret ?_ | refine Rn_nil_then ?_) | (refine LoopN_step (T := []) ?_) | (refine Rn_nil ?_)))
  · intro K0; (try simp only [go_sem]); exact ⟨id⟩
  refine Rn_isnil (sz := 1) rfl (.inl rfl) rfl rfl (Nat.le_of_ble_eq_true rfl) rfl rfl (by kernel_rfl) (fun q hq => ?_)
  apply Rn_o_st
  · intro K0; (try simp only [go_sem]); exact ⟨id⟩
  cases q with
  | true =>
    have h0 : l = [] := by have := hq rfl; simpa using this
    subst h0
    (any_goals refine go lv23 0 ?_)
    repeat' (first | (refine Br.go (fun h h' => ?_) (fun h h' => ?_)) | (refine Br.mk (fun h => ?_) (fun h => ?_)))
    all_goals (try simp only [go_sem])
  | false =>
    clear hq
    (any_goals refine go lv23 0 ?_)
    repeat' (first | (refine Br.go (fun h h' => ?_) (fun h h' => ?_)) | (refine Br.mk (fun h => ?_) (fun h => ?_)))
    all_goals (try simp only [go_sem])
def sp_cloneStrP (st : St) (d : Nat) (args : List AV) (K : AV → List Loc → List (Loc × Cont) → Prop) : Prop := match args with
  | [.r (.rs 1 xs)] => (xs = (strsOf xs).map strR ∧ xs.length ≤ 1000000000) ∧ K (ren (fun _ => d) (fun _ => st.cur d) (.os 0 1)) [.R d] [(.R d, .s (1 + st.cur d) (.sl 9 1 ((strsOf xs).map strC)))]
  | _ => False
theorem sp_cloneStrP_ok (st : St) (d : Nat) (args : List AV) (K : AV → List Loc → List (Loc × Cont) → Prop) (h : sp_cloneStrP st d args K) : ∃ r ls outs, CallR Cx 23 st args r ls outs ∧ K r ls outs := by
  unfold sp_cloneStrP at h
  split at h
  · exact ⟨_, _, _, CallR.own (cloneStrP_c _ h.1) rfl (cloneStrP_rows _) rfl d, h.2⟩
  · exact h.elim
noncomputable def ct_cloneStrP : Ct Cx := .res 23 sp_cloneStrP en23 sp_cloneStrP_ok
@[go_sem] theorem ct_cloneStrP_g : ct_cloneStrP.g = 23 := rfl
@[go_sem] theorem ct_cloneStrP_run (c : Call) (fop : Operand) (caps : List AV) (o : Oper) (st : St) (K : List Loc → List (Loc × Cont) → Prop) : ct_cloneStrP.run c fop caps o st K = callG sp_cloneStrP c fop caps o st K := rfl
@[go_sem] theorem sp_cloneStrP_eq (st : St) (d : Nat) (args : List AV) (K : AV → List Loc → List (Loc × Cont) → Prop) : sp_cloneStrP st d args K = (match args with
    | [.r (.rs 1 xs)] => (xs = (strsOf xs).map strR ∧ xs.length ≤ 1000000000) ∧ K (ren (fun _ => d) (fun _ => st.cur d) (.os 0 1)) [.R d] [(.R d, .s (1 + st.cur d) (.sl 9 1 ((strsOf xs).map strC)))]
    | _ => False) := rfl
theorem cloneStr_c (xs : List (List RV)) (h : xs = (strsOf xs).map strR ∧ xs.length ≤ 1000000000) : FC Cx 23 [.r (.rs 1 xs)] [] (strsV (strsOf xs)) [] := (cloneStrP_c xs h).freeze1 (roStrC _).symm
def sp_cloneStr (args : List AV) (K : AV → Prop) : Prop := match args with
  | [.r (.rs 1 xs)] => (xs = (strsOf xs).map strR ∧ xs.length ≤ 1000000000) ∧ K (strsV (strsOf xs))
  | _ => False
theorem sp_cloneStr_ok (args : List AV) (K : AV → Prop) (h : sp_cloneStr args K) : ∃ r, CallOk Cx 23 args r ∧ K r := by
  unfold sp_cloneStr at h
  split at h
  · exact ⟨_, CallOk_of (cloneStr_c _ h.1) en23 rfl rfl, h.2⟩
  · exact h.elim
noncomputable def ct_cloneStr : Ct Cx := .pure 23 sp_cloneStr sp_cloneStr_ok
@[go_sem] theorem ct_cloneStr_g : ct_cloneStr.g = 23 := rfl
@[go_sem] theorem ct_cloneStr_run (c : Call) (fop : Operand) (caps : List AV) (o : Oper) (st : St) (K : List Loc → List (Loc × Cont) → Prop) : ct_cloneStr.run c fop caps o st K = callT Cx sp_cloneStr c fop caps o st K := rfl
@[go_sem] theorem sp_cloneStr_eq (args : List AV) (K : AV → Prop) : sp_cloneStr args K = (match args with
    | [.r (.rs 1 xs)] => (xs = (strsOf xs).map strR ∧ xs.length ≤ 1000000000) ∧ K (strsV (strsOf xs))
    | _ => False) := rfl
@[go_sem] theorem lendR_val (n : Nat) (st : St) : ∀ (l : List (Int × Int)) (K : List Loc → List (List RV) → Prop), lendR (lendC n st) (l.map valC) K = K [] (l.map valR)
  | [], K => rfl
  | x :: l, K => by
    cases n <;> (simp only [List.map_cons, lendR, lendL, lendC]; rw [lendR_val _ st l]; rfl)
@[go_sem] theorem lendR_str (n : Nat) (st : St) : ∀ (l : List ByteArray) (K : List Loc → List (List RV) → Prop), lendR (lendC n st) (l.map strC) K = K [] (l.map strR)
  | [], K => rfl
  | x :: l, K => by
    cases n <;> (simp only [List.map_cons, lendR, lendL, lendC]; rw [lendR_str _ st l]; rfl)
def rowB (R : RV → RV → Prop) : List RV → List RV → Prop
  | [], [] => True
  | x :: l, y :: m => R x y ∧ rowB R l m
  | _, _ => False
def rowsB (R : RV → RV → Prop) : List (List RV) → List (List RV) → Prop
  | [], [] => True
  | x :: l, y :: m => rowB R x y ∧ rowsB R l m
  | _, _ => False
def nilX (R : RV → RV → Prop) : RV → RV → Prop
  | .v (.slice none 0 0), .rs _ [] => True
  | .rs sz rows, .rs sz' rows' => sz = sz' ∧ rowsB R rows rows'
  | _, _ => False
def nilB : Nat → RV → RV → Prop
  | 0, x, y => x = y
  | n + 1, x, y => x = y ∨ nilX (nilB n) x y
theorem rowB_len {R : RV → RV → Prop} : ∀ {l m : List RV}, rowB R l m → m.length = l.length
  | [], [], _ => rfl
  | _ :: _, _ :: _, h => by simp [rowB_len h.2]
  | [], _ :: _, h => h.elim
  | _ :: _, [], h => h.elim
theorem rowB_at {R : RV → RV → Prop} : ∀ {l m : List RV} {j : Nat} {x y : RV}, rowB R l m → l[j]? = some x → m[j]? = some y → R x y
  | x' :: l, y' :: m, 0, x, y, h, hx, hy => by simp at hx hy; subst hx; subst hy; exact h.1
  | x' :: l, y' :: m, j + 1, x, y, h, hx, hy => rowB_at h.2 (by simpa using hx) (by simpa using hy)
  | [], _, _, _, _, _, hx, _ => by simp at hx
  | _ :: _, [], _, _, _, _, _, hy => by simp at hy
theorem rowsB_len {R : RV → RV → Prop} : ∀ {l m : List (List RV)}, rowsB R l m → m.length = l.length
  | [], [], _ => rfl
  | _ :: _, _ :: _, h => by simp [rowsB_len h.2]
  | [], _ :: _, h => h.elim
  | _ :: _, [], h => h.elim
theorem rowsB_at {R : RV → RV → Prop} : ∀ {l m : List (List RV)} {j : Nat} {x y : List RV}, rowsB R l m → l[j]? = some x → m[j]? = some y → rowB R x y
  | x' :: l, y' :: m, 0, x, y, h, hx, hy => by simp at hx hy; subst hx; subst hy; exact h.1
  | x' :: l, y' :: m, j + 1, x, y, h, hx, hy => rowsB_at h.2 (by simpa using hx) (by simpa using hy)
  | [], _, _, _, _, _, hx, _ => by simp at hx
  | _ :: _, [], _, _, _, _, _, hy => by simp at hy
theorem nilB_ok : ∀ (n : Nat) (x y : RV), nilB n x y → NilD x y
  | 0, x, y, h => by have : x = y := h; subst this; exact .same _
  | n + 1, x, y, h => by
    rcases (show x = y ∨ nilX (nilB n) x y from h) with rfl | h2
    · exact .same _
    · replace h := h2
      unfold nilX at h
      split at h
      · exact .nil _
      · obtain ⟨rfl, h⟩ := h
        exact .rs _ _ _ (rowsB_len h) (fun i row row' h1 h2 => rowB_len (rowsB_at h h1 h2)) fun i j row row' x y h1 h2 h3 h4 => nilB_ok n x y (rowB_at (rowsB_at h h1 h2) h3 h4)
      · exact h.elim
theorem FC_nil (n : Nat) {C : Ctx} {f : Nat} {args : List AV} {rs0 : List (Nat × Nat × Res)} {xs ys : List RV} {y : AV} (hf : FC C f args rs0 (.tup [.agg (xs.map .r), y]) []) (h : rowB (nilB n) xs ys) : FC C f args rs0 (.tup [.agg (ys.map .r), y]) [] := by
  refine FC_res hf fun cur g w N v hv => ?_
  cases hv with
  | tup _ us hs hu =>
    refine .tup _ us hs fun j x u hx hju => ?_
    match j with
    | 0 =>
      simp at hx; subst hx
      exact AR.nilD (rowB_len h) (fun j x y hx hy => nilB_ok n x y (rowB_at h hx hy)) (hu 0 _ u rfl hju)
    | 1 => exact hu 1 x u hx hju
    | j + 2 => simp at hx
def startS (p : ProgT) : StateT := ⟨[⟨4, 0, [], []⟩], [(-1, -1)], p.texts, [⟨[⟨0, 0, -1, -1, (5, 0), List.replicate (p.fns.getD 0 fn0).regs.toNat (0, 0), []⟩], 0, 0, (0, 0)⟩], [], [], 0, 0⟩
def emptyS : StateT := ⟨[], [], [], [], [], [], 0, 0⟩
theorem start_no (p : ProgT) (hw : Pwf p) (hp : checkF p ≠ 0) : FC Cx 14 [progV p] [] (.tup [stateV emptyS, Iv (checkF p)]) [] := by
  have d0 : decide (checkF p = 0) = false := by simpa using hp
  refine FC_nil 1 (xs := [.v (.slice none 0 0), .v (.slice none 0 0), .v (.slice none 0 0), .v (.slice none 0 0), .v (.slice none 0 0), .v (.slice none 0 0), .v (.int .i64 0), .v (.int .i64 0)]) (ys := stateR emptyS) ?_ (by simp [rowB, nilB, nilX, emptyS])
  clear hp
  refine FCf_of [ct_check'] Tryz.func14 rfl Tryz.ntmps14 (by simp) Tryz.results14 rfl ?_
  apply Rn_st; (intro K0; simp only [go_sem]; exact ⟨id⟩)
  refine goR (L := []) (n := 0) ?_
  (apply Rn_frzB 1; (exact rfl); (exact rfl); (exact rfl); (intro K0; (try simp only [go_sem]); exact ⟨id⟩))
  (any_goals refine go lv14 0 ?_)
  repeat' (first | (refine Br.go (fun h h' => ?_) (fun h h' => ?_)) | (refine Br.mk (fun h => ?_) (fun h => ?_)))
  all_goals (try simp only [go_sem])
theorem start_yes (p : ProgT) (hw : Pwf p) (hp : checkF p = 0) : FC Cx 14 [progV p] [] (.tup [stateV (startS p), Iv 0]) [] := by
  have d0 : decide (checkF p = 0) = true := by simpa using hp
  have hn := check_some hp
  have l1 : (p.fns.map fnR).length = p.fns.length := List.length_map ..
  have l2 : (p.texts.map strR).length = p.texts.length := List.length_map ..
  obtain ⟨F, hF⟩ : ∃ F, p.fns[0]? = some F := ⟨p.fns[0]'(by omega), List.getElem?_eq_getElem _⟩
  have gF := getD_map fnR hF ([] : List RV)
  have eF : p.fns.getD 0 fn0 = F := by rw [List.getD_eq_getElem?_getD, hF]; rfl
  obtain ⟨hpok, hfun, _, _⟩ := check_fn hw hp (List.mem_of_getElem? hF)
  have htx := hpok.texts
  have hr1 : 1 ≤ F.regs := by
    unfold functionF at hfun
    split at hfun
    · cases hfun
    · omega
  have hr2 := (hpok.fn F (List.mem_of_getElem? hF)).2.1
  obtain ⟨L0, hL0⟩ : ∃ L, L = List.replicate F.regs.toNat ((0 : Int), (0 : Int)) := ⟨_, rfl⟩
  have hz : List.replicate F.regs.toNat [Iv 0, Iv 0] = L0.map valC := by rw [hL0]; simp
  refine FC_nil 3 (xs := [.rs 4 [[.v (.int .i64 4), .v (.int .i64 0), .v (.slice none 0 0), .v (.slice none 0 0)]], .rs 2 [[.v (.int .i64 (-1)), .v (.int .i64 (-1))]], .rs 1 (p.texts.map strR),
    .rs 5 [[.rs 8 [[.v (.int .i64 0), .v (.int .i64 0), .v (.int .i64 (-1)), .v (.int .i64 (-1)), .v (.int .i64 5), .v (.int .i64 0), .rs 2 (L0.map valR), .v (.slice none 0 0)]], .v (.int .i64 0), .v (.int .i64 0), .v (.int .i64 0), .v (.int .i64 0)]],
    .v (.slice none 0 0), .v (.slice none 0 0), .v (.int .i64 0), .v (.int .i64 0)]) (ys := stateR (startS p)) ?_ (by simp [rowB, rowsB, nilB, nilX, startS, hF, hL0])
  clear hL0 eF hp
  refine FCf_of [ct_check', ct_cloneStr] Tryz.func14 rfl Tryz.ntmps14 (by simp) Tryz.results14 rfl ?_
  apply Rn_st; (intro K0; simp only [go_sem]; exact ⟨id⟩)
  refine goR (L := []) (n := 0) ?_
  (apply Rn_frzB 1; (exact rfl); (exact rfl); (exact rfl); (intro K0; (try simp only [go_sem]); exact ⟨id⟩))
  (any_goals refine go (dropL 5 lv14) 0 ?_)
  repeat' (first | (refine Br.go (fun h h' => ?_) (fun h h' => ?_)) | (refine Br.mk (fun h => ?_) (fun h => ?_)))
  (apply Rn_frzS 18 (L0.map valR); (exact rfl); (exact (roValC L0).symm); (exact rfl); (intro K0; (try simp only [go_sem]); exact ⟨id⟩))
  (any_goals refine goN lv14 0 ?_)
  repeat' (first | (refine Br.go (fun h h' => ?_) (fun h h' => ?_)) | (refine Br.mk (fun h => ?_) (fun h => ?_)))
  (apply Rn_closeS 30 0 0 28 [[.r (.v (.int .i64 0)), .r (.v (.int .i64 0)), .r (.v (.int .i64 (-1))), .r (.v (.int .i64 (-1))), .r (.v (.int .i64 5)), .r (.v (.int .i64 0)), .r (.rs 2 (L0.map valR)), .r (.v (.slice none 0 0))]]; (exact rfl); (exact rfl); (exact rfl); (exact (by decide)); (exact rfl); (exact rfl); (intro K0; (try simp only [go_sem]); exact ⟨id⟩))
  (apply Rn_frzD 30 (.rs 5 [[.rs 8 [[.v (.int .i64 0), .v (.int .i64 0), .v (.int .i64 (-1)), .v (.int .i64 (-1)), .v (.int .i64 5), .v (.int .i64 0), .rs 2 (L0.map valR), .v (.slice none 0 0)]], .v (.int .i64 0), .v (.int .i64 0), .v (.int .i64 0), .v (.int .i64 0)]]); (exact rfl); (exact (by simp)); (exact ⟨rfl, rfl, rfl⟩); (exact rfl); (intro K0; (try simp only [go_sem]); exact ⟨id⟩))
  (apply Rn_frzL 21; (exact rfl); (exact rfl); (exact rfl); (intro K0; (try simp only [go_sem]); exact ⟨id⟩))
  (apply Rn_frzL 23; (exact rfl); (exact rfl); (exact rfl); (intro K0; (try simp only [go_sem]); exact ⟨id⟩))
  (any_goals refine go lv14 0 ?_)
  repeat' (first | (refine Br.go (fun h h' => ?_) (fun h h' => ?_)) | (refine Br.mk (fun h => ?_) (fun h => ?_)))
  all_goals (try simp only [go_sem])
end Go.Proofs.YtbhnmolmkembdaaGreatDoor
namespace Go.Proofs.YtbhnmolmkembdaaGreatDoor
set_option linter.unusedVariables false
set_option linter.unusedSimpArgs false
set_option maxHeartbeats 10000000
open Go
set_option maxRecDepth 10000
structure HeapR (s : StateT) : Prop where
  cellN : s.cells.length ≤ 300
  textN : s.texts.length ≤ 300
  saidN : s.said.length ≤ 200
  endN : s.ends.length ≤ 100
  bytes : ∀ t ∈ s.texts, t.size ≤ 200
  valN : ∀ c ∈ s.cells, bigC c = false
  shapes : Sh.checkF s.shapes = 0
  words : 19 ≤ s.texts.length ∧ s.texts.take 19 = wordsL ∧ s.texts.Nodup
  names : ∀ x ∈ s.shapes, x.2 < (s.texts.length : Int)
  cells : ∀ c ∈ s.cells, cellF s c = true
  said : ∀ v ∈ s.said, v.1 = 4 ∧ fitsF s v = true
  ends : ∀ e ∈ s.ends, (0 ≤ e.cell ∧ e.cell ≤ (s.cells.length : Int) - 1) ∧ isF' s e.fn 4 = true
theorem checkS_iff {s : StateT} : checkS s = 0 ↔ HeapR s := by
  have hL : largeS s = false ↔ s.cells.length ≤ 300 ∧ s.texts.length ≤ 300 ∧ s.said.length ≤ 200 ∧ s.ends.length ≤ 100 ∧ (∀ t ∈ s.texts, t.size ≤ 200) ∧ ∀ c ∈ s.cells, bigC c = false := by
    simp only [largeS, Bool.or_eq_false_iff, decide_eq_false_iff_not, List.any_eq_false, Bool.not_eq_true]
    constructor
    · rintro ⟨⟨⟨⟨⟨h1, h2⟩, h3⟩, h4⟩, h5⟩, h6⟩
      exact ⟨by omega, by omega, by omega, by omega, fun t ht => by have := h5 t ht; simp [bigS] at this; omega, h6⟩
    · rintro ⟨h1, h2, h3, h4, h5, h6⟩
      exact ⟨⟨⟨⟨⟨by omega, by omega⟩, by omega⟩, by omega⟩, fun t ht => by have := h5 t ht; simp [bigS]; omega⟩, h6⟩
  unfold checkS
  constructor
  · intro h
    split at h
    · cases h
    rename_i h0
    obtain ⟨a1, a2, a3, a4, a5, a6⟩ := hL.1 (by simpa using h0)
    split at h
    · rename_i h1; exact absurd h h1
    rename_i h1
    split at h
    · cases h
    rename_i h2
    split at h
    · cases h
    rename_i h3
    split at h
    · cases h
    rename_i h4
    simp only [Bool.or_eq_true, not_or, Bool.not_eq_true', Bool.not_eq_false, List.any_eq_true, not_exists, not_and] at h2
    obtain ⟨⟨b1, b2⟩, b3⟩ := h2
    have b1' : (decide (19 ≤ s.texts.length) && decide (s.texts.take 19 = wordsL) && decide s.texts.Nodup) = true := b1
    simp only [Bool.and_eq_true, decide_eq_true_eq] at b1'
    simp only [List.any_eq_true, not_exists, not_and] at h3 h4
    refine ⟨a1, a2, a3, a4, a5, a6, Classical.not_not.1 h1, ⟨b1'.1.1, b1'.1.2, b1'.2⟩, fun x hx => ?_, fun c hc => ?_, fun v hv => ?_, fun e he => ?_⟩
    · have := b2 x hx; simp at this; omega
    · have := b3 c hc; simpa using this
    · have := h3 v hv; simp [badS] at this; exact this
    · have := h4 e he; simp [badE] at this; exact this
  · intro h
    rw [if_neg (by rw [hL.2 ⟨h.cellN, h.textN, h.saidN, h.endN, h.bytes, h.valN⟩]; simp), if_neg (fun h1 => h1 h.shapes), if_neg, if_neg, if_neg]
    · intro h1
      obtain ⟨e, he, h2⟩ := List.any_eq_true.1 h1
      have := h.ends e he
      simp [badE, this.1, this.2] at h2
    · intro h1
      obtain ⟨v, hv, h2⟩ := List.any_eq_true.1 h1
      have := h.said v hv
      simp [badS, this.1, this.2] at h2
    · intro h1
      simp only [Bool.or_eq_true, Bool.not_eq_true', List.any_eq_true] at h1
      rcases h1 with (h1 | ⟨x, hx, h1⟩) | ⟨c, hc, h1⟩
      · have : textsF s.texts = true := by
          unfold textsF
          rw [decide_eq_true h.words.1, decide_eq_true h.words.2.1, decide_eq_true h.words.2.2]; rfl
        rw [this] at h1; cases h1
      · have := h.names x hx; simp at h1; omega
      · rw [h.cells c hc] at h1; cases h1
theorem run_bad {f : FnT} : ∀ (k : Nat) (W : WT), W.bad = true → (runW f k W).bad = true
  | 0, W, h => h
  | k + 1, W, h => by
    show (if goesW W = true then runW f k (stepW f W) else W).bad = true
    rw [if_neg (by unfold goesW; rw [h]; simp)]; exact h
theorem run_To {f : FnT} (hc : Cok f) {t : Int} {l : List (Int × Int)} : ∀ (k : Nat) (W : WT), Wiv f W → To f W t l → To f (runW f k W) t l
  | 0, W, _, h => h
  | k + 1, W, hi, h => by
    show To f (if goesW W = true then runW f k (stepW f W) else W) t l
    split
    · rename_i hg
      have h0 : 0 < W.todo.length := by simp [goesW] at hg; exact hg.1
      obtain ⟨q1, q2, q3, q4⟩ := pop_iv hi h0
      exact run_To hc k _ (step_iv hi hc hg).1 ((from_fr (n := lastT W) q1 hc q3).keeps t l ⟨h.lo, h.hi, h.few, h.seen, h.out⟩)
    · exact h
theorem walk_first {f : FnT} (hc : Cok f) (hb : (walkF f).bad = false) : To f (walkF f) 0 [] := by
  have hb1 : (comeF f 0 [] (W0 f)).bad = false := by
    cases h : (comeF f 0 [] (W0 f)).bad with
    | false => rfl
    | true => have := run_bad (f := f) (2 * f.code.length) _ h; unfold walkF at hb; rw [this] at hb; cases hb
  exact run_To hc _ _ (walk_start hc).1 (come_to (W0_iv f).1 (Int.le_refl 0) hb1)
theorem start_right {p : ProgT} (hw : Pwf p) (hp : checkF p = 0) : RightS p (startS p) := by
  obtain ⟨c1, c2, c3, c4⟩ := check_iff.1 hp
  obtain ⟨l1, l2, l3, l4, l5⟩ := large_iff.1 c1
  obtain ⟨t1, t2, t3, t4⟩ := tables_iff.1 c2
  have hn := check_some hp
  obtain ⟨F, hF⟩ : ∃ F, p.fns[0]? = some F := ⟨p.fns[0]'(by omega), List.getElem?_eq_getElem _⟩
  have eF : p.fns.getD 0 fn0 = F := by rw [List.getD_eq_getElem?_getD, hF]; rfl
  have hm := List.mem_of_getElem? hF
  obtain ⟨hpok, hfun, hcok, hbad⟩ := check_fn hw hp hm
  have hr1 : 1 ≤ F.regs := by
    unfold functionF at hfun
    split at hfun
    · cases hfun
    · omega
  have h1 : F.params = 0 ∧ F.caught.length = 0 ∧ F.gen = false := by
    unfold firstF at c3
    cases hfs : p.fns with
    | nil => rw [hfs] at hn; simp at hn
    | cons a l =>
      rw [hfs] at c3 hF
      simp at hF; subst hF
      simp at c3
      exact ⟨c3.1.1, by simpa using c3.1.2, c3.2⟩
  have hto := walk_first hcok hbad
  have hheap : checkS (startS p) = 0 := checkS_iff.2 ⟨by simp [startS], by simp [startS]; omega, by simp [startS], by simp [startS], l4, fun c hc => by simp [startS] at hc; subst hc; rfl, by
      show Sh.checkF [(-1, -1)] = 0
      unfold Sh.checkF
      rw [if_neg (by simp), if_pos]
      refine ⟨rfl, fun k q hq => by simp at hq⟩, ⟨t1, t2, t3⟩, fun x hx => by simp [startS] at hx; subst hx; show (-1 : Int) < _; omega, fun c hc => by
      simp [startS] at hc; subst hc
      simp [cellF, numF, valsF, framesN], fun v hv => by simp [startS] at hv, fun e he => by simp [startS] at he⟩
  refine ⟨hp, hheap, by simp [manyS, startS], by simp [startS], by simp [startS], by simp [startS], by simp [startS], fun c hc => ?_, fun t ht => ?_, by simp [gensT, gensL, startS], fun k c hk k5 => ?_⟩
  · simp [startS] at hc; subst hc
    unfold heapF
    rw [if_pos rfl]
    show (decide ((0 : Int) < (p.fns.length : Int)) && decide (((0 : Nat) : Int) = ((p.fns.getD 0 fn0).caught.length : Int))) = true
    rw [eF, h1.2.1]
    simp; omega
  · simp [startS] at ht; subst ht
    have hfit : fitsF (startS p) (0, 0) = true := by simp [fitsF, rightF]
    refine ⟨by simp [headF, hfit], ⟨?_, fun h => by cases h⟩, trivial⟩
    have href : refF (startS p) (5, 0) 4 = true := by simp [refF, startS]
    have hall : (List.replicate F.regs.toNat ((0 : Int), (0 : Int))).all (fitsF (startS p)) = true := List.all_eq_true.2 fun v hv => by rw [List.eq_of_mem_replicate hv]; exact hfit
    have hhi := hto.hi
    have h2 := hto.seen
    have h3 := hto.out
    unfold onF frameF
    simp only [Int.toNat_zero, eF, href, hall, h1.2.2, Bool.and_true, Bool.true_and]
    rw [show (0 : Int).toNat = 0 from rfl] at h2 h3
    rw [h2, h3]
    simp only [List.length_replicate]
    have e0 : p.fns[0]?.getD fn0 = F := by rw [hF]; rfl
    rw [e0, hall]
    have a1 : (0 : Int) ≤ (p.fns.length : Int) - 1 := by omega
    have a2 : ((F.regs.toNat : Nat) : Int) = F.regs := by omega
    have a3 : (0 : Int) ≤ (F.code.length : Int) - 1 := by omega
    have a4 : ((startS p).cells.getD 0 cell0).num = 0 := rfl
    simp only [Bool.and_eq_true, decide_eq_true_eq]
    repeat' (first | exact trivial | exact a1 | exact a2 | exact a3 | exact a4 | refine And.intro ?_ ?_ | (simp; done) | omega)
  · have : k = 0 ∧ c.kind = 4 := by
      cases k with
      | zero => simp [startS] at hk; subst hk; exact ⟨rfl, rfl⟩
      | succ k => simp [startS] at hk
    omega
end Go.Proofs.YtbhnmolmkembdaaGreatDoor
namespace Go.Proofs.YtbhnmolmkembdaaGreatDoor
set_option linter.unusedVariables false
set_option linter.unusedSimpArgs false
set_option maxHeartbeats 10000000
open Go
set_option maxRecDepth 10000
theorem eqInt_c (l m : List Int) (hl : l.length ≤ 9223372036854775807) : FC Cx 18 [intsV l, intsV m] [] (Bv (decide (l = m))) [] := by
  have hlen : (l.map intR).length = l.length := List.length_map ..
  have hlen' : (m.map intR).length = m.length := List.length_map ..
  refine FCp_of [] Tryz.func18 rfl Tryz.ntmps18 (by simp) Tryz.results18 rfl ?_
  apply Rn_st; (intro K0; simp only [go_sem]; exact ⟨id⟩)
  (any_goals refine go lv18 0 ?_)
  repeat' (first | (refine Br.go (fun h h' => ?_) (fun h h' => ?_)) | (refine Br.mk (fun h => ?_) (fun h => ?_)))
  · simp only [go_sem]
    have : l ≠ m := fun he => h' (by rw [he])
    simp [this]
  have hlm : l.length = m.length := by omega
  refine Rn_loopT [0, 1, 12, 13] (fun i => i ≤ l.length ∧ ∀ j, j < i → l[j]? = m[j]?) (fun (i : Nat) => ⟨26, [(0, intsV l), (1, intsV m), (12, Iv m.length), (13, Iv i)], []⟩) (fun i => l.length - i) 0 rfl rfl rfl ⟨Nat.zero_le _, fun j hj => by omega⟩ ?_
  rintro i ⟨hi, hno⟩
  by_cases hlt : i < l.length
  · obtain ⟨x, hx⟩ : ∃ x, l[i]? = some x := ⟨l[i], List.getElem?_eq_getElem hlt⟩
    obtain ⟨y, hy⟩ : ∃ y, m[i]? = some y := ⟨m[i], List.getElem?_eq_getElem (by omega)⟩
    have hg := getD_map intR hx ([] : List RV)
    have hg' := getD_map intR hy ([] : List RV)
    have hw : IntKind.i64.wrap ((i : Int) + 1) = ((i + 1 : Nat) : Int) := by rw [wrap_id] <;> omega
    have h1 : decide ((i : Int) < (m.length : Int)) = true := by rw [decide_eq_true_eq]; omega
    have h2 : Int.toNat (i : Int) = i := by omega
    (any_goals refine go lv18 0 ?_)
    repeat' (first | (refine Br.go (fun h h' => ?_) (fun h h' => ?_)) | (refine Br.mk (fun h => ?_) (fun h => ?_)))
    all_goals (try simp only [go_sem])
    · have h9 := h
      have : l ≠ m := fun he => by
        rw [he] at hx; rw [hx] at hy
        have := Option.some.inj hy
        subst this
        simp at h9
      simp [this]
    · refine ⟨i + 1, ⟨by omega, fun j hj => ?_⟩, by omega, Le_keep [0, 1, 12, 13] rfl rfl rfl⟩
      rcases Nat.lt_succ_iff_lt_or_eq.1 hj with h3 | h3
      · exact hno j h3
      · rw [h3, hx, hy]; exact congrArg some (by first | exact h' | exact Prod.ext h'.1 h'.2 | (cases x; cases y; simp_all))
  · have h1 : decide ((i : Int) < (m.length : Int)) = false := by rw [decide_eq_false_iff_not]; omega
    (any_goals refine go lv18 0 ?_)
    repeat' (first | (refine Br.go (fun h h' => ?_) (fun h h' => ?_)) | (refine Br.mk (fun h => ?_) (fun h => ?_)))
    all_goals (try simp only [go_sem])
    have : l = m := List.ext_getElem? fun j => by
      by_cases hj : j < i
      · exact hno j hj
      · rw [List.getElem?_eq_none (by omega), List.getElem?_eq_none (by omega)]
    simp [this]
theorem eqInt'_c (xs ys : List (List RV)) (h : xs = (intsOf xs).map intR ∧ ys = (intsOf ys).map intR ∧ xs.length ≤ 9223372036854775807) : FC Cx 18 [.r (.rs 1 xs), .r (.rs 1 ys)] [] (Bv (decide (intsOf xs = intsOf ys))) [] := by
  have := eqInt_c (intsOf xs) (intsOf ys) (by simpa [intsOf] using h.2.2)
  rwa [intsOf_at h.1, intsOf_at h.2.1] at this
def sp_eqInt' (args : List AV) (K : AV → Prop) : Prop := match args with
  | [.r (.rs 1 xs), .r (.rs 1 ys)] => (xs = (intsOf xs).map intR ∧ ys = (intsOf ys).map intR ∧ xs.length ≤ 9223372036854775807) ∧ K (Bv (decide (intsOf xs = intsOf ys)))
  | _ => False
theorem sp_eqInt'_ok (args : List AV) (K : AV → Prop) (h : sp_eqInt' args K) : ∃ r, CallOk Cx 18 args r ∧ K r := by
  unfold sp_eqInt' at h
  split at h
  · exact ⟨_, CallOk_of (eqInt'_c _ _ h.1) en18 rfl rfl, h.2⟩
  · exact h.elim
noncomputable def ct_eqInt' : Ct Cx := .pure 18 sp_eqInt' sp_eqInt'_ok
@[go_sem] theorem ct_eqInt'_g : ct_eqInt'.g = 18 := rfl
@[go_sem] theorem ct_eqInt'_run (c : Call) (fop : Operand) (caps : List AV) (o : Oper) (st : St) (K : List Loc → List (Loc × Cont) → Prop) : ct_eqInt'.run c fop caps o st K = callT Cx sp_eqInt' c fop caps o st K := rfl
@[go_sem] theorem sp_eqInt'_eq (args : List AV) (K : AV → Prop) : sp_eqInt' args K = (match args with
    | [.r (.rs 1 xs), .r (.rs 1 ys)] => (xs = (intsOf xs).map intR ∧ ys = (intsOf ys).map intR ∧ xs.length ≤ 9223372036854775807) ∧ K (Bv (decide (intsOf xs = intsOf ys)))
    | _ => False) := rfl
def nilT : AV → Prop
  | .r (.rs _ []) => True
  | _ => False
def rowA : List AV → List AV → Prop
  | [], [] => True
  | x :: l, y :: m => (y = x ∨ x = NilS ∧ nilT y) ∧ rowA l m
  | _, _ => False
def rowsA : List (List AV) → List (List AV) → Prop
  | [], [] => True
  | x :: l, y :: m => rowA x y ∧ rowsA l m
  | _, _ => False
theorem rowA_at : ∀ {l m : List AV} {j : Nat} {x y : AV}, rowA l m → l[j]? = some x → m[j]? = some y → y = x ∨ x = NilS ∧ nilT y
  | x' :: l, y' :: m, 0, x, y, h, hx, hy => by simp at hx hy; subst hx; subst hy; exact h.1
  | x' :: l, y' :: m, j + 1, x, y, h, hx, hy => rowA_at h.2 (by simpa using hx) (by simpa using hy)
  | [], _, _, _, _, _, hx, _ => by simp at hx
  | _ :: _, [], _, _, _, _, _, hy => by simp at hy
theorem rowsA_at : ∀ {l m : List (List AV)} {j : Nat} {x y : List AV}, rowsA l m → l[j]? = some x → m[j]? = some y → rowA x y
  | x' :: l, y' :: m, 0, x, y, h, hx, hy => by simp at hx hy; subst hx; subst hy; exact h.1
  | x' :: l, y' :: m, j + 1, x, y, h, hx, hy => rowsA_at h.2 (by simpa using hx) (by simpa using hy)
  | [], _, _, _, _, _, hx, _ => by simp at hx
  | _ :: _, [], _, _, _, _, _, hy => by simp at hy
theorem rowsA_ok {rows rows' : List (List AV)} (h : rowsA rows rows') (i j : Nat) (row row' : List AV) (x x' : AV) (h1 : rows[i]? = some row) (h2 : rows'[i]? = some row') (h3 : row[j]? = some x) (h4 : row'[j]? = some x') (cur : Nat → Nat) (g : Gh) (w : World) (N : Nat → Prop) (v : Value) (hv : AR cur g w N x v) : AR cur g w N x' v := by
  rcases rowA_at (rowsA_at h h1 h2) h3 h4 with rfl | ⟨rfl, hn⟩
  · exact hv
  · rw [inv_v hv]
    unfold nilT at hn
    split at hn
    · exact .r (.nil _)
    · exact hn.elim
theorem Rn_tellL {C : Ctx} {T : List (Ct C)} {r : List It} {st st' : St} {K : Exit → St → Prop} (k : Nat) {ver el sz : Nat} {rows : List (List AV)} (rows' : List (List AV)) (hk : lookR k st.rs = (ver, .sl el sz rows)) (hl : rows'.length = rows.length) (hr : ∀ row ∈ rows', (row.length, noNd row) = (sz, true))
    (hv : rowsA rows rows') (hc : hasC r = true) (hst : ∀ K0 : St → Prop, Imp (K0 st') (K0 { st with rs := putR k (ver, .sl el sz rows') st.rs })) (hk2 : Rn C T r st' K) : Rn C T r st K :=
  Rn_tellS k rows' hk hl hr (rowsA_ok hv) hc hst hk2
theorem fine_c (l : List Int) (hl : l.length ≤ 9223372036854775807) : FC Cx 50 [intsV l] [] (Bv (l.all fun n => decide (n = 0))) [] := by
  have l1 : (l.map intR).length = l.length := List.length_map ..
  refine FCp_of [] Tryz.func50 rfl Tryz.ntmps50 (by simp) Tryz.results50 rfl ?_
  apply Rn_st; (intro K0; simp only [go_sem]; exact ⟨id⟩)
  (any_goals refine go lv50 0 ?_)
  repeat' (first | (refine Br.go (fun h h' => ?_) (fun h h' => ?_)) | (refine Br.mk (fun h => ?_) (fun h => ?_)))
  refine Rn_loopS (fun i : Nat => i ≤ l.length ∧ ∀ j x, j < i → l[j]? = some x → x = 0) (fun i => ⟨14, [(5, intsV l), (6, Iv l.length), (7, Iv i)], []⟩) (fun i => l.length - i) 0 ⟨Nat.zero_le _, fun j x hj => by omega⟩ ?_
  rintro i ⟨hi, hno⟩
  by_cases hlt : i < l.length
  case neg =>
    have e1 : decide ((i : Int) < (l.length : Int)) = false := by rw [decide_eq_false_iff_not]; omega
    have hA : (l.all fun n => decide (n = 0)) = true := List.all_eq_true.2 fun x hx => by
      obtain ⟨j, hj⟩ := List.mem_iff_getElem?.1 hx
      have := (List.getElem?_eq_some_iff.1 hj).1
      simp [hno j x (by omega) hj]
    rw [hA]
    clear hno hA
    (any_goals refine go lv50 0 ?_)
    repeat' (first | (refine Br.go (fun h h' => ?_) (fun h h' => ?_)) | (refine Br.mk (fun h => ?_) (fun h => ?_)))
    all_goals (try simp only [go_sem])
  have e1 : decide ((i : Int) < (l.length : Int)) = true := by rw [decide_eq_true_eq]; omega
  have t1 : Int.toNat (i : Int) = i := by omega
  have w1 : IntKind.i64.wrap ((i : Int) + 1) = ((i + 1 : Nat) : Int) := by rw [wrap_id] <;> omega
  obtain ⟨x, hx⟩ : ∃ v, l[i]? = some v := ⟨l[i], List.getElem?_eq_getElem hlt⟩
  have hg := getD_map intR hx ([] : List RV)
  by_cases h0 : x = 0
  · have d0 : decide (x = 0) = true := by simpa using h0
    have nx : ∀ j y, j < i + 1 → l[j]? = some y → y = 0 := fun j y hj hy => by
      rcases Nat.lt_succ_iff_lt_or_eq.1 hj with h3 | h3
      · exact hno j y h3 hy
      · subst h3; rw [hx] at hy; cases hy; exact h0
    clear h0 hno
    (any_goals refine go lv50 0 ?_)
    repeat' (first | (refine Br.go (fun h h' => ?_) (fun h h' => ?_)) | (refine Br.mk (fun h => ?_) (fun h => ?_)))
    all_goals (try simp only [go_sem])
    exact ⟨i + 1, ⟨by omega, nx⟩, by omega, Le_subA⟩
  · have d0 : decide (x = 0) = false := by simpa using h0
    have hA : (l.all fun n => decide (n = 0)) = false := by
      rw [List.all_eq_false]
      exact ⟨x, List.mem_of_getElem? hx, by simp [h0]⟩
    rw [hA]
    clear h0 hno hA
    (any_goals refine go lv50 0 ?_)
    repeat' (first | (refine Br.go (fun h h' => ?_) (fun h h' => ?_)) | (refine Br.mk (fun h => ?_) (fun h => ?_)))
    all_goals (try simp only [go_sem])
theorem fine'_c (xs : List (List RV)) (h : xs = (intsOf xs).map intR ∧ (intsOf xs).length ≤ 9223372036854775807) : FC Cx 50 [.r (.rs 1 xs)] [] (Bv ((intsOf xs).all fun n => decide (n = 0))) [] := by
  have := fine_c (intsOf xs) h.2
  rwa [intsOf_at h.1] at this
def sp_fine' (args : List AV) (K : AV → Prop) : Prop := match args with
  | [.r (.rs 1 xs)] => (xs = (intsOf xs).map intR ∧ (intsOf xs).length ≤ 9223372036854775807) ∧ K (Bv ((intsOf xs).all fun n => decide (n = 0)))
  | _ => False
theorem sp_fine'_ok (args : List AV) (K : AV → Prop) (h : sp_fine' args K) : ∃ r, CallOk Cx 50 args r ∧ K r := by
  unfold sp_fine' at h
  split at h
  · exact ⟨_, CallOk_of (fine'_c _ h.1) en50 rfl rfl, h.2⟩
  · exact h.elim
noncomputable def ct_fine' : Ct Cx := .pure 50 sp_fine' sp_fine'_ok
@[go_sem] theorem ct_fine'_g : ct_fine'.g = 50 := rfl
@[go_sem] theorem ct_fine'_run (c : Call) (fop : Operand) (caps : List AV) (o : Oper) (st : St) (K : List Loc → List (Loc × Cont) → Prop) : ct_fine'.run c fop caps o st K = callT Cx sp_fine' c fop caps o st K := rfl
@[go_sem] theorem sp_fine'_eq (args : List AV) (K : AV → Prop) : sp_fine' args K = (match args with
    | [.r (.rs 1 xs)] => (xs = (intsOf xs).map intR ∧ (intsOf xs).length ≤ 9223372036854775807) ∧ K (Bv ((intsOf xs).all fun n => decide (n = 0)))
    | _ => False) := rfl
def startF (p : ProgT) : StateT := if checkF p = 0 then startS p else emptyS
theorem start_c (p : ProgT) (hw : Pwf p) : FC Cx 14 [progV p] [] (.tup [stateV (startF p), Iv (checkF p)]) [] := by
  unfold startF
  by_cases hp : checkF p = 0
  · rw [if_pos hp, hp]; exact start_yes p hw hp
  · rw [if_neg hp]; exact start_no p hw hp
theorem start'_c (xs ys zs : List (List RV)) (h : (xs = (fnsOf xs).map fnR ∧ ys = (valsOf ys).map valR ∧ zs = (strsOf zs).map strR) ∧ Pwf ⟨fnsOf xs, valsOf ys, strsOf zs⟩) : FC Cx 14 [.agg [.r (.rs 5 xs), .r (.rs 2 ys), .r (.rs 1 zs)]] [] (.tup [stateV (startF ⟨fnsOf xs, valsOf ys, strsOf zs⟩), Iv (checkF ⟨fnsOf xs, valsOf ys, strsOf zs⟩)]) [] := by
  have := start_c ⟨fnsOf xs, valsOf ys, strsOf zs⟩ h.2
  rwa [prog_at h.1] at this
def sp_start' (args : List AV) (K : AV → Prop) : Prop := match args with
  | [.agg [.r (.rs 5 xs), .r (.rs 2 ys), .r (.rs 1 zs)]] => ((xs = (fnsOf xs).map fnR ∧ ys = (valsOf ys).map valR ∧ zs = (strsOf zs).map strR) ∧ Pwf ⟨fnsOf xs, valsOf ys, strsOf zs⟩) ∧ K (.tup [stateV (startF ⟨fnsOf xs, valsOf ys, strsOf zs⟩), Iv (checkF ⟨fnsOf xs, valsOf ys, strsOf zs⟩)])
  | _ => False
theorem sp_start'_ok (args : List AV) (K : AV → Prop) (h : sp_start' args K) : ∃ r, CallOk Cx 14 args r ∧ K r := by
  unfold sp_start' at h
  split at h
  · exact ⟨_, CallOk_of (start'_c _ _ _ h.1) en14 rfl rfl, h.2⟩
  · exact h.elim
noncomputable def ct_start' : Ct Cx := .pure 14 sp_start' sp_start'_ok
@[go_sem] theorem ct_start'_g : ct_start'.g = 14 := rfl
@[go_sem] theorem ct_start'_run (c : Call) (fop : Operand) (caps : List AV) (o : Oper) (st : St) (K : List Loc → List (Loc × Cont) → Prop) : ct_start'.run c fop caps o st K = callT Cx sp_start' c fop caps o st K := rfl
@[go_sem] theorem sp_start'_eq (args : List AV) (K : AV → Prop) : sp_start' args K = (match args with
    | [.agg [.r (.rs 5 xs), .r (.rs 2 ys), .r (.rs 1 zs)]] => ((xs = (fnsOf xs).map fnR ∧ ys = (valsOf ys).map valR ∧ zs = (strsOf zs).map strR) ∧ Pwf ⟨fnsOf xs, valsOf ys, strsOf zs⟩) ∧ K (.tup [stateV (startF ⟨fnsOf xs, valsOf ys, strsOf zs⟩), Iv (checkF ⟨fnsOf xs, valsOf ys, strsOf zs⟩)])
    | _ => False) := rfl
theorem ready'_c (xs ys zs : List (List RV)) (ca sh tx th en sd : List (List RV)) (aq sq : Int) (h : ((xs = (fnsOf xs).map fnR ∧ ys = (valsOf ys).map valR ∧ zs = (strsOf zs).map strR) ∧ ca = (cellsOf ca).map cellR ∧ sh = (valsOf sh).map valR ∧ tx = (strsOf tx).map strR ∧ th = (threadsOf th).map threadR ∧ en = (endsOf en).map endR ∧ sd = (valsOf sd).map valR) ∧ Pwf ⟨fnsOf xs, valsOf ys, strsOf zs⟩ ∧ Swf ⟨cellsOf ca, valsOf sh, strsOf tx, threadsOf th, endsOf en, valsOf sd, aq, sq⟩) : FC Cx 17 [.agg [.r (.rs 5 xs), .r (.rs 2 ys), .r (.rs 1 zs)], .agg [.r (.rs 4 ca), .r (.rs 2 sh), .r (.rs 1 tx), .r (.rs 5 th), .r (.rs 3 en), .r (.rs 2 sd), Iv aq, Iv sq]] [] (.tup [intsV (readyL ⟨fnsOf xs, valsOf ys, strsOf zs⟩ ⟨cellsOf ca, valsOf sh, strsOf tx, threadsOf th, endsOf en, valsOf sd, aq, sq⟩), Iv (faultS ⟨fnsOf xs, valsOf ys, strsOf zs⟩ ⟨cellsOf ca, valsOf sh, strsOf tx, threadsOf th, endsOf en, valsOf sd, aq, sq⟩)]) [] := by
  have := Ready_c ⟨fnsOf xs, valsOf ys, strsOf zs⟩ ⟨cellsOf ca, valsOf sh, strsOf tx, threadsOf th, endsOf en, valsOf sd, aq, sq⟩ h.2.1 h.2.2
  rwa [prog_at h.1.1, state_at _ _ _ _ _ _ _ _ h.1.2] at this
def sp_ready' (args : List AV) (K : AV → Prop) : Prop := match args with
  | [.agg [.r (.rs 5 xs), .r (.rs 2 ys), .r (.rs 1 zs)], .agg [.r (.rs 4 ca), .r (.rs 2 sh), .r (.rs 1 tx), .r (.rs 5 th), .r (.rs 3 en), .r (.rs 2 sd), .r (.v (.int .i64 aq)), .r (.v (.int .i64 sq))]] => (((xs = (fnsOf xs).map fnR ∧ ys = (valsOf ys).map valR ∧ zs = (strsOf zs).map strR) ∧ ca = (cellsOf ca).map cellR ∧ sh = (valsOf sh).map valR ∧ tx = (strsOf tx).map strR ∧ th = (threadsOf th).map threadR ∧ en = (endsOf en).map endR ∧ sd = (valsOf sd).map valR) ∧ Pwf ⟨fnsOf xs, valsOf ys, strsOf zs⟩ ∧ Swf ⟨cellsOf ca, valsOf sh, strsOf tx, threadsOf th, endsOf en, valsOf sd, aq, sq⟩) ∧ K (.tup [intsV (readyL ⟨fnsOf xs, valsOf ys, strsOf zs⟩ ⟨cellsOf ca, valsOf sh, strsOf tx, threadsOf th, endsOf en, valsOf sd, aq, sq⟩), Iv (faultS ⟨fnsOf xs, valsOf ys, strsOf zs⟩ ⟨cellsOf ca, valsOf sh, strsOf tx, threadsOf th, endsOf en, valsOf sd, aq, sq⟩)])
  | _ => False
theorem sp_ready'_ok (args : List AV) (K : AV → Prop) (h : sp_ready' args K) : ∃ r, CallOk Cx 17 args r ∧ K r := by
  unfold sp_ready' at h
  split at h
  · exact ⟨_, CallOk_of (ready'_c _ _ _ _ _ _ _ _ _ _ _ h.1) en17 rfl rfl, h.2⟩
  · exact h.elim
noncomputable def ct_ready' : Ct Cx := .pure 17 sp_ready' sp_ready'_ok
@[go_sem] theorem ct_ready'_g : ct_ready'.g = 17 := rfl
@[go_sem] theorem ct_ready'_run (c : Call) (fop : Operand) (caps : List AV) (o : Oper) (st : St) (K : List Loc → List (Loc × Cont) → Prop) : ct_ready'.run c fop caps o st K = callT Cx sp_ready' c fop caps o st K := rfl
@[go_sem] theorem sp_ready'_eq (args : List AV) (K : AV → Prop) : sp_ready' args K = (match args with
    | [.agg [.r (.rs 5 xs), .r (.rs 2 ys), .r (.rs 1 zs)], .agg [.r (.rs 4 ca), .r (.rs 2 sh), .r (.rs 1 tx), .r (.rs 5 th), .r (.rs 3 en), .r (.rs 2 sd), .r (.v (.int .i64 aq)), .r (.v (.int .i64 sq))]] => (((xs = (fnsOf xs).map fnR ∧ ys = (valsOf ys).map valR ∧ zs = (strsOf zs).map strR) ∧ ca = (cellsOf ca).map cellR ∧ sh = (valsOf sh).map valR ∧ tx = (strsOf tx).map strR ∧ th = (threadsOf th).map threadR ∧ en = (endsOf en).map endR ∧ sd = (valsOf sd).map valR) ∧ Pwf ⟨fnsOf xs, valsOf ys, strsOf zs⟩ ∧ Swf ⟨cellsOf ca, valsOf sh, strsOf tx, threadsOf th, endsOf en, valsOf sd, aq, sq⟩) ∧ K (.tup [intsV (readyL ⟨fnsOf xs, valsOf ys, strsOf zs⟩ ⟨cellsOf ca, valsOf sh, strsOf tx, threadsOf th, endsOf en, valsOf sd, aq, sq⟩), Iv (faultS ⟨fnsOf xs, valsOf ys, strsOf zs⟩ ⟨cellsOf ca, valsOf sh, strsOf tx, threadsOf th, endsOf en, valsOf sd, aq, sq⟩)])
    | _ => False) := rfl
def sp_same (args : List AV) (K : AV → Prop) : Prop := match args with
  | [.agg [.r (.rs 4 ca), .r (.rs 2 sh), .r (.rs 1 tx), .r (.rs 5 th), .r (.rs 3 en), .r (.rs 2 sd), .r (.v (.int .i64 aq)), .r (.v (.int .i64 sq))], .agg [.r (.rs 4 ca'), .r (.rs 2 sh'), .r (.rs 1 tx'), .r (.rs 5 th'), .r (.rs 3 en'), .r (.rs 2 sd'), .r (.v (.int .i64 aq')), .r (.v (.int .i64 sq'))]] => (((ca = (cellsOf ca).map cellR ∧ sh = (valsOf sh).map valR ∧ tx = (strsOf tx).map strR ∧ th = (threadsOf th).map threadR ∧ en = (endsOf en).map endR ∧ sd = (valsOf sd).map valR) ∧ (ca' = (cellsOf ca').map cellR ∧ sh' = (valsOf sh').map valR ∧ tx' = (strsOf tx').map strR ∧ th' = (threadsOf th').map threadR ∧ en' = (endsOf en').map endR ∧ sd' = (valsOf sd').map valR)) ∧ Swf ⟨cellsOf ca, valsOf sh, strsOf tx, threadsOf th, endsOf en, valsOf sd, aq, sq⟩ ∧ Swf ⟨cellsOf ca', valsOf sh', strsOf tx', threadsOf th', endsOf en', valsOf sd', aq', sq'⟩) ∧ K (Bv (decide (⟨cellsOf ca, valsOf sh, strsOf tx, threadsOf th, endsOf en, valsOf sd, aq, sq⟩ = (⟨cellsOf ca', valsOf sh', strsOf tx', threadsOf th', endsOf en', valsOf sd', aq', sq'⟩ : StateT))))
  | _ => False
theorem sp_same_ok (args : List AV) (K : AV → Prop) (h : sp_same args K) : ∃ r, CallOk Cx 24 args r ∧ K r := by
  unfold sp_same at h
  split at h
  · exact ⟨_, CallOk_of (stSame'_c _ _ _ _ _ _ _ _ _ _ _ _ _ _ _ _ h.1) en24 rfl rfl, h.2⟩
  · exact h.elim
noncomputable def ct_same : Ct Cx := .pure 24 sp_same sp_same_ok
@[go_sem] theorem ct_same_g : ct_same.g = 24 := rfl
@[go_sem] theorem ct_same_run (c : Call) (fop : Operand) (caps : List AV) (o : Oper) (st : St) (K : List Loc → List (Loc × Cont) → Prop) : ct_same.run c fop caps o st K = callT Cx sp_same c fop caps o st K := rfl
attribute [go_sem] sp_same
end Go.Proofs.YtbhnmolmkembdaaGreatDoor
namespace Go.Proofs.YtbhnmolmkembdaaGreatDoor
set_option linter.unusedVariables false
set_option linter.unusedSimpArgs false
set_option maxHeartbeats 10000000
open Go
set_option maxRecDepth 10000
theorem WI_of {n : Int} (h1 : -9223372036854775808 ≤ n) (h2 : n ≤ 9223372036854775807) : WI n := by
  have e1 : IntKind.i64.min = -9223372036854775808 := rfl
  have e2 : IntKind.i64.max = 9223372036854775807 := rfl
  show (decide (IntKind.i64.min ≤ n) && decide (n ≤ IntKind.i64.max)) = true
  rw [e1, e2]
  simp only [Bool.and_eq_true, decide_eq_true_eq]
  exact ⟨h1, h2⟩
theorem check_regs {p : ProgT} (hw : Pwf p) (hp : checkF p = 0) : (p.fns.getD 0 fn0).regs ≤ 60 := by
  have hn := check_some hp
  have hF : p.fns[0]? = some p.fns[0] := List.getElem?_eq_getElem _
  obtain ⟨hpok, _⟩ := check_fn hw hp (List.mem_of_getElem? hF)
  rw [List.getD_eq_getElem?_getD, hF]
  exact (hpok.fn _ (List.mem_of_getElem? hF)).2.1
theorem start_wf {p : ProgT} (hw : Pwf p) : Swf (startF p) := by
  have hsz := hw.sz.texts
  unfold startF
  split
  · rename_i hp
    have hr := check_regs hw hp
    refine ⟨⟨by simp [startS], by simp [startS], by simpa [startS] using hsz, by simp [startS], by simp [startS], by simp [startS]⟩, ?_, fun c hc => ?_, fun t ht => ?_⟩
    · intro q hq
      simp [startS] at hq; subst hq
      exact ⟨WI_of (by simp) (by simp), WI_of (by simp) (by simp)⟩
    · simp [startS] at hc; subst hc
      exact ⟨by simp, by simp, by simp, by simp⟩
    · simp [startS] at ht; subst ht
      refine ⟨by simp, fun f hf => ?_⟩
      simp at hf; subst hf
      refine ⟨?_, by simp, WI_of (by simp) (by simp)⟩
      rw [List.getD_eq_getElem?_getD] at hr
      simp; omega
  · refine ⟨⟨by simp [emptyS], by simp [emptyS], by simp [emptyS], by simp [emptyS], by simp [emptyS], by simp [emptyS]⟩, ?_, fun c hc => by simp [emptyS] at hc, fun t ht => by simp [emptyS] at ht⟩
    intro q hq
    simp [emptyS] at hq
def live0 : ProgT := smallP [⟨28, 0, 0, 0, 0⟩]
def badT : List ThreadT := [⟨[⟨0, 1, 0, 0, (0, 0), [], []⟩], 0, 0, (0, 0)⟩]
theorem live0_check : checkF live0 = 0 := by kernel_rfl
theorem live0_wf : Pwf live0 := small_wf _ (by decide)
theorem start_fault {p : ProgT} (hw : Pwf p) (hp : checkF p = 0) : faultS p (startF p) = 0 := by
  unfold startF; rw [if_pos hp]; exact rightS_iff.2 (start_right hw hp)
theorem start_ready {p : ProgT} (hw : Pwf p) (hp : checkF p = 0) : readyL p (startF p) = [0] := by
  unfold readyL
  rw [start_fault hw hp, if_pos rfl]
  unfold startF; rw [if_pos hp]; rfl
theorem checkS_threads (s : StateT) (ts : List ThreadT) : checkS ⟨s.cells, s.shapes, s.texts, ts, s.ends, s.said, s.asked, s.steps⟩ = checkS s := rfl
theorem bad_fault : faultS live0 ⟨(startF live0).cells, (startF live0).shapes, (startF live0).texts, badT, (startF live0).ends, (startF live0).said, (startF live0).asked, (startF live0).steps⟩ = 3 := by
  unfold faultS
  rw [if_neg (fun h => h live0_check), checkS_threads]
  have hR := rightS_iff.1 (start_fault live0_wf live0_check)
  rw [if_neg (fun h => h hR.heap), if_neg (by simp [manyS, badT]), if_neg]
  intro h
  unfold rightS at h
  simp only [Bool.and_eq_true] at h
  have h1 := (threadsG_true.1 h.1.2).1 _ (List.mem_singleton.2 rfl)
  have h2 := h1.2.1.1
  unfold onF frameF refF at h2
  simp at h2
theorem bad_ne : startF live0 ≠ ⟨(startF live0).cells, (startF live0).shapes, (startF live0).texts, badT, (startF live0).ends, (startF live0).said, (startF live0).asked, (startF live0).steps⟩ := by
  intro h
  have h1 := congrArg StateT.threads h
  have h2 : (startF live0).threads = [⟨[⟨0, 0, -1, -1, (5, 0), List.replicate (live0.fns.getD 0 fn0).regs.toNat (0, 0), []⟩], 0, 0, (0, 0)⟩] := by unfold startF; rw [if_pos live0_check]; rfl
  rw [h2] at h1
  simp [badT] at h1
theorem bad_wf : Swf ⟨(startF live0).cells, (startF live0).shapes, (startF live0).texts, badT, (startF live0).ends, (startF live0).said, (startF live0).asked, (startF live0).steps⟩ := by
  have h := start_wf live0_wf
  obtain ⟨⟨a1, a2, a3, a4, a5, a6⟩, h2, h3, h4⟩ := h
  refine ⟨⟨a1, a2, a3, by simp [badT], a5, a6⟩, h2, h3, fun t ht => ?_⟩
  simp [badT] at ht; subst ht
  refine ⟨by simp, fun f hf => ?_⟩
  simp at hf; subst hf
  exact ⟨by simp, by simp, WI_of (by simp) (by simp)⟩
@[go_sem] theorem threadsOf_cons (k1 k2 k3 k4 : IntKind) (sz : Nat) (fs : List (List RV)) (a b c d : Int) (xs : List (List RV)) : threadsOf ([.rs sz fs, .v (.int k1 a), .v (.int k2 b), .v (.int k3 c), .v (.int k4 d)] :: xs) = ⟨framesOf fs, a, b, (c, d)⟩ :: threadsOf xs := rfl
@[go_sem] theorem threadsOf_nil : threadsOf [] = [] := rfl
@[go_sem] theorem framesOf_cons (k1 k2 k3 k4 k5 k6 : IntKind) (s1 s2 : Nat) (us vs : List (List RV)) (a b c d e f : Int) (xs : List (List RV)) : framesOf ([.v (.int k1 a), .v (.int k2 b), .v (.int k3 c), .v (.int k4 d), .v (.int k5 e), .v (.int k6 f), .rs s1 us, .rs s2 vs] :: xs) = ⟨a, b, c, d, (e, f), valsOf us, triesOf vs⟩ :: framesOf xs := rfl
@[go_sem] theorem framesOf_nil : framesOf [] = [] := rfl
@[go_sem] theorem valsOf_nil : valsOf [] = [] := rfl
@[go_sem] theorem triesOf_nil : triesOf [] = [] := rfl
@[go_sem] theorem intsOf_cons (k : IntKind) (n : Int) (xs : List (List RV)) : intsOf ([.v (.int k n)] :: xs) = n :: intsOf xs := rfl
@[go_sem] theorem intsOf_nil : intsOf [] = [] := rfl
theorem stateLives_c : FC Cx 15 [] [] (Bv true) [] := by
  have hw := live0_wf
  have hck := live0_check
  have hsw := start_wf live0_wf
  have hf := start_fault live0_wf live0_check
  have hr := start_ready live0_wf live0_check
  have hbf := bad_fault
  have hbn := bad_ne
  have hbw := bad_wf
  have hall : (([0, 0] : List Int).all fun n => decide (n = 0)) = true := by decide
  generalize hs : startF live0 = s0 at *
  simp only [live0] at hw hck hf hr hbf hs
  simp only [badT] at hbf hbn hbw
  have hbd := decide_eq_false hbn
  refine FCp_of [ct_small', ct_start', ct_ready', ct_stFault', ct_same, ct_fine', ct_eqInt'] Tryz.func15 rfl Tryz.ntmps15 (by simp) Tryz.results15 rfl ?_
  apply Rn_st; (intro K0; simp only [go_sem]; exact ⟨id⟩)
  (any_goals refine goF ((1000000, [8]) :: dropL 6 lv15) 0 ?_)
  repeat' (first | (refine Br.go (fun h h' => ?_) (fun h h' => ?_)) | (refine Br.mk (fun h => ?_) (fun h => ?_)))
  (apply Rn_tellL 23 [[Iv 0, Iv 1, Iv 0, Iv 0, Iv 0, Iv 0, .r (.rs 2 []), .r (.rs 2 [])]]; (exact rfl); (exact rfl); (exact (by simp [noNd, isNd])); (exact (by simp [rowsA, rowA, nilT])); (exact rfl); (intro K0; (try simp only [go_sem]); exact ⟨id⟩))
  (apply Rn_closeS 25 0 0 23 [[.r (.v (.int .i64 0)), .r (.v (.int .i64 1)), .r (.v (.int .i64 0)), .r (.v (.int .i64 0)), .r (.v (.int .i64 0)), .r (.v (.int .i64 0)), .r (.rs 2 []), .r (.rs 2 [])]]; (exact rfl); (exact rfl); (exact rfl); (exact (by decide)); (exact rfl); (exact rfl); (intro K0; (try simp only [go_sem]); exact ⟨id⟩))
  (apply Rn_frzD 25 (.rs 5 [[.rs 8 [[.v (.int .i64 0), .v (.int .i64 1), .v (.int .i64 0), .v (.int .i64 0), .v (.int .i64 0), .v (.int .i64 0), .rs 2 [], .rs 2 []]], .v (.int .i64 0), .v (.int .i64 0), .v (.int .i64 0), .v (.int .i64 0)]]); (exact rfl); (exact (by simp)); (exact ⟨rfl, rfl, rfl⟩); (exact rfl); (intro K0; (try simp only [go_sem]); exact ⟨id⟩))
  (any_goals refine go lv15 0 ?_)
  repeat' (first | (refine Br.go (fun h h' => ?_) (fun h h' => ?_)) | (refine Br.mk (fun h => ?_) (fun h => ?_)))
  all_goals (try simp only [go_sem])
def sp_stateLives (args : List AV) (K : AV → Prop) : Prop := match args with
  | [] => K (Bv true)
  | _ => False
theorem sp_stateLives_ok (args : List AV) (K : AV → Prop) (h : sp_stateLives args K) : ∃ r, CallOk Cx 15 args r ∧ K r := by
  unfold sp_stateLives at h
  split at h
  · exact ⟨_, CallOk_of (stateLives_c) en15 rfl rfl, h⟩
  · exact h.elim
noncomputable def ct_stateLives : Ct Cx := .pure 15 sp_stateLives sp_stateLives_ok
@[go_sem] theorem ct_stateLives_g : ct_stateLives.g = 15 := rfl
@[go_sem] theorem ct_stateLives_run (c : Call) (fop : Operand) (caps : List AV) (o : Oper) (st : St) (K : List Loc → List (Loc × Cont) → Prop) : ct_stateLives.run c fop caps o st K = callT Cx sp_stateLives c fop caps o st K := rfl
@[go_sem] theorem sp_stateLives_eq (args : List AV) (K : AV → Prop) : sp_stateLives args K = (match args with
    | [] => K (Bv true)
    | _ => False) := rfl
theorem stateStart_c (p : ProgT) (hw : Pwf p) : FC Cx 3 [progV p] [] (Bv true) [] := by
  have hsw := start_wf hw
  by_cases hp : checkF p = 0
  · have hf := start_fault hw hp
    have hr := start_ready hw hp
    generalize hs : startF p = s0 at *
    refine FCp_of [ct_stateLives, ct_start', ct_check', ct_ready', ct_stFault', ct_eqInt'] Tryz.func3 rfl Tryz.ntmps3 (by simp) Tryz.results3 rfl ?_
    apply Rn_st; (intro K0; simp only [go_sem]; exact ⟨id⟩)
    refine goR (L := []) (n := 0) ?_
    (apply Rn_frzB 1; (exact rfl); (exact rfl); (exact rfl); (intro K0; (try simp only [go_sem]); exact ⟨id⟩))
    (any_goals refine go lv3 0 ?_)
    repeat' (first | (refine Br.go (fun h h' => ?_) (fun h h' => ?_)) | (refine Br.mk (fun h => ?_) (fun h => ?_)))
    all_goals (try simp only [go_sem])
  · have d0 : decide (checkF p = 0) = false := by simpa using hp
    clear hp
    generalize hs : startF p = s0 at *
    refine FCp_of [ct_stateLives, ct_start', ct_check', ct_ready', ct_stFault', ct_eqInt'] Tryz.func3 rfl Tryz.ntmps3 (by simp) Tryz.results3 rfl ?_
    apply Rn_st; (intro K0; simp only [go_sem]; exact ⟨id⟩)
    refine goR (L := []) (n := 0) ?_
    (apply Rn_frzB 1; (exact rfl); (exact rfl); (exact rfl); (intro K0; (try simp only [go_sem]); exact ⟨id⟩))
    (any_goals refine go lv3 0 ?_)
    repeat' (first | (refine Br.go (fun h h' => ?_) (fun h h' => ?_)) | (refine Br.mk (fun h => ?_) (fun h => ?_)))
    all_goals (try simp only [go_sem])
end Go.Proofs.YtbhnmolmkembdaaGreatDoor
namespace Go.Proofs.YtbhnmolmkembdaaGreatDoor
set_option linter.unusedVariables false
set_option linter.unusedSimpArgs false
set_option maxHeartbeats 10000000
open Go
set_option maxRecDepth 10000
structure Keeps (s t : StateT) : Prop where
  texts : s.texts.length ≤ t.texts.length
  cells : ∀ (k : Nat) (c : CellT), s.cells[k]? = some c → ∃ c', t.cells[k]? = some c' ∧ c'.kind = c.kind ∧ (c.kind = 4 → c'.num = c.num)
theorem Keeps.at {s t : StateT} (h : Keeps s t) {n : Nat} (hn : n < s.cells.length) : n < t.cells.length ∧ (t.cells.getD n cell0).kind = (s.cells.getD n cell0).kind ∧ ((s.cells.getD n cell0).kind = 4 → (t.cells.getD n cell0).num = (s.cells.getD n cell0).num) := by
  have h0 : s.cells[n]? = some s.cells[n] := List.getElem?_eq_getElem hn
  obtain ⟨c', h1, h2, h3⟩ := h.cells n _ h0
  have e1 : s.cells.getD n cell0 = s.cells[n] := by rw [List.getD_eq_getElem?_getD, h0]; rfl
  have e2 : t.cells.getD n cell0 = c' := by rw [List.getD_eq_getElem?_getD, h1]; rfl
  rw [e1, e2]
  exact ⟨(List.getElem?_eq_some_iff.1 h1).1, h2, h3⟩
theorem Keeps.fits {s t : StateT} (h : Keeps s t) {v : Int × Int} (hv : fitsF s v = true) : fitsF t v = true := by
  unfold fitsF at hv ⊢
  simp only [Bool.and_eq_true] at hv ⊢
  refine ⟨hv.1, ?_⟩
  have h2 := hv.2
  by_cases k4 : v.1 = 4
  · rw [if_pos k4] at h2 ⊢
    have := h.texts
    simp at h2 ⊢; omega
  · rw [if_neg k4] at h2 ⊢
    by_cases k5 : v.1 = 5
    · rw [if_pos k5] at h2 ⊢
      have h0 := right_lo hv.1 (.inr k5)
      simp only [Bool.and_eq_true, decide_eq_true_eq, Bool.not_eq_true', decide_eq_false_iff_not] at h2 ⊢
      obtain ⟨q1, q2, _⟩ := h.at (n := v.2.toNat) (by omega)
      exact ⟨by omega, by rw [q2]; exact h2.2⟩
    · rw [if_neg k5]
theorem Keeps.ref {s t : StateT} (h : Keeps s t) {v : Int × Int} {q : Int} (hv : refF s v q = true) : refF t v q = true := by
  unfold refF at hv ⊢
  simp only [Bool.and_eq_true, decide_eq_true_eq] at hv ⊢
  obtain ⟨⟨⟨a, b⟩, c⟩, d⟩ := hv
  obtain ⟨q1, q2, _⟩ := h.at (n := v.2.toNat) (by omega)
  exact ⟨⟨⟨a, b⟩, by omega⟩, by rw [q2]; exact d⟩
theorem Keeps.is {s t : StateT} (h : Keeps s t) {v : Int × Int} {q : Int} (hv : isF' s v q = true) : isF' t v q = true := by
  unfold isF' at hv ⊢
  simp only [Bool.and_eq_true, decide_eq_true_eq] at hv ⊢
  obtain ⟨⟨a, b⟩, c⟩ := hv
  have hr := fits_ref (s := s) (n := v.2) (by rw [← b]; exact a)
  obtain ⟨_, q2, _⟩ := h.at (n := v.2.toNat) (by omega)
  exact ⟨⟨h.fits a, b⟩, by rw [q2]; exact c⟩
theorem Keeps.all {s t : StateT} (h : Keeps s t) {l : List (Int × Int)} (hv : l.all (fitsF s) = true) : l.all (fitsF t) = true :=
  List.all_eq_true.2 fun v hm => h.fits (List.all_eq_true.1 hv v hm)
theorem Keeps.held {s t : StateT} (h : Keeps s t) {f : FrameT} (hf : heldF s f = true) : heldF t f = true := by
  unfold heldF at hf ⊢
  simp only [Bool.and_eq_true] at hf ⊢
  exact ⟨h.all hf.1, h.fits hf.2⟩
theorem Keeps.frame {s t : StateT} (h : Keeps s t) {p : ProgT} {f : FrameT} (hf : frameF p s f = true) : frameF p t f = true := by
  unfold frameF at hf ⊢
  simp only [Bool.and_eq_true, decide_eq_true_eq] at hf ⊢
  obtain ⟨⟨⟨⟨⟨⟨⟨a1, a2⟩, a3⟩, a4⟩, a5⟩, a6⟩, a7⟩, a8⟩ := hf
  have hr := a2
  unfold refF at hr
  simp only [Bool.and_eq_true, decide_eq_true_eq] at hr
  obtain ⟨_, _, q3⟩ := h.at (n := f.self.2.toNat) (by have := hr.1.2; have := hr.1.1.2; omega)
  exact ⟨⟨⟨⟨⟨⟨⟨a1, h.ref a2⟩, by rw [q3 hr.2]; exact a3⟩, a4⟩, a5⟩, a6⟩, a7⟩, h.all a8⟩
theorem Keeps.saved {s t : StateT} (h : Keeps s t) {p : ProgT} {f : FrameT} (hf : savedF p s f = true) : savedF p t f = true := by
  unfold savedF at hf ⊢
  simp only [Bool.and_eq_true] at hf ⊢
  exact ⟨⟨⟨⟨h.frame hf.1.1.1.1, hf.1.1.1.2⟩, hf.1.1.2⟩, hf.1.2⟩, hf.2⟩
theorem Keeps.heap {s t : StateT} (h : Keeps s t) {p : ProgT} {c : CellT} (hc : heapF p s c = true) : heapF p t c = true := by
  unfold heapF at hc ⊢
  split at hc
  · rename_i h1; rw [if_pos h1]; exact hc
  · rename_i h1
    rw [if_neg h1]
    split at hc
    · rename_i h2
      rw [if_pos h2]
      simp only [Bool.or_eq_true] at hc ⊢
      exact hc.imp id h.saved
    · rename_i h2; rw [if_neg h2]
theorem Keeps.cell {s t : StateT} (h : Keeps s t) (hsh : t.shapes = s.shapes) {c : CellT} (hc : cellF s c = true) : cellF t c = true := by
  unfold cellF at hc ⊢
  simp only [Bool.and_eq_true] at hc ⊢
  obtain ⟨⟨⟨⟨⟨a1, a2⟩, a3⟩, a4⟩, a5⟩, a6⟩ := hc
  have hn : numF t c = numF s c := by unfold numF; rw [hsh]
  refine ⟨⟨⟨⟨⟨a1, by rw [hn]; exact a2⟩, ?_⟩, a4⟩, h.all a5⟩, List.all_eq_true.2 fun f hf => h.held (List.all_eq_true.1 a6 f hf)⟩
  unfold valsF at a3 ⊢
  split at a3
  · rename_i h1; rw [if_pos h1, hn, hsh]; exact a3
  · rename_i h1
    rw [if_neg h1]
    split at a3
    · rename_i h2; rw [if_pos h2]
    · rename_i h2
      rw [if_neg h2]
      split at a3
      · rename_i h3; rw [if_pos h3]; exact a3
      · rename_i h3
        rw [if_neg h3]
        split at a3
        · rename_i h4
          rw [if_pos h4]
          rw [Bool.not_eq_true', List.any_eq_false] at a3 ⊢
          intro v hv
          have := a3 v hv
          simp only [Bool.not_eq_true, Bool.not_eq_false'] at this ⊢
          exact h.is this
        · rename_i h4; rw [if_neg h4]; exact a3
structure Runs (s t : StateT) : Prop where
  keeps : Keeps s t
  num : ∀ (k : Nat) (c : CellT), s.cells[k]? = some c → c.kind = 5 → c.num = 1 → ∃ c', t.cells[k]? = some c' ∧ c'.num = 1
theorem Runs.goes {s t : StateT} (h : Runs s t) {k : Nat} {f : FrameT} (hf : goesF s k f = true) : goesF t k f = true := by
  unfold goesF at hf ⊢
  simp only [Bool.and_eq_true] at hf ⊢
  refine ⟨⟨hf.1.1, h.keeps.ref hf.1.2⟩, ?_⟩
  have hr := hf.1.2
  unfold refF at hr
  simp only [Bool.and_eq_true, decide_eq_true_eq] at hr
  have hlt : f.gen.toNat < s.cells.length := by have := hr.1.2; have := hr.1.1.2; omega
  have h0 : s.cells[f.gen.toNat]? = some s.cells[f.gen.toNat] := List.getElem?_eq_getElem hlt
  have e1 : s.cells.getD f.gen.toNat cell0 = s.cells[f.gen.toNat] := by rw [List.getD_eq_getElem?_getD, h0]; rfl
  have h3 := hr.2
  have h4 := hf.2
  simp only [decide_eq_true_eq] at h4
  rw [e1] at h4
  simp only [e1] at h3
  obtain ⟨c', q1, q2⟩ := h.num _ _ h0 h3 h4
  have e2 : t.cells.getD f.gen.toNat cell0 = c' := by rw [List.getD_eq_getElem?_getD, q1]; rfl
  rw [e2]; simp [q2]
theorem Runs.on {s t : StateT} (h : Keeps s t) {p : ProgT} {low : Int} {f : FrameT} (hf : onF p s low f = true) : onF p t low f = true := by
  unfold onF at hf ⊢
  simp only [Bool.and_eq_true] at hf ⊢
  exact ⟨⟨⟨h.frame hf.1.1.1, hf.1.1.2⟩, hf.1.2⟩, hf.2⟩
theorem Runs.stack {s t : StateT} (h : Runs s t) {p : ProgT} : ∀ {fs : List FrameT} {k : Nat} {low : Int}, stackR p s k low fs → stackR p t k low fs
  | [], _, _, _ => trivial
  | f :: fs, k, low, hs => ⟨⟨Runs.on h.keeps hs.1.1, fun h0 => h.goes (hs.1.2 h0)⟩, Runs.stack h hs.2⟩
theorem Keeps.head {s t : StateT} (h : Keeps s t) (hl : s.threads.length ≤ t.threads.length) {p : ProgT} {x : ThreadT} (hx : headF p s x = true) : headF p t x = true := by
  unfold headF at hx ⊢
  simp only [Bool.and_eq_true] at hx ⊢
  refine ⟨⟨⟨hx.1.1.1, h.fits hx.1.1.2⟩, hx.1.2⟩, ?_⟩
  have h2 := hx.2
  split at h2
  · rename_i s1; rw [if_pos s1]; exact h.ref h2
  · rename_i s1
    rw [if_neg s1]
    split at h2
    · rename_i s2; rw [if_pos s2]; simp at h2 ⊢; omega
    · rename_i s2; rw [if_neg s2]; exact h2
def moreS (s : StateT) (c : CellT) (t : ByteArray) : StateT := ⟨s.cells ++ [c], s.shapes, s.texts ++ [t], s.threads, s.ends, s.said, s.asked, s.steps⟩
theorem more_keeps (s : StateT) (c : CellT) (t : ByteArray) : Runs s (moreS s c t) := by
  have hat : ∀ (k : Nat) (c' : CellT), s.cells[k]? = some c' → (moreS s c t).cells[k]? = some c' := fun k c' hk => by
    have := (List.getElem?_eq_some_iff.1 hk).1
    show (s.cells ++ [c])[k]? = some c'
    rw [List.getElem?_append_left this]; exact hk
  exact ⟨⟨by simp [moreS], fun k c' hk => ⟨c', hat k c' hk, rfl, fun _ => rfl⟩⟩, fun k c' hk _ n1 => ⟨c', hat k c' hk, n1⟩⟩
theorem take_more {l m : List ByteArray} {n : Nat} (h : n ≤ l.length) : (l ++ m).take n = l.take n := by
  rw [List.take_append_of_le_length h]
theorem more_right {p : ProgT} {s : StateT} {t : ByteArray} (h : RightS p s) (h1 : s.cells.length < 300) (h2 : s.texts.length < 300) (h3 : t.size ≤ 200) (h4 : t ∉ s.texts) :
    RightS p (moreS s ⟨2, 0, [(5, (s.cells.length : Int))], []⟩ t) := by
  have hk := more_keeps s ⟨2, 0, [(5, (s.cells.length : Int))], []⟩ t
  have hh := checkS_iff.1 h.heap
  have hn : p.texts.length ≤ s.texts.length := by
    have := congrArg List.length h.texts
    rw [List.length_take] at this; omega
  have hnew : fitsF (moreS s ⟨2, 0, [(5, (s.cells.length : Int))], []⟩ t) (5, (s.cells.length : Int)) = true := by
    simp [fitsF, rightF, moreS]; omega
  generalize hm : moreS s ⟨2, 0, [(5, (s.cells.length : Int))], []⟩ t = m at *
  have ec : m.cells = s.cells ++ [⟨2, 0, [(5, (s.cells.length : Int))], []⟩] := by rw [← hm]; rfl
  have et : m.texts = s.texts ++ [t] := by rw [← hm]; rfl
  have esh : m.shapes = s.shapes := by rw [← hm]; rfl
  have eth : m.threads = s.threads := by rw [← hm]; rfl
  have een : m.ends = s.ends := by rw [← hm]; rfl
  have esa : m.said = s.said := by rw [← hm]; rfl
  have eas : m.asked = s.asked := by rw [← hm]; rfl
  have est : m.steps = s.steps := by rw [← hm]; rfl
  have hheap : HeapR m := by
    refine ⟨by rw [ec]; simp; omega, by rw [et]; simp; omega, by rw [esa]; exact hh.saidN, by rw [een]; exact hh.endN, fun x hx => ?_, fun c hc => ?_, by rw [esh]; exact hh.shapes, ⟨by rw [et]; have := hh.words.1; simp; omega, ?_, ?_⟩, fun x hx => ?_, fun c hc => ?_, fun v hv => ?_, fun e he => ?_⟩
    · rw [et] at hx
      rcases List.mem_append.1 hx with hx | hx
      · exact hh.bytes x hx
      · simp at hx; subst hx; exact h3
    · rw [ec] at hc
      rcases List.mem_append.1 hc with hc | hc
      · exact hh.valN c hc
      · simp at hc; subst hc; rfl
    · rw [et, take_more hh.words.1]; exact hh.words.2.1
    · rw [et]
      exact List.nodup_append.2 ⟨hh.words.2.2, by simp, fun a ha b hb => by simp at hb; subst hb; exact fun e => h4 (e ▸ ha)⟩
    · rw [esh] at hx
      have := hh.names x hx
      rw [et]; simp; omega
    · rw [ec] at hc
      rcases List.mem_append.1 hc with hc | hc
      · exact hk.keeps.cell esh (hh.cells c hc)
      · simp at hc; subst hc
        unfold cellF
        simp [numF, valsF, framesN, hnew]
    · rw [esa] at hv
      exact ⟨(hh.said v hv).1, hk.keeps.fits (hh.said v hv).2⟩
    · rw [een] at he
      obtain ⟨⟨e1, e2⟩, e3⟩ := hh.ends e he
      exact ⟨⟨e1, by rw [ec]; simp; omega⟩, hk.keeps.is e3⟩
  refine ⟨h.prog, checkS_iff.2 hheap, ?_, by rw [et, take_more hn]; exact h.texts, by rw [est]; exact h.steps, by rw [eas]; exact h.asked, by rw [eth]; exact h.any, fun c hc => ?_, fun x hx => ?_, by rw [eth]; exact h.gens, fun k c hkc k5 n1 => ?_⟩
  · have := h.few
    unfold manyS at this ⊢
    rw [eth]; exact this
  · rw [ec] at hc
    rcases List.mem_append.1 hc with hc | hc
    · exact hk.keeps.heap (h.cells c hc)
    · simp at hc; subst hc; rfl
  · rw [eth] at hx
    obtain ⟨q1, q2⟩ := h.threads x hx
    exact ⟨hk.keeps.head (by rw [eth]; exact Nat.le_refl _) q1, hk.stack q2⟩
  · rw [eth]
    rw [ec] at hkc
    by_cases hlt : k < s.cells.length
    · rw [List.getElem?_append_left hlt] at hkc
      exact h.runs k c hkc k5 n1
    · rw [List.getElem?_append_right (by omega)] at hkc
      have : c = ⟨2, 0, [(5, (s.cells.length : Int))], []⟩ := by
        have := List.mem_of_getElem? hkc
        simpa using this
      subst this; cases k5
theorem more_ne (s : StateT) (c : CellT) (t : ByteArray) : s ≠ moreS s c t := fun h => by
  have := congrArg (fun x => x.cells.length) h
  simp [moreS] at this
end Go.Proofs.YtbhnmolmkembdaaGreatDoor
namespace Go.Proofs.YtbhnmolmkembdaaGreatDoor
set_option linter.unusedVariables false
set_option linter.unusedSimpArgs false
set_option maxHeartbeats 10000000
open Go
def elB : AV → RV → Prop
  | .r z, y => z = y
  | .nd _ s rs, y => y = .rs s (ndRs rs)
  | _, _ => False
def rowEB : List AV → List RV → Prop
  | [], [] => True
  | x :: l, y :: m => elB x y ∧ rowEB l m
  | _, _ => False
def rowsEB : List (List AV) → List (List RV) → Prop
  | [], [] => True
  | x :: l, y :: m => rowEB x y ∧ rowsEB l m
  | _, _ => False
theorem rowEB_len : ∀ {l : List AV} {m : List RV}, rowEB l m → m.length = l.length
  | [], [], _ => rfl
  | _ :: _, _ :: _, h => by simp [rowEB_len h.2]
  | [], _ :: _, h => h.elim
  | _ :: _, [], h => h.elim
theorem rowEB_at : ∀ {l : List AV} {m : List RV} {j : Nat} {x : AV} {y : RV}, rowEB l m → l[j]? = some x → m[j]? = some y → elB x y
  | x' :: l, y' :: m, 0, x, y, h, hx, hy => by simp at hx hy; subst hx; subst hy; exact h.1
  | x' :: l, y' :: m, j + 1, x, y, h, hx, hy => rowEB_at h.2 (by simpa using hx) (by simpa using hy)
  | [], _, _, _, _, _, hx, _ => by simp at hx
  | _ :: _, [], _, _, _, _, _, hy => by simp at hy
theorem rowsEB_len : ∀ {l : List (List AV)} {m : List (List RV)}, rowsEB l m → m.length = l.length
  | [], [], _ => rfl
  | _ :: _, _ :: _, h => by simp [rowsEB_len h.2]
  | [], _ :: _, h => h.elim
  | _ :: _, [], h => h.elim
theorem rowsEB_at : ∀ {l : List (List AV)} {m : List (List RV)} {j : Nat} {x : List AV} {y : List RV}, rowsEB l m → l[j]? = some x → m[j]? = some y → rowEB x y
  | x' :: l, y' :: m, 0, x, y, h, hx, hy => by simp at hx hy; subst hx; subst hy; exact h.1
  | x' :: l, y' :: m, j + 1, x, y, h, hx, hy => rowsEB_at h.2 (by simpa using hx) (by simpa using hy)
  | [], _, _, _, _, _, hx, _ => by simp at hx
  | _ :: _, [], _, _, _, _, _, hy => by simp at hy
theorem rowsEB_app : ∀ {l l' : List (List AV)} {m m' : List (List RV)}, rowsEB l m → rowsEB l' m' → rowsEB (l ++ l') (m ++ m')
  | [], _, [], _, _, h' => h'
  | _ :: _, _, _ :: _, _, h, h' => ⟨h.1, rowsEB_app h.2 h'⟩
  | [], _, _ :: _, _, h, _ => h.elim
  | _ :: _, _, [], _, h, _ => h.elim
theorem rowsEB_map {α : Type} {f : α → List AV} {g : α → List RV} (h : ∀ x, rowEB (f x) (g x)) : ∀ {l : List α}, rowsEB (l.map f) (l.map g)
  | [] => trivial
  | x :: _ => ⟨h x, rowsEB_map h⟩
theorem rowsEB_set : ∀ {l : List (List AV)} {m : List (List RV)} {i : Nat} {x : List AV} {y : List RV}, rowsEB l m → rowEB x y → rowsEB (l.set i x) (m.set i y)
  | [], [], _, _, _, h, _ => h
  | _ :: _, _ :: _, 0, _, _, h, hx => ⟨hx, h.2⟩
  | _ :: _, _ :: _, i + 1, _, _, h, hx => ⟨h.1, rowsEB_set h.2 hx⟩
  | [], _ :: _, _, _, _, h, _ => h.elim
  | _ :: _, [], _, _, _, h, _ => h.elim
theorem elB_bor {ls : List Loc} {st : St} {x : AV} {y : RV} (h : elB x y) : Bor ls st x (.r y) := by
  unfold elB at h
  split at h
  · subst h; exact .same _ rfl
  · subst h; exact .nd _ _ _
  · exact h.elim
theorem Bor_rows {st : St} {k ver e sz : Nat} {rows : List (List AV)} {rowsR : List (List RV)} (hk : lookR k st.rs = (ver, .sl e sz rows)) (h : rowsEB rows rowsR) : Bor [.R k] st (.os k ver) (.r (.rs sz rowsR)) :=
  .sl k ver e sz rows rowsR (by simp) hk (rowsEB_len h) (fun i row rowR h1 h2 => rowEB_len (rowsEB_at h h1 h2)) fun i j row rowR x y h1 h2 h3 h4 => elB_bor (rowEB_at (rowsEB_at h h1 h2) h3 h4)
section
variable {C : Ctx} {T : List (Ct C)} {r : List It} {st st' : St} {K : Exit → St → Prop}
theorem Rn_frzX (k : Nat) {ver e sz : Nat} {rows : List (List AV)} (rowsR : List (List RV)) (hk : lookR k st.rs = (ver, .sl e sz rows)) (h : rowsEB rows rowsR) (hr : hasC r = true) (hst : ∀ K0 : St → Prop, Imp (K0 st') (K0 (frzSt k ver (.rs sz rowsR) st))) (hk2 : Rn C T r st' K) : Rn C T r st K := by
  have hk' := (hst fun s => Rn C T r s K).run hk2
  exact Rn_up hr (fun e a w ⟨ho, g, hs⟩ => ⟨ho, g, hs.frz hk (by simp) (Bor_rows hk h)⟩) hk'
end
end Go.Proofs.YtbhnmolmkembdaaGreatDoor
namespace Go.Proofs.YtbhnmolmkembdaaGreatDoor
set_option linter.unusedVariables false
set_option linter.unusedSimpArgs false
set_option maxHeartbeats 10000000
open Go
set_option maxRecDepth 10000
abbrev cellC (c : CellT) : List AV := [Iv c.kind, Iv c.num, valsV c.vals, framesV c.frames]
theorem flatCellC (l : List CellT) : ∀ row ∈ l.map cellC, withinL none0 row = true := fun row h => by
  obtain ⟨x, _, rfl⟩ := List.mem_map.1 h; rfl
@[go_sem] theorem okCellC : ∀ l : List CellT, okRows (l.map cellC) = true
  | [] => rfl
  | x :: l => okCellC l
@[go_sem] theorem roCellC (l : List CellT) : ((l.map cellR).map fun r => r.map AV.r) = l.map cellC := by rw [List.map_map]; rfl
theorem cloneCellP_rows (xs : List (List RV)) : ∀ row ∈ (cellsOf xs).map cellC, withinL none0 row = true := flatCellC _
theorem cloneCellP_c (xs : List (List RV)) (h : xs = (cellsOf xs).map cellR ∧ xs.length ≤ 1000000000) : FC Cx 21 [.r (.rs 4 xs)] [] (.os 0 1) [(0, 1, .sl 48 4 ((cellsOf xs).map cellC))] := by
  have hl : (cellsOf xs).length = xs.length := by simp [cellsOf]
  have hlenS : ∀ l : List CellT, (l.map cellC).length = l.length := fun l => List.length_map ..
  obtain ⟨h1, h2⟩ := h
  generalize cellsOf xs = l at h1 hl
  subst h1
  rw [← hl] at h2
  refine FCo_of [] (i := 0) [.os 0 1] Tryz.func21 rfl Tryz.ntmps21 (by simp) Tryz.results21 (flatCellC _) ?_
  apply Rn_st; (intro K0; simp only [go_sem]; exact ⟨id⟩)
  iterate 8 (any_goals (first | (focus (intro K0; (try simp only [go_sem, *]); (first | exact ⟨id⟩ | (refine ⟨fun h => ?_⟩; (repeat' (first | exact h | refine And.intro ?_ ?_ | omega | rfl)); done)))) | (refine Rn_seq ?_) | (refine Rn_block ?_) | (apply Rn_region' lv21; (exact rfl)) | (refine Rn_region ?_) | (apply Rn_op'; (exact rfl)) | (refine Rn_o_nil ?_) | ((first | apply Rn_g | apply Rd_g); (exact rfl); (exact rfl); (focus (intro K0; (try simp only [lookT, ev, Nat.reduceEqDiff, ↓reduceIte]); exact ⟨id⟩))) | (with_reducible (first | apply RnG_yes | apply RdG_yes)) | ((with_reducible (first | apply RnG_t_no | apply RnG_f_no | apply RnG_un | apply RdG_t_no | apply RdG_f_no | apply RdG_un)); (exact rfl)) | ((first | apply RnG_never | apply RdG_never); (focus (intro K0; (try simp only [go_sem]); exact ⟨id⟩)); (exact rfl)) | ((first | apply RnG_lazy | apply RdG_lazy); (exact rfl); (focus (intro K0; (try simp only [go_sem]); exact ⟨id⟩)); (focus (first | (simp only [Nat.reduceLT]; done) | omega)); (focus (intro hw0; (try simp only [Bool.and_eq_true, Bool.not_eq_true', beq_true', beq_false'] at hw0); (focus (intro K0; (try simp only [go_sem, *]); (first | exact ⟨id⟩ | (refine ⟨fun h => ?_⟩; (repeat' (first | exact h | refine And.intro ?_ ?_ | omega | rfl)); done))))))) | (apply Rn_c; (focus (intro K0; (try simp only [lookT, ev, Nat.reduceEqDiff, ↓reduceIte]); exact ⟨id⟩))) | (with_reducible (first | refine RnC_t ?_ | refine RnC_f ?_)) | (refine Rn_skip ?_) | (refine Rn_exit rfl ?_) | (refine Rn_b ?_) | (apply Rn_draw' lv21; (exact rfl)) | (refine Rn_draw ?_) | (apply Rd_op'; (exact rfl)) | (refine Rd_nil (by kernel_rfl) ?_) | ((with_reducible (first | refine RnG_split (fun h => ?_) (fun h => ?_) | refine RdG_split (fun h => ?_) (fun h => ?_) | refine RnC_split (fun h => ?_) (fun h => ?_))) <;> (have h' := h) <;> (try simp only [decide_eq_true_eq, decide_eq_false_iff_not, Bool.not_eq_true', Bool.not_eq_false', Bool.and_eq_true, Bool.or_eq_true, Bool.or_eq_false_iff, beq_iff_eq, bne_iff_ne, ne_eq, Bool.not_true, Bool.not_false, not_false_eq_true, reduceCtorEq, beq_eq_false_iff_ne, bne_eq_false_iff_eq] at h') <;> (first | apply Rn_st | apply Rd_st)) | (refine Rn_out_ck rfl rfl ?_) | (first | refine Rn_ret_ck ?_ | refine Rn_ret ?_ | refine Rn_nil_then ?_) | (refine LoopN_step (T := []) ?_) | (refine Rn_nil ?_)))
  · intro K0; (try simp only [go_sem]); exact ⟨id⟩
  refine Rn_isnil (sz := 4) rfl (.inl rfl) rfl rfl (Nat.le_of_ble_eq_true rfl) rfl rfl (by kernel_rfl) (fun q hq => ?_)
  apply Rn_o_st
  · intro K0; (try simp only [go_sem]); exact ⟨id⟩
  cases q with
  | true =>
    have h0 : l = [] := by have := hq rfl; simpa using this
    subst h0
    (any_goals refine go lv21 0 ?_)
    repeat' (first | (refine Br.go (fun h h' => ?_) (fun h h' => ?_)) | (refine Br.mk (fun h => ?_) (fun h => ?_)))
    all_goals (try simp only [go_sem])
  | false =>
    clear hq
    (any_goals refine go lv21 0 ?_)
    repeat' (first | (refine Br.go (fun h h' => ?_) (fun h h' => ?_)) | (refine Br.mk (fun h => ?_) (fun h => ?_)))
    all_goals (try simp only [go_sem])
def sp_cloneCellP (st : St) (d : Nat) (args : List AV) (K : AV → List Loc → List (Loc × Cont) → Prop) : Prop := match args with
  | [.r (.rs 4 xs)] => (xs = (cellsOf xs).map cellR ∧ xs.length ≤ 1000000000) ∧ K (ren (fun _ => d) (fun _ => st.cur d) (.os 0 1)) [.R d] [(.R d, .s (1 + st.cur d) (.sl 48 4 ((cellsOf xs).map cellC)))]
  | _ => False
theorem sp_cloneCellP_ok (st : St) (d : Nat) (args : List AV) (K : AV → List Loc → List (Loc × Cont) → Prop) (h : sp_cloneCellP st d args K) : ∃ r ls outs, CallR Cx 21 st args r ls outs ∧ K r ls outs := by
  unfold sp_cloneCellP at h
  split at h
  · exact ⟨_, _, _, CallR.own (cloneCellP_c _ h.1) rfl (cloneCellP_rows _) rfl d, h.2⟩
  · exact h.elim
noncomputable def ct_cloneCellP : Ct Cx := .res 21 sp_cloneCellP en21 sp_cloneCellP_ok
@[go_sem] theorem ct_cloneCellP_g : ct_cloneCellP.g = 21 := rfl
@[go_sem] theorem ct_cloneCellP_run (c : Call) (fop : Operand) (caps : List AV) (o : Oper) (st : St) (K : List Loc → List (Loc × Cont) → Prop) : ct_cloneCellP.run c fop caps o st K = callG sp_cloneCellP c fop caps o st K := rfl
@[go_sem] theorem sp_cloneCellP_eq (st : St) (d : Nat) (args : List AV) (K : AV → List Loc → List (Loc × Cont) → Prop) : sp_cloneCellP st d args K = (match args with
    | [.r (.rs 4 xs)] => (xs = (cellsOf xs).map cellR ∧ xs.length ≤ 1000000000) ∧ K (ren (fun _ => d) (fun _ => st.cur d) (.os 0 1)) [.R d] [(.R d, .s (1 + st.cur d) (.sl 48 4 ((cellsOf xs).map cellC)))]
    | _ => False) := rfl
theorem cloneCell_c (xs : List (List RV)) (h : xs = (cellsOf xs).map cellR ∧ xs.length ≤ 1000000000) : FC Cx 21 [.r (.rs 4 xs)] [] (cellsV (cellsOf xs)) [] := (cloneCellP_c xs h).freeze1 (roCellC _).symm
def sp_cloneCell (args : List AV) (K : AV → Prop) : Prop := match args with
  | [.r (.rs 4 xs)] => (xs = (cellsOf xs).map cellR ∧ xs.length ≤ 1000000000) ∧ K (cellsV (cellsOf xs))
  | _ => False
theorem sp_cloneCell_ok (args : List AV) (K : AV → Prop) (h : sp_cloneCell args K) : ∃ r, CallOk Cx 21 args r ∧ K r := by
  unfold sp_cloneCell at h
  split at h
  · exact ⟨_, CallOk_of (cloneCell_c _ h.1) en21 rfl rfl, h.2⟩
  · exact h.elim
noncomputable def ct_cloneCell : Ct Cx := .pure 21 sp_cloneCell sp_cloneCell_ok
@[go_sem] theorem ct_cloneCell_g : ct_cloneCell.g = 21 := rfl
@[go_sem] theorem ct_cloneCell_run (c : Call) (fop : Operand) (caps : List AV) (o : Oper) (st : St) (K : List Loc → List (Loc × Cont) → Prop) : ct_cloneCell.run c fop caps o st K = callT Cx sp_cloneCell c fop caps o st K := rfl
@[go_sem] theorem sp_cloneCell_eq (args : List AV) (K : AV → Prop) : sp_cloneCell args K = (match args with
    | [.r (.rs 4 xs)] => (xs = (cellsOf xs).map cellR ∧ xs.length ≤ 1000000000) ∧ K (cellsV (cellsOf xs))
    | _ => False) := rfl
@[go_sem] theorem lendR_cell (n : Nat) (st : St) : ∀ (l : List CellT) (K : List Loc → List (List RV) → Prop), lendR (lendC n st) (l.map cellC) K = K [] (l.map cellR)
  | [], K => rfl
  | x :: l, K => by
    cases n <;> (simp only [List.map_cons, lendR, lendL, lendC]; rw [lendR_cell _ st l]; rfl)
theorem cellEB (c : CellT) : rowEB (cellC c) (cellR c) := ⟨rfl, rfl, rfl, rfl, trivial⟩
theorem idxStr_c (l : List ByteArray) (s : ByteArray) (hl : l.length ≤ 9223372036854775807) : FC Cx 62 [strsV l, Sv s] [] (Iv (fidx (fun x => decide (s = x)) l)) [] := by
  have hlen : (l.map strR).length = l.length := List.length_map ..
  refine FCp_of [] Tryz.func62 rfl Tryz.ntmps62 (by simp) Tryz.results62 rfl ?_
  apply Rn_st; (intro K0; simp only [go_sem]; exact ⟨id⟩)
  (any_goals refine go lv62 0 ?_)
  repeat' (first | (refine Br.go (fun h h' => ?_) (fun h h' => ?_)) | (refine Br.mk (fun h => ?_) (fun h => ?_)))
  refine Rn_loopT [0, 1, 7, 8] (fun i => i ≤ l.length ∧ ∀ j x, j < i → l[j]? = some x → decide (s = x) = false) (fun (i : Nat) => ⟨19, [(0, strsV l), (1, Sv s), (7, Iv l.length), (8, Iv i)], []⟩) (fun i => l.length - i) 0 rfl (by rw [← hlen]; rfl) rfl ⟨Nat.zero_le _, fun j x hj => by omega⟩ ?_
  rintro i ⟨hi, hno⟩
  by_cases hlt : i < l.length
  · obtain ⟨x, hx⟩ : ∃ x, l[i]? = some x := ⟨l[i], List.getElem?_eq_getElem hlt⟩
    have hg := getD_map strR hx ([] : List RV)
    have hw : IntKind.i64.wrap ((i : Int) + 1) = ((i + 1 : Nat) : Int) := by rw [wrap_id] <;> omega
    have h1 : decide ((i : Int) < (l.length : Int)) = true := by rw [decide_eq_true_eq]; omega
    have h2 : Int.toNat (i : Int) = i := by omega
    cases hp : decide (s = x) with
    | true =>
      (any_goals refine go lv62 0 ?_)
      repeat' (first | (refine Br.go (fun h h' => ?_) (fun h h' => ?_)) | (refine Br.mk (fun h => ?_) (fun h => ?_)))
      all_goals (try simp only [go_sem])
      rw [fidx_hit hx hp fun j y hj hy => hno j y hj hy]
    | false =>
      (any_goals refine go lv62 0 ?_)
      repeat' (first | (refine Br.go (fun h h' => ?_) (fun h h' => ?_)) | (refine Br.mk (fun h => ?_) (fun h => ?_)))
      all_goals (try simp only [go_sem])
      refine ⟨i + 1, ⟨by omega, fun j y hj hy => ?_⟩, by omega, Le_keep [0, 1, 7, 8] rfl rfl rfl⟩
      rcases Nat.lt_succ_iff_lt_or_eq.1 hj with h3 | h3
      · exact hno j y h3 hy
      · subst h3; rw [hx] at hy; cases hy; exact hp
  · have h1 : decide ((i : Int) < (l.length : Int)) = false := by rw [decide_eq_false_iff_not]; omega
    (any_goals refine go lv62 0 ?_)
    repeat' (first | (refine Br.go (fun h h' => ?_) (fun h h' => ?_)) | (refine Br.mk (fun h => ?_) (fun h => ?_)))
    all_goals (try simp only [go_sem])
    rw [fidx_none fun j y hy => hno j y (by have := (List.getElem?_eq_some_iff.1 hy).1; omega) hy]
theorem hasStr {l : List ByteArray} {s : ByteArray} : (l.any fun x => decide (s = x)) = false ↔ s ∉ l := by
  rw [List.any_eq_false]
  simp only [decide_eq_true_eq]
  exact ⟨fun h hs => h s hs rfl, fun h x hx e => h (e ▸ hx)⟩
theorem hasStr_c (xs : List (List RV)) (s : ByteArray) (h : xs = (strsOf xs).map strR ∧ xs.length ≤ 1000000000) : FC Cx 20 [.r (.rs 1 xs), Sv s] [] (Bv ((strsOf xs).any fun x => decide (s = x))) [] := by
  have hl : (strsOf xs).length = xs.length := by simp [strsOf]
  obtain ⟨h1, h2⟩ := h
  generalize strsOf xs = l at h1 hl
  subst h1
  rw [← hl] at h2
  have hA : ∀ y, y = [strsV l, Sv s] → CallOk Cx 62 y (Iv (fidx (fun x => decide (s = x)) l)) := fun y hy => by
    subst hy; exact CallOk_of (idxStr_c l s (by omega)) en62 rfl rfl
  refine FCp_of [ctE 62 [strsV l, Sv s] (Iv (fidx (fun x => decide (s = x)) l)) hA] Tryz.func20 rfl Tryz.ntmps20 (by simp) Tryz.results20 rfl ?_
  apply Rn_st; (intro K0; simp only [go_sem]; exact ⟨id⟩)
  (any_goals refine go lv20 0 ?_)
  repeat' (first | (refine Br.go (fun h h' => ?_) (fun h h' => ?_)) | (refine Br.mk (fun h => ?_) (fun h => ?_)))
  all_goals (try simp only [go_sem])
def sp_hasStr (args : List AV) (K : AV → Prop) : Prop := match args with
  | [.r (.rs 1 xs), .r (.v (.string s))] => (xs = (strsOf xs).map strR ∧ xs.length ≤ 1000000000) ∧ K (Bv ((strsOf xs).any fun x => decide (s = x)))
  | _ => False
theorem sp_hasStr_ok (args : List AV) (K : AV → Prop) (h : sp_hasStr args K) : ∃ r, CallOk Cx 20 args r ∧ K r := by
  unfold sp_hasStr at h
  split at h
  · exact ⟨_, CallOk_of (hasStr_c _ _ h.1) en20 rfl rfl, h.2⟩
  · exact h.elim
noncomputable def ct_hasStr : Ct Cx := .pure 20 sp_hasStr sp_hasStr_ok
@[go_sem] theorem ct_hasStr_g : ct_hasStr.g = 20 := rfl
@[go_sem] theorem ct_hasStr_run (c : Call) (fop : Operand) (caps : List AV) (o : Oper) (st : St) (K : List Loc → List (Loc × Cont) → Prop) : ct_hasStr.run c fop caps o st K = callT Cx sp_hasStr c fop caps o st K := rfl
@[go_sem] theorem sp_hasStr_eq (args : List AV) (K : AV → Prop) : sp_hasStr args K = (match args with
    | [.r (.rs 1 xs), .r (.v (.string s))] => (xs = (strsOf xs).map strR ∧ xs.length ≤ 1000000000) ∧ K (Bv ((strsOf xs).any fun x => decide (s = x)))
    | _ => False) := rfl
theorem refTo_c (n : Int) : FC Cx 22 [Iv n] [] (VV 5 n) [] := by
  refine FCp_of [] Tryz.func22 rfl Tryz.ntmps22 (by simp) Tryz.results22 rfl ?_
  apply Rn_st; (intro K0; simp only [go_sem]; exact ⟨id⟩)
  (any_goals refine go lv22 0 ?_)
  repeat' (first | (refine Br.go (fun h h' => ?_) (fun h h' => ?_)) | (refine Br.mk (fun h => ?_) (fun h => ?_)))
  all_goals (try simp only [go_sem])
def sp_refTo (args : List AV) (K : AV → Prop) : Prop := match args with
  | [.r (.v (.int .i64 n))] => K (VV 5 n)
  | _ => False
theorem sp_refTo_ok (args : List AV) (K : AV → Prop) (h : sp_refTo args K) : ∃ r, CallOk Cx 22 args r ∧ K r := by
  unfold sp_refTo at h
  split at h
  · exact ⟨_, CallOk_of (refTo_c _) en22 rfl rfl, h⟩
  · exact h.elim
noncomputable def ct_refTo : Ct Cx := .pure 22 sp_refTo sp_refTo_ok
@[go_sem] theorem ct_refTo_g : ct_refTo.g = 22 := rfl
@[go_sem] theorem ct_refTo_run (c : Call) (fop : Operand) (caps : List AV) (o : Oper) (st : St) (K : List Loc → List (Loc × Cont) → Prop) : ct_refTo.run c fop caps o st K = callT Cx sp_refTo c fop caps o st K := rfl
@[go_sem] theorem sp_refTo_eq (args : List AV) (K : AV → Prop) : sp_refTo args K = (match args with
    | [.r (.v (.int .i64 n))] => K (VV 5 n)
    | _ => False) := rfl
theorem stateMore_no (p : ProgT) (s : StateT) (x : ByteArray) (hw : Pwf p) (hs : Swf s) (hx : x.size ≤ 9223372036854775807) (h : faultS p s ≠ 0 ∨ 300 ≤ s.cells.length ∨ 300 ≤ s.texts.length ∨ 200 < x.size ∨ x ∈ s.texts) : FC Cx 4 [progV p, stateV s, Sv x] [] (Bv true) [] := by
  have l1 : (s.cells.map cellR).length = s.cells.length := List.length_map ..
  have l2 : (s.texts.map strR).length = s.texts.length := List.length_map ..
  by_cases hf : faultS p s = 0
  case neg =>
    have d0 : decide (faultS p s = 0) = false := by simpa using hf
    clear hf h
    refine FCp_of [ct_stateLives, ct_stFault'] Tryz.func4 rfl Tryz.ntmps4 (by simp) Tryz.results4 rfl ?_
    apply Rn_st; (intro K0; simp only [go_sem]; exact ⟨id⟩)
    refine goR (L := []) (n := 0) ?_
    (apply Rn_frzB 3; (exact rfl); (exact rfl); (exact rfl); (intro K0; (try simp only [go_sem]); exact ⟨id⟩))
    (apply Rn_frzB 4; (exact rfl); (exact rfl); (exact rfl); (intro K0; (try simp only [go_sem]); exact ⟨id⟩))
    (any_goals refine go lv4 0 ?_)
    repeat' (first | (refine Br.go (fun h h' => ?_) (fun h h' => ?_)) | (refine Br.mk (fun h => ?_) (fun h => ?_)))
    all_goals (try simp only [go_sem])
  have d0 : decide (faultS p s = 0) = true := by simpa using hf
  have hT : s.texts.length ≤ 1000000000 := by
    have := (checkS_iff.1 (rightS_iff.1 hf).heap).textN; omega
  replace h : 300 ≤ s.cells.length ∨ 300 ≤ s.texts.length ∨ 200 < x.size ∨ x ∈ s.texts := h.resolve_left (fun h => h hf)
  clear hf
  obtain ⟨b1, h1⟩ : ∃ b, decide ((300 : Int) ≤ (s.cells.length : Int)) = b := ⟨_, rfl⟩
  obtain ⟨b2, h2⟩ : ∃ b, decide ((300 : Int) ≤ (s.texts.length : Int)) = b := ⟨_, rfl⟩
  obtain ⟨b3, h3⟩ : ∃ b, decide ((200 : Int) < (x.size : Int)) = b := ⟨_, rfl⟩
  obtain ⟨b4, h4⟩ : ∃ b, (s.texts.any fun y => decide (x = y)) = b := ⟨_, rfl⟩
  have hb : (b1 || b2 || b3 || b4) = true := by
    rw [← h1, ← h2, ← h3, ← h4]
    simp only [Bool.or_eq_true, decide_eq_true_eq, List.any_eq_true]
    rcases h with h | h | h | h
    · exact .inl (.inl (.inl (by omega)))
    · exact .inl (.inl (.inr (by omega)))
    · exact .inl (.inr (by omega))
    · exact .inr ⟨x, h, rfl⟩
  clear h
  refine FCp_of [ct_stateLives, ct_stFault', ct_hasStr] Tryz.func4 rfl Tryz.ntmps4 (by simp) Tryz.results4 rfl ?_
  apply Rn_st; (intro K0; simp only [go_sem]; exact ⟨id⟩)
  refine goR (L := []) (n := 0) ?_
  (apply Rn_frzB 3; (exact rfl); (exact rfl); (exact rfl); (intro K0; (try simp only [go_sem]); exact ⟨id⟩))
  (apply Rn_frzB 4; (exact rfl); (exact rfl); (exact rfl); (intro K0; (try simp only [go_sem]); exact ⟨id⟩))
  (any_goals refine go lv4 0 ?_)
  repeat' (first | (refine Br.go (fun h h' => ?_) (fun h h' => ?_)) | (refine Br.mk (fun h => ?_) (fun h => ?_)))
  all_goals (try simp only [go_sem])
theorem more_wf {s : StateT} {t : ByteArray} (hs : Swf s) (h1 : s.cells.length < 300) (h2 : s.texts.length < 300) : Swf (moreS s ⟨2, 0, [(5, (s.cells.length : Int))], []⟩ t) := by
  obtain ⟨⟨a1, a2, a3, a4, a5, a6⟩, b, c, d⟩ := hs
  refine ⟨⟨by simp [moreS]; omega, a2, by simp [moreS]; omega, a4, a5, a6⟩, b, fun x hx => ?_, d⟩
  rcases List.mem_append.1 (show x ∈ s.cells ++ [⟨2, 0, [(5, (s.cells.length : Int))], []⟩] from hx) with hx | hx
  · exact c x hx
  · simp at hx; subst hx
    refine ⟨by simp, fun v hv => ?_, by simp, by simp⟩
    simp at hv; subst hv
    exact WI_nat (by omega)
theorem rowA_self : ∀ (l : List AV), rowA l l
  | [] => trivial
  | _ :: l => ⟨.inl rfl, rowA_self l⟩
theorem rowsA_app : ∀ (l : List (List AV)) {a b : List (List AV)}, rowsA a b → rowsA (l ++ a) (l ++ b)
  | [], _, _, h => h
  | x :: l, _, _, h => ⟨rowA_self x, rowsA_app l h⟩
theorem noNd_cell (l : List CellT) (x : List AV) (hx : (x.length, noNd x) = (4, true)) : ∀ row ∈ l.map cellC ++ [x], (row.length, noNd row) = (4, true) := fun row h => by
  rcases List.mem_append.1 h with h | h
  · obtain ⟨c, _, rfl⟩ := List.mem_map.1 h; rfl
  · simp at h; subst h; exact hx
theorem set_last {α : Type} (l : List α) (x y : α) : (l ++ [x]).set l.length y = l ++ [y] := by
  rw [List.set_append_right _ _ (Nat.le_refl _), Nat.sub_self]; rfl
theorem stateMore_yes (p : ProgT) (s : StateT) (x : ByteArray) (hw : Pwf p) (hs : Swf s) (hx : x.size ≤ 9223372036854775807) (hf : faultS p s = 0) (h1 : s.cells.length < 300) (h2 : s.texts.length < 300) (h3 : x.size ≤ 200) (h4 : x ∉ s.texts) : FC Cx 4 [progV p, stateV s, Sv x] [] (Bv true) [] := by
  have l1 : (s.cells.map cellR).length = s.cells.length := List.length_map ..
  have l2 : (s.texts.map strR).length = s.texts.length := List.length_map ..
  have l3 : (s.cells.map cellC).length = s.cells.length := List.length_map ..
  have l4 : (s.texts.map strC).length = s.texts.length := List.length_map ..
  have d0 : decide (faultS p s = 0) = true := by simpa using hf
  have d1 : decide ((300 : Int) ≤ (s.cells.length : Int)) = false := by rw [decide_eq_false_iff_not]; omega
  have d2 : decide ((300 : Int) ≤ (s.texts.length : Int)) = false := by rw [decide_eq_false_iff_not]; omega
  have d3 : decide ((200 : Int) < (x.size : Int)) = false := by rw [decide_eq_false_iff_not]; omega
  have d4 : (s.texts.any fun y => decide (x = y)) = false := hasStr.2 h4
  have hr := rightS_iff.2 (more_right (rightS_iff.1 hf) h1 h2 h3 h4)
  have hne := more_ne s ⟨2, 0, [(5, (s.cells.length : Int))], []⟩ x
  have hwf := more_wf (t := x) hs h1 h2
  have hnd := decide_eq_false hne
  clear hf h4
  unfold moreS at hr hnd hwf
  generalize hcs : s.cells ++ [(⟨2, 0, [(5, (s.cells.length : Int))], []⟩ : CellT)] = cs at *
  generalize hts : s.texts ++ [x] = ts at *
  have l5 : (cs.map cellR).length = cs.length := List.length_map ..
  have l6 : (ts.map strR).length = ts.length := List.length_map ..
  refine FCp_of [ct_stateLives, ct_stFault', ct_hasStr, ct_refTo, ct_cloneCellP, ct_cloneStrP, ct_same] Tryz.func4 rfl Tryz.ntmps4 (by simp) Tryz.results4 rfl ?_
  apply Rn_st; (intro K0; simp only [go_sem]; exact ⟨id⟩)
  refine goR (L := []) (n := 0) ?_
  (apply Rn_frzB 3; (exact rfl); (exact rfl); (exact rfl); (intro K0; (try simp only [go_sem]); exact ⟨id⟩))
  (apply Rn_frzB 4; (exact rfl); (exact rfl); (exact rfl); (intro K0; (try simp only [go_sem]); exact ⟨id⟩))
  (any_goals refine go (dropL 6 lv4) 0 ?_)
  repeat' (first | (refine Br.go (fun h h' => ?_) (fun h h' => ?_)) | (refine Br.mk (fun h => ?_) (fun h => ?_)))
  (apply Rn_tellL 43 (s.cells.map cellC ++ [[Iv 2, Iv 0, .os 48 1, .r (.rs 8 [])]]); (exact rfl); (exact (by simp)); (exact noNd_cell _ _ rfl); (exact rowsA_app _ (by simp [rowsA, rowA, nilT])); (exact rfl); (intro K0; (try simp only [go_sem]); exact ⟨id⟩))
  have setC : ∀ y z : List AV, (s.cells.map cellC ++ [y]).set s.cells.length z = s.cells.map cellC ++ [z] := fun y z => by
    have := set_last (s.cells.map cellC) y z
    rwa [List.length_map] at this
  (apply Rn_closeS 43 s.cells.length 2 48 [[.r (.v (.int .i64 5)), .r (.v (.int .i64 (s.cells.length : Int)))]]; (exact rfl); (exact (by simp; rfl)); (exact rfl); (exact (by decide)); (exact rfl); (exact rfl); (intro K0; (try simp only [go_sem, setC]); exact ⟨id⟩))
  (apply Rn_frzX 43 (cs.map cellR); (exact rfl); (exact (by rw [← hcs, List.map_append]; exact rowsEB_app (rowsEB_map cellEB) ⟨⟨rfl, rfl, rfl, rfl, trivial⟩, trivial⟩)); (exact rfl); (intro K0; (try simp only [go_sem]); exact ⟨id⟩))
  (apply Rn_frzS 55 (ts.map strR); (exact rfl); (exact (by rw [← hts]; simp)); (exact rfl); (intro K0; (try simp only [go_sem]); exact ⟨id⟩))
  clear setC hcs hts
  (any_goals refine go lv4 0 ?_)
  repeat' (first | (refine Br.go (fun h h' => ?_) (fun h h' => ?_)) | (refine Br.mk (fun h => ?_) (fun h => ?_)))
  all_goals (try simp only [go_sem])
theorem stateMore_c (p : ProgT) (s : StateT) (x : ByteArray) (hw : Pwf p) (hs : Swf s) (hx : x.size ≤ 9223372036854775807) : FC Cx 4 [progV p, stateV s, Sv x] [] (Bv true) [] := by
  by_cases hf : faultS p s = 0
  · by_cases h : 300 ≤ s.cells.length ∨ 300 ≤ s.texts.length ∨ 200 < x.size ∨ x ∈ s.texts
    · exact stateMore_no p s x hw hs hx (.inr h)
    · simp only [not_or] at h
      exact stateMore_yes p s x hw hs hx hf (by omega) (by omega) (by omega) h.2.2.2
  · exact stateMore_no p s x hw hs hx (.inl hf)
end Go.Proofs.YtbhnmolmkembdaaGreatDoor
namespace Go.Proofs.YtbhnmolmkembdaaGreatDoor
set_option linter.unusedVariables false
set_option linter.unusedSimpArgs false
set_option maxHeartbeats 10000000
open Go
set_option maxRecDepth 10000
theorem stackR_at {p : ProgT} {s : StateT} : ∀ {fs : List FrameT} {k : Nat} {low : Int} {i : Nat} {f : FrameT}, stackR p s k low fs → fs[i]? = some f → ∃ low', onF p s low' f = true ∧ (0 ≤ f.gen → goesF s (k + i) f = true)
  | f0 :: fs, k, low, 0, f, h, hf => by simp at hf; subst hf; exact ⟨_, h.1⟩
  | f0 :: fs, k, low, i + 1, f, h, hf => by
    have := stackR_at (i := i) h.2 (by simpa using hf)
    rwa [show k + 1 + i = k + (i + 1) by omega] at this
  | [], _, _, _, _, _, hf => by simp at hf
theorem stackR_set {p : ProgT} {s : StateT} {f f' : FrameT} (hl : f'.regs.length = f.regs.length) (ho : ∀ low, onF p s low f = true → onF p s low f' = true) (hg : f'.gen = f.gen) : ∀ {fs : List FrameT} {k : Nat} {low : Int} {i : Nat}, stackR p s k low fs → fs[i]? = some f → stackR p s k low (fs.set i f')
  | f0 :: fs, k, low, 0, h, hf => by
    simp at hf; subst hf
    refine ⟨⟨ho _ h.1.1, fun h0 => ?_⟩, ?_⟩
    · have := h.1.2 (by rw [← hg]; exact h0)
      unfold goesF at this ⊢
      rw [hg]; exact this
    · rw [hl]; exact h.2
  | f0 :: fs, k, low, i + 1, h, hf => ⟨h.1, stackR_set hl ho hg h.2 (by simpa using hf)⟩
  | [], _, _, _, _, hf => by simp at hf
theorem gensL_set {f f' : FrameT} (hg : f'.gen = f.gen) : ∀ {fs : List FrameT} {i : Nat}, fs[i]? = some f → gensL (fs.set i f') = gensL fs
  | f0 :: fs, 0, hf => by
    simp at hf; subst hf
    unfold gensL
    simp only [List.set_cons_zero, List.filter_cons, hg]
    split <;> simp [hg]
  | f0 :: fs, i + 1, hf => by
    have := gensL_set hg (fs := fs) (i := i) (by simpa using hf)
    unfold gensL at this ⊢
    simp only [List.set_cons_succ, List.filter_cons]
    split
    · simp only [List.map_cons, this]
    · exact this
  | [], _, hf => by simp at hf
theorem gensT_set {t t' : ThreadT} (hg : gensL t'.frames = gensL t.frames) : ∀ {ts : List ThreadT} {i : Nat}, ts[i]? = some t → gensT (ts.set i t') = gensT ts
  | t0 :: ts, 0, ht => by
    simp at ht; subst ht
    show gensL t'.frames ++ gensT ts = gensL t0.frames ++ gensT ts
    rw [hg]
  | t0 :: ts, i + 1, ht => by
    show gensL t0.frames ++ gensT (ts.set i t') = gensL t0.frames ++ gensT ts
    rw [gensT_set hg (by simpa using ht)]
  | [], _, ht => by simp at ht
theorem frame_regs {p : ProgT} {s : StateT} {f : FrameT} (hw : Pwf p) (hp : checkF p = 0) (h : frameF p s f = true) : f.regs.length ≤ 60 := by
  unfold frameF at h
  simp only [Bool.and_eq_true, decide_eq_true_eq] at h
  obtain ⟨⟨⟨⟨⟨⟨⟨h1, _⟩, _⟩, h2⟩, _⟩, _⟩, _⟩, _⟩ := h
  have hF : p.fns[f.fn.toNat]? = some (p.fns[f.fn.toNat]'(by omega)) := List.getElem?_eq_getElem _
  have e : p.fns.getD f.fn.toNat fn0 = p.fns[f.fn.toNat]'(by omega) := by rw [List.getD_eq_getElem?_getD, hF]; rfl
  obtain ⟨hpok, _⟩ := check_fn hw hp (List.mem_of_getElem? hF)
  have := (hpok.fn _ (List.mem_of_getElem? hF)).2.1
  rw [e] at h2
  omega
theorem on_frame {p : ProgT} {s : StateT} {low : Int} {f : FrameT} (h : onF p s low f = true) : frameF p s f = true := by
  unfold onF at h
  simp only [Bool.and_eq_true] at h
  exact h.1.1.1
abbrev withT (s : StateT) (ts : List ThreadT) : StateT := ⟨s.cells, s.shapes, s.texts, ts, s.ends, s.said, s.asked, s.steps⟩
theorem headF_with {p : ProgT} {s : StateT} {ts : List ThreadT} {t : ThreadT} (hl : ts.length = s.threads.length) (h : headF p s t = true) : headF p (withT s ts) t = true := by
  have e : headF p (withT s ts) t = headF p s t := by
    unfold headF
    rw [show (withT s ts).threads.length = s.threads.length from hl]; rfl
  rw [e]; exact h
theorem stackR_with {p : ProgT} {s : StateT} {ts : List ThreadT} : ∀ {fs : List FrameT} {k : Nat} {low : Int}, stackR p s k low fs → stackR p (withT s ts) k low fs
  | [], _, _, _ => trivial
  | _ :: _, _, _, h => ⟨h.1, stackR_with h.2⟩
theorem right_with {p : ProgT} {s : StateT} {i : Nat} {t t' : ThreadT} (h : RightS p s) (ht : s.threads[i]? = some t) (hh : headF p s t' = true) (hs : stackR p s 0 0 t'.frames) (hg : gensL t'.frames = gensL t.frames) (hn : t'.frames.length ≤ 30) : RightS p (withT s (s.threads.set i t')) := by
  have hl : (s.threads.set i t').length = s.threads.length := List.length_set
  refine ⟨h.prog, h.heap, ?_, h.texts, h.steps, h.asked, by rw [show (withT s (s.threads.set i t')).threads.length = s.threads.length from hl]; exact h.any, h.cells, fun x hx => ?_, ?_, fun k c hk k5 n1 => ?_⟩
  · have := h.few
    unfold manyS at this ⊢
    simp only [Bool.or_eq_false_iff, decide_eq_false_iff_not, List.any_eq_false, decide_eq_true_eq] at this ⊢
    refine ⟨by rw [show (withT s (s.threads.set i t')).threads.length = s.threads.length from hl]; exact this.1, fun x hx => ?_⟩
    rcases List.mem_or_eq_of_mem_set hx with hx | rfl
    · exact this.2 x hx
    · omega
  · rcases List.mem_or_eq_of_mem_set hx with hx | rfl
    · exact ⟨headF_with hl (h.threads x hx).1, stackR_with (h.threads x hx).2⟩
    · exact ⟨headF_with hl hh, stackR_with hs⟩
  · show (gensT (s.threads.set i t')).Nodup
    rw [gensT_set hg ht]; exact h.gens
  · show (k : Int) ∈ gensT (s.threads.set i t')
    rw [gensT_set hg ht]; exact h.runs k c hk k5 n1
theorem regs_on {p : ProgT} {s : StateT} {f : FrameT} {r : Nat} {v : Int × Int} (hv : fitsF s v = true) {low : Int} (h : onF p s low f = true) : onF p s low { f with regs := f.regs.set r v } = true := by
  unfold onF at h ⊢
  simp only [Bool.and_eq_true] at h ⊢
  refine ⟨⟨⟨?_, h.1.1.2⟩, h.1.2⟩, h.2⟩
  have hf := h.1.1.1
  unfold frameF at hf ⊢
  simp only [Bool.and_eq_true] at hf ⊢
  refine ⟨⟨⟨⟨⟨hf.1.1.1.1.1, ?_⟩, hf.1.1.1.2⟩, hf.1.1.2⟩, hf.1.2⟩, ?_⟩
  · have := hf.1.1.1.1.2
    rw [List.length_set]; exact this
  · refine List.all_eq_true.2 fun x hx => ?_
    rcases List.mem_or_eq_of_mem_set hx with hx | rfl
    · exact List.all_eq_true.1 hf.2 x hx
    · exact hv
theorem turned_right {p : ProgT} {s : StateT} {i j r : Nat} {t : ThreadT} {f : FrameT} {v : Int × Int} (h : RightS p s) (ht : s.threads[i]? = some t) (hf : t.frames[j]? = some f) (hv : fitsF s v = true) :
    RightS p (withT s (s.threads.set i { t with frames := t.frames.set j { f with regs := f.regs.set r v } })) := by
  have hT := h.threads t (List.mem_of_getElem? ht)
  have hl : (t.frames.set j { f with regs := f.regs.set r v }).length = t.frames.length := List.length_set
  refine right_with h ht ?_ (stackR_set (by rw [List.length_set]) (fun low => regs_on hv) rfl hT.2 hf) (gensL_set (f := f) (f' := { f with regs := f.regs.set r v }) rfl hf) ?_
  · have h1 := hT.1
    unfold headF at h1 ⊢
    rw [hl]; exact h1
  · rw [hl]
    have := h.few
    unfold manyS at this
    simp only [Bool.or_eq_false_iff, decide_eq_false_iff_not, List.any_eq_false, decide_eq_true_eq] at this
    have := this.2 t (List.mem_of_getElem? ht)
    omega
end Go.Proofs.YtbhnmolmkembdaaGreatDoor
namespace Go.Proofs.YtbhnmolmkembdaaGreatDoor
set_option linter.unusedVariables false
set_option linter.unusedSimpArgs false
set_option maxHeartbeats 10000000
open Go
set_option maxRecDepth 10000
abbrev threadC (t : ThreadT) : List AV := [framesV t.frames, Iv t.state, Iv t.on, Iv t.val.1, Iv t.val.2]
abbrev frameC (f : FrameT) : List AV := [Iv f.fn, Iv f.pc, Iv f.tov, Iv f.gen, Iv f.self.1, Iv f.self.2, valsV f.regs, triesV f.tries]
theorem flatThreadC (l : List ThreadT) : ∀ row ∈ l.map threadC, withinL none0 row = true := fun row h => by
  obtain ⟨x, _, rfl⟩ := List.mem_map.1 h; rfl
@[go_sem] theorem okThreadC : ∀ l : List ThreadT, okRows (l.map threadC) = true
  | [] => rfl
  | x :: l => okThreadC l
@[go_sem] theorem roThreadC (l : List ThreadT) : ((l.map threadR).map fun r => r.map AV.r) = l.map threadC := by rw [List.map_map]; rfl
theorem cloneThreadP_rows (xs : List (List RV)) : ∀ row ∈ (threadsOf xs).map threadC, withinL none0 row = true := flatThreadC _
theorem cloneThreadP_c (xs : List (List RV)) (h : xs = (threadsOf xs).map threadR ∧ xs.length ≤ 1000000000) : FC Cx 25 [.r (.rs 5 xs)] [] (.os 0 1) [(0, 1, .sl 56 5 ((threadsOf xs).map threadC))] := by
  have hl : (threadsOf xs).length = xs.length := by simp [threadsOf]
  have hlenS : ∀ l : List ThreadT, (l.map threadC).length = l.length := fun l => List.length_map ..
  obtain ⟨h1, h2⟩ := h
  generalize threadsOf xs = l at h1 hl
  subst h1
  rw [← hl] at h2
  refine FCo_of [] (i := 0) [.os 0 1] Tryz.func25 rfl Tryz.ntmps25 (by simp) Tryz.results25 (flatThreadC _) ?_
  apply Rn_st; (intro K0; simp only [go_sem]; exact ⟨id⟩)
  iterate 8 (any_goals (first | (focus (intro K0; (try simp only [go_sem, *]); (first | exact ⟨id⟩ | (refine ⟨fun h => ?_⟩; (repeat' (first | exact h | refine And.intro ?_ ?_ | omega | rfl)); done)))) | (refine Rn_seq ?_) | (refine Rn_block ?_) | (apply Rn_region' lv25; (exact rfl)) | (refine Rn_region ?_) | (apply Rn_op'; (exact rfl)) | (refine Rn_o_nil ?_) | ((first | apply Rn_g | apply Rd_g); (exact rfl); (exact rfl); (focus (intro K0; (try simp only [lookT, ev, Nat.reduceEqDiff, ↓reduceIte]); exact ⟨id⟩))) | (with_reducible (first | apply RnG_yes | apply RdG_yes)) | ((with_reducible (first | apply RnG_t_no | apply RnG_f_no | apply RnG_un | apply RdG_t_no | apply RdG_f_no | apply RdG_un)); (exact rfl)) | ((first | apply RnG_never | apply RdG_never); (focus (intro K0; (try simp only [go_sem]); exact ⟨id⟩)); (exact rfl)) | ((first | apply RnG_lazy | apply RdG_lazy); (exact rfl); (focus (intro K0; (try simp only [go_sem]); exact ⟨id⟩)); (focus (first | (simp only [Nat.reduceLT]; done) | omega)); (focus (intro hw0; (try simp only [Bool.and_eq_true, Bool.not_eq_true', beq_true', beq_false'] at hw0); (focus (intro K0; (try simp only [go_sem, *]); (first | exact ⟨id⟩ | (refine ⟨fun h => ?_⟩; (repeat' (first | exact h | refine And.intro ?_ ?_ | omega | rfl)); done))))))) | (apply Rn_c; (focus (intro K0; (try simp only [lookT, ev, Nat.reduceEqDiff, ↓reduceIte]); exact ⟨id⟩))) | (with_reducible (first | refine RnC_t ?_ | refine RnC_f ?_)) | (refine Rn_skip ?_) | (refine Rn_exit rfl ?_) | (refine Rn_b ?_) | (apply Rn_draw' lv25; (exact rfl)) | (refine Rn_draw ?_) | (apply Rd_op'; (exact rfl)) | (refine Rd_nil (by kernel_rfl) ?_) | ((with_reducible (first | refine RnG_split (fun h => ?_) (fun h => ?_) | refine RdG_split (fun h => ?_) (fun h => ?_) | refine RnC_split (fun h => ?_) (fun h => ?_))) <;> (have h' := h) <;> (try simp only [decide_eq_true_eq, decide_eq_false_iff_not, Bool.not_eq_true', Bool.not_eq_false', Bool.and_eq_true, Bool.or_eq_true, Bool.or_eq_false_iff, beq_iff_eq, bne_iff_ne, ne_eq, Bool.not_true, Bool.not_false, not_false_eq_true, reduceCtorEq, beq_eq_false_iff_ne, bne_eq_false_iff_eq] at h') <;> (first | apply Rn_st | apply Rd_st)) | (refine Rn_out_ck rfl rfl ?_) | (first | refine Rn_ret_ck ?_ | refine Rn_ret ?_ | refine Rn_nil_then ?_) | (refine LoopN_step (T := []) ?_) | (refine Rn_nil ?_)))
  · intro K0; (try simp only [go_sem]); exact ⟨id⟩
  refine Rn_isnil (sz := 5) rfl (.inl rfl) rfl rfl (Nat.le_of_ble_eq_true rfl) rfl rfl (by kernel_rfl) (fun q hq => ?_)
  apply Rn_o_st
  · intro K0; (try simp only [go_sem]); exact ⟨id⟩
  cases q with
  | true =>
    have h0 : l = [] := by have := hq rfl; simpa using this
    subst h0
    (any_goals refine go lv25 0 ?_)
    repeat' (first | (refine Br.go (fun h h' => ?_) (fun h h' => ?_)) | (refine Br.mk (fun h => ?_) (fun h => ?_)))
    all_goals (try simp only [go_sem])
  | false =>
    clear hq
    (any_goals refine go lv25 0 ?_)
    repeat' (first | (refine Br.go (fun h h' => ?_) (fun h h' => ?_)) | (refine Br.mk (fun h => ?_) (fun h => ?_)))
    all_goals (try simp only [go_sem])
def sp_cloneThreadP (st : St) (d : Nat) (args : List AV) (K : AV → List Loc → List (Loc × Cont) → Prop) : Prop := match args with
  | [.r (.rs 5 xs)] => (xs = (threadsOf xs).map threadR ∧ xs.length ≤ 1000000000) ∧ K (ren (fun _ => d) (fun _ => st.cur d) (.os 0 1)) [.R d] [(.R d, .s (1 + st.cur d) (.sl 56 5 ((threadsOf xs).map threadC)))]
  | _ => False
theorem sp_cloneThreadP_ok (st : St) (d : Nat) (args : List AV) (K : AV → List Loc → List (Loc × Cont) → Prop) (h : sp_cloneThreadP st d args K) : ∃ r ls outs, CallR Cx 25 st args r ls outs ∧ K r ls outs := by
  unfold sp_cloneThreadP at h
  split at h
  · exact ⟨_, _, _, CallR.own (cloneThreadP_c _ h.1) rfl (cloneThreadP_rows _) rfl d, h.2⟩
  · exact h.elim
noncomputable def ct_cloneThreadP : Ct Cx := .res 25 sp_cloneThreadP en25 sp_cloneThreadP_ok
@[go_sem] theorem ct_cloneThreadP_g : ct_cloneThreadP.g = 25 := rfl
@[go_sem] theorem ct_cloneThreadP_run (c : Call) (fop : Operand) (caps : List AV) (o : Oper) (st : St) (K : List Loc → List (Loc × Cont) → Prop) : ct_cloneThreadP.run c fop caps o st K = callG sp_cloneThreadP c fop caps o st K := rfl
@[go_sem] theorem sp_cloneThreadP_eq (st : St) (d : Nat) (args : List AV) (K : AV → List Loc → List (Loc × Cont) → Prop) : sp_cloneThreadP st d args K = (match args with
    | [.r (.rs 5 xs)] => (xs = (threadsOf xs).map threadR ∧ xs.length ≤ 1000000000) ∧ K (ren (fun _ => d) (fun _ => st.cur d) (.os 0 1)) [.R d] [(.R d, .s (1 + st.cur d) (.sl 56 5 ((threadsOf xs).map threadC)))]
    | _ => False) := rfl
theorem cloneThread_c (xs : List (List RV)) (h : xs = (threadsOf xs).map threadR ∧ xs.length ≤ 1000000000) : FC Cx 25 [.r (.rs 5 xs)] [] (threadsV (threadsOf xs)) [] := (cloneThreadP_c xs h).freeze1 (roThreadC _).symm
def sp_cloneThread (args : List AV) (K : AV → Prop) : Prop := match args with
  | [.r (.rs 5 xs)] => (xs = (threadsOf xs).map threadR ∧ xs.length ≤ 1000000000) ∧ K (threadsV (threadsOf xs))
  | _ => False
theorem sp_cloneThread_ok (args : List AV) (K : AV → Prop) (h : sp_cloneThread args K) : ∃ r, CallOk Cx 25 args r ∧ K r := by
  unfold sp_cloneThread at h
  split at h
  · exact ⟨_, CallOk_of (cloneThread_c _ h.1) en25 rfl rfl, h.2⟩
  · exact h.elim
noncomputable def ct_cloneThread : Ct Cx := .pure 25 sp_cloneThread sp_cloneThread_ok
@[go_sem] theorem ct_cloneThread_g : ct_cloneThread.g = 25 := rfl
@[go_sem] theorem ct_cloneThread_run (c : Call) (fop : Operand) (caps : List AV) (o : Oper) (st : St) (K : List Loc → List (Loc × Cont) → Prop) : ct_cloneThread.run c fop caps o st K = callT Cx sp_cloneThread c fop caps o st K := rfl
@[go_sem] theorem sp_cloneThread_eq (args : List AV) (K : AV → Prop) : sp_cloneThread args K = (match args with
    | [.r (.rs 5 xs)] => (xs = (threadsOf xs).map threadR ∧ xs.length ≤ 1000000000) ∧ K (threadsV (threadsOf xs))
    | _ => False) := rfl
theorem flatFrameC (l : List FrameT) : ∀ row ∈ l.map frameC, withinL none0 row = true := fun row h => by
  obtain ⟨x, _, rfl⟩ := List.mem_map.1 h; rfl
@[go_sem] theorem okFrameC : ∀ l : List FrameT, okRows (l.map frameC) = true
  | [] => rfl
  | x :: l => okFrameC l
@[go_sem] theorem roFrameC (l : List FrameT) : ((l.map frameR).map fun r => r.map AV.r) = l.map frameC := by rw [List.map_map]; rfl
theorem cloneFrameP_rows (xs : List (List RV)) : ∀ row ∈ (framesOf xs).map frameC, withinL none0 row = true := flatFrameC _
theorem cloneFrameP_c (xs : List (List RV)) (h : xs = (framesOf xs).map frameR ∧ xs.length ≤ 1000000000) : FC Cx 26 [.r (.rs 8 xs)] [] (.os 0 1) [(0, 1, .sl 61 8 ((framesOf xs).map frameC))] := by
  have hl : (framesOf xs).length = xs.length := by simp [framesOf]
  have hlenS : ∀ l : List FrameT, (l.map frameC).length = l.length := fun l => List.length_map ..
  obtain ⟨h1, h2⟩ := h
  generalize framesOf xs = l at h1 hl
  subst h1
  rw [← hl] at h2
  refine FCo_of [] (i := 0) [.os 0 1] Tryz.func26 rfl Tryz.ntmps26 (by simp) Tryz.results26 (flatFrameC _) ?_
  apply Rn_st; (intro K0; simp only [go_sem]; exact ⟨id⟩)
  iterate 8 (any_goals (first | (focus (intro K0; (try simp only [go_sem, *]); (first | exact ⟨id⟩ | (refine ⟨fun h => ?_⟩; (repeat' (first | exact h | refine And.intro ?_ ?_ | omega | rfl)); done)))) | (refine Rn_seq ?_) | (refine Rn_block ?_) | (apply Rn_region' lv26; (exact rfl)) | (refine Rn_region ?_) | (apply Rn_op'; (exact rfl)) | (refine Rn_o_nil ?_) | ((first | apply Rn_g | apply Rd_g); (exact rfl); (exact rfl); (focus (intro K0; (try simp only [lookT, ev, Nat.reduceEqDiff, ↓reduceIte]); exact ⟨id⟩))) | (with_reducible (first | apply RnG_yes | apply RdG_yes)) | ((with_reducible (first | apply RnG_t_no | apply RnG_f_no | apply RnG_un | apply RdG_t_no | apply RdG_f_no | apply RdG_un)); (exact rfl)) | ((first | apply RnG_never | apply RdG_never); (focus (intro K0; (try simp only [go_sem]); exact ⟨id⟩)); (exact rfl)) | ((first | apply RnG_lazy | apply RdG_lazy); (exact rfl); (focus (intro K0; (try simp only [go_sem]); exact ⟨id⟩)); (focus (first | (simp only [Nat.reduceLT]; done) | omega)); (focus (intro hw0; (try simp only [Bool.and_eq_true, Bool.not_eq_true', beq_true', beq_false'] at hw0); (focus (intro K0; (try simp only [go_sem, *]); (first | exact ⟨id⟩ | (refine ⟨fun h => ?_⟩; (repeat' (first | exact h | refine And.intro ?_ ?_ | omega | rfl)); done))))))) | (apply Rn_c; (focus (intro K0; (try simp only [lookT, ev, Nat.reduceEqDiff, ↓reduceIte]); exact ⟨id⟩))) | (with_reducible (first | refine RnC_t ?_ | refine RnC_f ?_)) | (refine Rn_skip ?_) | (refine Rn_exit rfl ?_) | (refine Rn_b ?_) | (apply Rn_draw' lv26; (exact rfl)) | (refine Rn_draw ?_) | (apply Rd_op'; (exact rfl)) | (refine Rd_nil (by kernel_rfl) ?_) | ((with_reducible (first | refine RnG_split (fun h => ?_) (fun h => ?_) | refine RdG_split (fun h => ?_) (fun h => ?_) | refine RnC_split (fun h => ?_) (fun h => ?_))) <;> (have h' := h) <;> (try simp only [decide_eq_true_eq, decide_eq_false_iff_not, Bool.not_eq_true', Bool.not_eq_false', Bool.and_eq_true, Bool.or_eq_true, Bool.or_eq_false_iff, beq_iff_eq, bne_iff_ne, ne_eq, Bool.not_true, Bool.not_false, not_false_eq_true, reduceCtorEq, beq_eq_false_iff_ne, bne_eq_false_iff_eq] at h') <;> (first | apply Rn_st | apply Rd_st)) | (refine Rn_out_ck rfl rfl ?_) | (first | refine Rn_ret_ck ?_ | refine Rn_ret ?_ | refine Rn_nil_then ?_) | (refine LoopN_step (T := []) ?_) | (refine Rn_nil ?_)))
  · intro K0; (try simp only [go_sem]); exact ⟨id⟩
  refine Rn_isnil (sz := 8) rfl (.inl rfl) rfl rfl (Nat.le_of_ble_eq_true rfl) rfl rfl (by kernel_rfl) (fun q hq => ?_)
  apply Rn_o_st
  · intro K0; (try simp only [go_sem]); exact ⟨id⟩
  cases q with
  | true =>
    have h0 : l = [] := by have := hq rfl; simpa using this
    subst h0
    (any_goals refine go lv26 0 ?_)
    repeat' (first | (refine Br.go (fun h h' => ?_) (fun h h' => ?_)) | (refine Br.mk (fun h => ?_) (fun h => ?_)))
    all_goals (try simp only [go_sem])
  | false =>
    clear hq
    (any_goals refine go lv26 0 ?_)
    repeat' (first | (refine Br.go (fun h h' => ?_) (fun h h' => ?_)) | (refine Br.mk (fun h => ?_) (fun h => ?_)))
    all_goals (try simp only [go_sem])
def sp_cloneFrameP (st : St) (d : Nat) (args : List AV) (K : AV → List Loc → List (Loc × Cont) → Prop) : Prop := match args with
  | [.r (.rs 8 xs)] => (xs = (framesOf xs).map frameR ∧ xs.length ≤ 1000000000) ∧ K (ren (fun _ => d) (fun _ => st.cur d) (.os 0 1)) [.R d] [(.R d, .s (1 + st.cur d) (.sl 61 8 ((framesOf xs).map frameC)))]
  | _ => False
theorem sp_cloneFrameP_ok (st : St) (d : Nat) (args : List AV) (K : AV → List Loc → List (Loc × Cont) → Prop) (h : sp_cloneFrameP st d args K) : ∃ r ls outs, CallR Cx 26 st args r ls outs ∧ K r ls outs := by
  unfold sp_cloneFrameP at h
  split at h
  · exact ⟨_, _, _, CallR.own (cloneFrameP_c _ h.1) rfl (cloneFrameP_rows _) rfl d, h.2⟩
  · exact h.elim
noncomputable def ct_cloneFrameP : Ct Cx := .res 26 sp_cloneFrameP en26 sp_cloneFrameP_ok
@[go_sem] theorem ct_cloneFrameP_g : ct_cloneFrameP.g = 26 := rfl
@[go_sem] theorem ct_cloneFrameP_run (c : Call) (fop : Operand) (caps : List AV) (o : Oper) (st : St) (K : List Loc → List (Loc × Cont) → Prop) : ct_cloneFrameP.run c fop caps o st K = callG sp_cloneFrameP c fop caps o st K := rfl
@[go_sem] theorem sp_cloneFrameP_eq (st : St) (d : Nat) (args : List AV) (K : AV → List Loc → List (Loc × Cont) → Prop) : sp_cloneFrameP st d args K = (match args with
    | [.r (.rs 8 xs)] => (xs = (framesOf xs).map frameR ∧ xs.length ≤ 1000000000) ∧ K (ren (fun _ => d) (fun _ => st.cur d) (.os 0 1)) [.R d] [(.R d, .s (1 + st.cur d) (.sl 61 8 ((framesOf xs).map frameC)))]
    | _ => False) := rfl
theorem cloneFrame_c (xs : List (List RV)) (h : xs = (framesOf xs).map frameR ∧ xs.length ≤ 1000000000) : FC Cx 26 [.r (.rs 8 xs)] [] (framesV (framesOf xs)) [] := (cloneFrameP_c xs h).freeze1 (roFrameC _).symm
def sp_cloneFrame (args : List AV) (K : AV → Prop) : Prop := match args with
  | [.r (.rs 8 xs)] => (xs = (framesOf xs).map frameR ∧ xs.length ≤ 1000000000) ∧ K (framesV (framesOf xs))
  | _ => False
theorem sp_cloneFrame_ok (args : List AV) (K : AV → Prop) (h : sp_cloneFrame args K) : ∃ r, CallOk Cx 26 args r ∧ K r := by
  unfold sp_cloneFrame at h
  split at h
  · exact ⟨_, CallOk_of (cloneFrame_c _ h.1) en26 rfl rfl, h.2⟩
  · exact h.elim
noncomputable def ct_cloneFrame : Ct Cx := .pure 26 sp_cloneFrame sp_cloneFrame_ok
@[go_sem] theorem ct_cloneFrame_g : ct_cloneFrame.g = 26 := rfl
@[go_sem] theorem ct_cloneFrame_run (c : Call) (fop : Operand) (caps : List AV) (o : Oper) (st : St) (K : List Loc → List (Loc × Cont) → Prop) : ct_cloneFrame.run c fop caps o st K = callT Cx sp_cloneFrame c fop caps o st K := rfl
@[go_sem] theorem sp_cloneFrame_eq (args : List AV) (K : AV → Prop) : sp_cloneFrame args K = (match args with
    | [.r (.rs 8 xs)] => (xs = (framesOf xs).map frameR ∧ xs.length ≤ 1000000000) ∧ K (framesV (framesOf xs))
    | _ => False) := rfl
theorem stateTurned_no (p : ProgT) (s : StateT) (th reg k n : Int) (hw : Pwf p) (hs : Swf s) (h : faultS p s ≠ 0 ∨ th < 0 ∨ (s.threads.length : Int) ≤ th ∨ ∃ t, s.threads[th.toNat]? = some t ∧ t.frames.length = 0) : FC Cx 5 [progV p, stateV s, Iv th, Iv reg, VV k n] [] (Bv true) [] := by
  have l1 : (s.threads.map threadR).length = s.threads.length := List.length_map ..
  by_cases hf : faultS p s = 0
  case neg =>
    have d0 : decide (faultS p s = 0) = false := by simpa using hf
    clear hf h
    refine FCp_of [ct_stateLives, ct_stFault'] Tryz.func5 rfl Tryz.ntmps5 (by simp) Tryz.results5 rfl ?_
    apply Rn_st; (intro K0; simp only [go_sem]; exact ⟨id⟩)
    refine goR (L := []) (n := 0) ?_
    (apply Rn_frzB 5; (exact rfl); (exact rfl); (exact rfl); (intro K0; (try simp only [go_sem]); exact ⟨id⟩))
    (apply Rn_frzB 6; (exact rfl); (exact rfl); (exact rfl); (intro K0; (try simp only [go_sem]); exact ⟨id⟩))
    (apply Rn_frzB 9; (exact rfl); (exact rfl); (exact rfl); (intro K0; (try simp only [go_sem]); exact ⟨id⟩))
    (any_goals refine go lv5 0 ?_)
    repeat' (first | (refine Br.go (fun h h' => ?_) (fun h h' => ?_)) | (refine Br.mk (fun h => ?_) (fun h => ?_)))
    all_goals (try simp only [go_sem])
  have d0 : decide (faultS p s = 0) = true := by simpa using hf
  replace h := h.resolve_left (fun h => h hf)
  clear hf
  by_cases h0 : th < 0
  · have d1 : decide (th < 0) = true := by simpa using h0
    clear h h0
    refine FCp_of [ct_stateLives, ct_stFault'] Tryz.func5 rfl Tryz.ntmps5 (by simp) Tryz.results5 rfl ?_
    apply Rn_st; (intro K0; simp only [go_sem]; exact ⟨id⟩)
    refine goR (L := []) (n := 0) ?_
    (apply Rn_frzB 5; (exact rfl); (exact rfl); (exact rfl); (intro K0; (try simp only [go_sem]); exact ⟨id⟩))
    (apply Rn_frzB 6; (exact rfl); (exact rfl); (exact rfl); (intro K0; (try simp only [go_sem]); exact ⟨id⟩))
    (apply Rn_frzB 9; (exact rfl); (exact rfl); (exact rfl); (intro K0; (try simp only [go_sem]); exact ⟨id⟩))
    (any_goals refine go lv5 0 ?_)
    repeat' (first | (refine Br.go (fun h h' => ?_) (fun h h' => ?_)) | (refine Br.mk (fun h => ?_) (fun h => ?_)))
    all_goals (try simp only [go_sem])
  have d1 : decide (th < 0) = false := by simpa using h0
  replace h := h.resolve_left h0
  by_cases h2 : (s.threads.length : Int) ≤ th
  · have d2 : decide ((s.threads.length : Int) ≤ th) = true := by simpa using h2
    clear h
    refine FCp_of [ct_stateLives, ct_stFault'] Tryz.func5 rfl Tryz.ntmps5 (by simp) Tryz.results5 rfl ?_
    apply Rn_st; (intro K0; simp only [go_sem]; exact ⟨id⟩)
    refine goR (L := []) (n := 0) ?_
    (apply Rn_frzB 5; (exact rfl); (exact rfl); (exact rfl); (intro K0; (try simp only [go_sem]); exact ⟨id⟩))
    (apply Rn_frzB 6; (exact rfl); (exact rfl); (exact rfl); (intro K0; (try simp only [go_sem]); exact ⟨id⟩))
    (apply Rn_frzB 9; (exact rfl); (exact rfl); (exact rfl); (intro K0; (try simp only [go_sem]); exact ⟨id⟩))
    (any_goals refine go lv5 0 ?_)
    repeat' (first | (refine Br.go (fun h h' => ?_) (fun h h' => ?_)) | (refine Br.mk (fun h => ?_) (fun h => ?_)))
    all_goals (try simp only [go_sem])
  have d2 : decide ((s.threads.length : Int) ≤ th) = false := by simpa using h2
  obtain ⟨t, ht, hl⟩ := h.resolve_left h2
  have hg := getD_map threadR ht ([] : List RV)
  have lf : (t.frames.map frameR).length = t.frames.length := List.length_map ..
  have h00 : 0 ≤ th := by omega
  have h22 : th < (s.threads.length : Int) := by omega
  have d3 : decide ((t.frames.length : Int) = 0) = true := by rw [decide_eq_true_eq]; omega
  clear h h0 h2 hl
  refine FCp_of [ct_stateLives, ct_stFault'] Tryz.func5 rfl Tryz.ntmps5 (by simp) Tryz.results5 rfl ?_
  apply Rn_st; (intro K0; simp only [go_sem]; exact ⟨id⟩)
  refine goR (L := []) (n := 0) ?_
  (apply Rn_frzB 5; (exact rfl); (exact rfl); (exact rfl); (intro K0; (try simp only [go_sem]); exact ⟨id⟩))
  (apply Rn_frzB 6; (exact rfl); (exact rfl); (exact rfl); (intro K0; (try simp only [go_sem]); exact ⟨id⟩))
  (apply Rn_frzB 9; (exact rfl); (exact rfl); (exact rfl); (intro K0; (try simp only [go_sem]); exact ⟨id⟩))
  (any_goals refine go lv5 0 ?_)
  repeat' (first | (refine Br.go (fun h h' => ?_) (fun h h' => ?_)) | (refine Br.mk (fun h => ?_) (fun h => ?_)))
  all_goals (try simp only [go_sem])
abbrev valN (v : Int × Int) : List NV := [.r (.v (.int .i64 v.1)), .r (.v (.int .i64 v.2))]
abbrev frameN (f : FrameT) : List NV := [.r (.v (.int .i64 f.fn)), .r (.v (.int .i64 f.pc)), .r (.v (.int .i64 f.tov)), .r (.v (.int .i64 f.gen)), .r (.v (.int .i64 f.self.1)), .r (.v (.int .i64 f.self.2)), .r (.rs 2 (f.regs.map valR)), .r (.rs 2 (f.tries.map tryR))]
abbrev frameM (f : FrameT) : List NV := [.r (.v (.int .i64 f.fn)), .r (.v (.int .i64 f.pc)), .r (.v (.int .i64 f.tov)), .r (.v (.int .i64 f.gen)), .r (.v (.int .i64 f.self.1)), .r (.v (.int .i64 f.self.2)), .nd 50 2 (f.regs.map valN), .r (.rs 2 (f.tries.map tryR))]
theorem ndRs_val (l : List (Int × Int)) : ndRs (l.map valN) = l.map valR := by rw [ndRs_map, List.map_map]; rfl
theorem ndRs_frame (l : List FrameT) : ndRs (l.map frameN) = l.map frameR := by rw [ndRs_map, List.map_map]; rfl
theorem ndRs_set (l : List FrameT) (i : Nat) (f : FrameT) : ndRs ((l.map frameN).set i (frameM f)) = (l.set i f).map frameR := by
  have h := ndRs_frame l
  rw [ndRs_map] at h ⊢
  rw [List.map_set, h, List.map_set]
  congr 1
  show [_, _, _, _, _, _, RV.rs 2 (ndRs (f.regs.map valN)), _] = _
  rw [ndRs_val]; rfl
theorem threadEB (t : ThreadT) : rowEB (threadC t) (threadR t) := ⟨rfl, rfl, rfl, rfl, rfl, trivial⟩
theorem fits_lit {s : StateT} {k n : Int} (h : (decide (k = 0) && decide (n = 0) || decide (k = 1) && decide (n = 1) || decide (k = 2) && decide (n = 5) || decide (k = 4) && decide (0 ≤ n) && decide (n < ((s.texts.map strR).length : Int))) = true) : fitsF s (k, n) = true := by
  rw [List.length_map] at h
  simp only [Bool.or_eq_true, Bool.and_eq_true, decide_eq_true_eq] at h
  unfold fitsF
  rcases h with ((⟨rfl, rfl⟩ | ⟨rfl, rfl⟩) | ⟨rfl, rfl⟩) | ⟨⟨rfl, h1⟩, h2⟩
  · rfl
  · rfl
  · rfl
  · simp [rightF, h1, h2]
theorem turned_wf {s : StateT} {i j r : Nat} {t : ThreadT} {f : FrameT} {v : Int × Int} (hs : Swf s) (ht : s.threads[i]? = some t) (hf : t.frames[j]? = some f) : Swf (withT s (s.threads.set i { t with frames := t.frames.set j { f with regs := f.regs.set r v } })) := by
  obtain ⟨⟨a1, a2, a3, a4, a5, a6⟩, b, c, d⟩ := hs
  refine ⟨⟨a1, a2, a3, by show (s.threads.set i _).length ≤ _; rw [List.length_set]; exact a4, a5, a6⟩, b, c, fun x hx => ?_⟩
  rcases List.mem_or_eq_of_mem_set hx with hx | rfl
  · exact d x hx
  · obtain ⟨d1, d2⟩ := d t (List.mem_of_getElem? ht)
    refine ⟨by show (t.frames.set j _).length ≤ _; rw [List.length_set]; exact d1, fun g hg => ?_⟩
    rcases List.mem_or_eq_of_mem_set hg with hg | rfl
    · exact d2 g hg
    · have := d2 f (List.mem_of_getElem? hf)
      exact ⟨by show (f.regs.set r v).length ≤ _; rw [List.length_set]; exact this.regs, this.tries, this.gen⟩
theorem stateTurned_yes (p : ProgT) (s : StateT) (th reg k n : Int) (t : ThreadT) (f : FrameT) (hw : Pwf p) (hs : Swf s) (hf : faultS p s = 0) (h00 : 0 ≤ th) (ht : s.threads[th.toNat]? = some t) (hfr : t.frames[t.frames.length - 1]? = some f) : FC Cx 5 [progV p, stateV s, Iv th, Iv reg, VV k n] [] (Bv true) [] := by
  have l1 : (s.threads.map threadR).length = s.threads.length := List.length_map ..
  have l2 : (s.threads.map threadC).length = s.threads.length := List.length_map ..
  have l3 : (t.frames.map frameR).length = t.frames.length := List.length_map ..
  have l4 : (t.frames.map frameC).length = t.frames.length := List.length_map ..
  have l5 : (f.regs.map valR).length = f.regs.length := List.length_map ..
  have l6 : (f.regs.map valC).length = f.regs.length := List.length_map ..
  have hg := getD_map threadR ht ([] : List RV)
  have hgC := getD_map threadC ht ([] : List AV)
  have hgf := getD_map frameC hfr ([] : List AV)
  have h22 : th < (s.threads.length : Int) := by have := (List.getElem?_eq_some_iff.1 ht).1; omega
  have hfl := (List.getElem?_eq_some_iff.1 hfr).1
  have d0 : decide (faultS p s = 0) = true := by simpa using hf
  have d1 : decide (th < 0) = false := by rw [decide_eq_false_iff_not]; omega
  have d2 : decide ((s.threads.length : Int) ≤ th) = false := by rw [decide_eq_false_iff_not]; omega
  have d3 : decide ((t.frames.length : Int) = 0) = false := by rw [decide_eq_false_iff_not]; omega
  have hR := rightS_iff.1 hf
  have h5 : s.threads.length ≤ 5 ∧ t.frames.length ≤ 30 := by
    have := hR.few
    unfold manyS at this
    simp only [Bool.or_eq_false_iff, decide_eq_false_iff_not, List.any_eq_false, decide_eq_true_eq] at this
    have h1 := this.2 t (List.mem_of_getElem? ht)
    omega
  have w1 : IntKind.i64.wrap ((t.frames.length : Int) - 1) = (t.frames.length : Int) - 1 := by rw [wrap_id] <;> omega
  have t1 : Int.toNat ((t.frames.length : Int) - 1) = t.frames.length - 1 := by omega
  clear hf
  refine FCp_of [ct_stateLives, ct_stFault', ct_cloneThreadP, ct_cloneFrameP, ct_cloneValP] Tryz.func5 rfl Tryz.ntmps5 (by simp) Tryz.results5 rfl ?_
  apply Rn_st; (intro K0; simp only [go_sem]; exact ⟨id⟩)
  refine goR (L := []) (n := 0) ?_
  (apply Rn_frzB 5; (exact rfl); (exact rfl); (exact rfl); (intro K0; (try simp only [go_sem]); exact ⟨id⟩))
  (apply Rn_frzB 6; (exact rfl); (exact rfl); (exact rfl); (intro K0; (try simp only [go_sem]); exact ⟨id⟩))
  (apply Rn_frzB 9; (exact rfl); (exact rfl); (exact rfl); (intro K0; (try simp only [go_sem]); exact ⟨id⟩))
  (any_goals refine go (dropL 8 lv5) 0 ?_)
  repeat' (first | (refine Br.go (fun h h' => ?_) (fun h h' => ?_)) | (refine Br.mk (fun h => ?_) (fun h => ?_)))
  all_goals (try simp only [go_sem])
  generalize hE : (decide (k = 0) && decide (n = 0) || decide (k = 1) && decide (n = 1) || decide (k = 2) && decide (n = 5) || decide (k = 4) && decide (0 ≤ n) && decide (n < ((s.texts.map strR).length : Int))) = e
  by_cases hr0 : reg < 0
  · have e0 : decide (reg < 0) = true := by simpa using hr0
    clear hr0
    (any_goals refine go lv5 0 ?_)
    repeat' (first | (refine Br.go (fun h h' => ?_) (fun h h' => ?_)) | (refine Br.mk (fun h => ?_) (fun h => ?_)))
    all_goals (try simp only [go_sem])
  have e0 : decide (reg < 0) = false := by simpa using hr0
  by_cases hr1 : (f.regs.length : Int) ≤ reg
  · have e1 : decide ((f.regs.length : Int) ≤ reg) = true := by simpa using hr1
    clear hr0
    (any_goals refine go lv5 0 ?_)
    repeat' (first | (refine Br.go (fun h h' => ?_) (fun h h' => ?_)) | (refine Br.mk (fun h => ?_) (fun h => ?_)))
    all_goals (try simp only [go_sem])
  have e1 : decide ((f.regs.length : Int) ≤ reg) = false := by simpa using hr1
  have r0 : 0 ≤ reg := by omega
  have r1 : reg < (f.regs.length : Int) := by omega
  obtain ⟨q, hq⟩ : ∃ q, f.regs[reg.toNat]? = some q := ⟨f.regs[reg.toNat]'(by omega), List.getElem?_eq_getElem _⟩
  have hgV := getD_map valC hq ([] : List AV)
  have lr : f.regs.length ≤ 1000000000 := by
    obtain ⟨_, ho, _⟩ := stackR_at (hR.threads t (List.mem_of_getElem? ht)).2 hfr
    have := frame_regs hw hR.prog (on_frame ho); omega
  have ls : ∀ X, ((t.frames.map frameC).set (t.frames.length - 1) X).length = t.frames.length := fun X => by rw [List.length_set, List.length_map]
  have gs : ∀ X, ((t.frames.map frameC).set (t.frames.length - 1) X).getD (t.frames.length - 1) [] = X := fun X => by
    rw [List.getD_eq_getElem?_getD, List.getElem?_set_self (by rw [List.length_map]; exact hfl)]; rfl
  have ss : ∀ X Y, ((t.frames.map frameC).set (t.frames.length - 1) X).set (t.frames.length - 1) Y = (t.frames.map frameC).set (t.frames.length - 1) Y := fun X Y => List.set_set ..
  clear hr0 hr1
  cases e with
  | false =>
    clear hE
    (any_goals refine go lv5 0 ?_)
    repeat' (first | (refine Br.go (fun h h' => ?_) (fun h h' => ?_)) | (refine Br.mk (fun h => ?_) (fun h => ?_)))
    all_goals (try simp only [go_sem])
  | true =>
    (any_goals refine go (dropL 13 lv5) 0 ?_)
    repeat' (first | (refine Br.go (fun h h' => ?_) (fun h h' => ?_)) | (refine Br.mk (fun h => ?_) (fun h => ?_)))
    all_goals (try simp only [go_sem])
    have hT := turned_right (r := reg.toNat) hR ht hfr (fits_lit hE)
    have hTf := rightS_iff.2 hT
    have hTw := turned_wf (r := reg.toNat) (v := (k, n)) hs ht hfr
    clear hE hT
    generalize hf' : ({ f with regs := f.regs.set reg.toNat (k, n) } : FrameT) = f' at *
    have e1' : f'.fn = f.fn := by rw [← hf']
    have k1 : ((f.regs.map valC).set reg.toNat [.r (.v (.int .i64 k)), .r (.v (.int .i64 n))]) = (f'.regs.map valN).map (List.map nvC) := by
      rw [← hf', List.map_map]
      exact (List.map_set (f := valC) (l := f.regs) (i := reg.toNat) (a := (k, n))).symm
    (apply Rn_closeS 102 (t.frames.length - 1) 6 124 (f'.regs.map valN); (exact rfl); (exact List.getElem?_set_self (by rw [List.length_map]; exact hfl)); (exact rfl); (exact (by decide)); (exact congrArg (fun z => (1, Res.sl 50 2 z)) k1); (exact rfl); (intro K0; (try simp only [go_sem, ss]); exact ⟨id⟩))
    have st2 : ∀ X Y, ((s.threads.map threadC).set th.toNat X).set th.toNat Y = (s.threads.map threadC).set th.toNat Y := fun X Y => List.set_set ..
    have hth := (List.getElem?_eq_some_iff.1 ht).1
    have k2 : (t.frames.map frameC).set (t.frames.length - 1) [Iv f.fn, Iv f.pc, Iv f.tov, Iv f.gen, Iv f.self.1, Iv f.self.2, .nd 50 2 (f'.regs.map valN), triesV f.tries] = ((t.frames.map frameN).set (t.frames.length - 1) (frameM f')).map (List.map nvC) := by
      rw [List.map_set, List.map_map, ← hf']; rfl
    (apply Rn_closeS 94 th.toNat 0 102 ((t.frames.map frameN).set (t.frames.length - 1) (frameM f')); (exact rfl); (exact List.getElem?_set_self (by rw [List.length_map]; exact hth)); (exact rfl); (exact (by decide)); (exact congrArg (fun z => (1, Res.sl 61 8 z)) k2); (exact rfl); (intro K0; (try simp only [go_sem, st2]); exact ⟨id⟩))
    (apply Rn_frzX 94 ((s.threads.set th.toNat { t with frames := t.frames.set (t.frames.length - 1) f' }).map threadR); (exact rfl); (exact (by rw [List.map_set]; exact rowsEB_set (rowsEB_map threadEB) ⟨congrArg (RV.rs 8) (ndRs_set _ _ _).symm, rfl, rfl, rfl, rfl, trivial⟩)); (exact rfl); (intro K0; (try simp only [go_sem]); exact ⟨id⟩))
    clear k1 k2 st2 ss gs ls hf' e1'
    unfold withT at hTf hTw
    generalize (s.threads.set th.toNat { t with frames := t.frames.set (t.frames.length - 1) f' }) = ts at *
    (any_goals refine go lv5 0 ?_)
    repeat' (first | (refine Br.go (fun h h' => ?_) (fun h h' => ?_)) | (refine Br.mk (fun h => ?_) (fun h => ?_)))
    all_goals (try simp only [go_sem])
theorem stateTurned_c (p : ProgT) (s : StateT) (th reg k n : Int) (hw : Pwf p) (hs : Swf s) : FC Cx 5 [progV p, stateV s, Iv th, Iv reg, VV k n] [] (Bv true) [] := by
  by_cases hf : faultS p s = 0
  case neg => exact stateTurned_no p s th reg k n hw hs (.inl hf)
  by_cases h0 : th < 0
  · exact stateTurned_no p s th reg k n hw hs (.inr (.inl h0))
  by_cases h1 : (s.threads.length : Int) ≤ th
  · exact stateTurned_no p s th reg k n hw hs (.inr (.inr (.inl h1)))
  obtain ⟨t, ht⟩ : ∃ t, s.threads[th.toNat]? = some t := ⟨s.threads[th.toNat]'(by omega), List.getElem?_eq_getElem _⟩
  by_cases hl : t.frames.length = 0
  · exact stateTurned_no p s th reg k n hw hs (.inr (.inr (.inr ⟨t, ht, hl⟩)))
  obtain ⟨f, hfr⟩ : ∃ f, t.frames[t.frames.length - 1]? = some f := ⟨t.frames[t.frames.length - 1]'(by omega), List.getElem?_eq_getElem _⟩
  exact stateTurned_yes p s th reg k n t f hw hs hf (by omega) ht hfr
end Go.Proofs.YtbhnmolmkembdaaGreatDoor
