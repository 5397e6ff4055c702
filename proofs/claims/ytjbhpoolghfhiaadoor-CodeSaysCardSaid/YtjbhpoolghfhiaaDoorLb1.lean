/- What the library's comparisons of slices come to. No condition: contracts. -/
import Derived.Test.YtjbhpoolghfhiaaDoorAvS
namespace Go.Proofs.YtjbhpoolghfhiaaDoor
set_option linter.unusedVariables false
set_option linter.unusedSimpArgs false
set_option maxHeartbeats 10000000
open Go
set_option maxRecDepth 10000

theorem getD_map {α β : Type} (f : α → β) {l : List α} {i : Nat} {x : α} (h : l[i]? = some x) (d : β) : (l.map f).getD i d = f x := by simp [List.getD, h]

abbrev strR (s : ByteArray) : List RV := [.v (.string s)]
abbrev strsV (l : List ByteArray) : AV := .r (.rs 1 (l.map strR))
abbrev boolR (b : Bool) : List RV := [.v (.bool b)]
abbrev boolsV (l : List Bool) : AV := .r (.rs 1 (l.map boolR))
abbrev tryR (p : Int × Int) : List RV := [.v (.int .i64 p.1), .v (.int .i64 p.2)]
abbrev triesV (l : List (Int × Int)) : AV := .r (.rs 2 (l.map tryR))

def strsOf (xs : List (List RV)) : List ByteArray := xs.map fun r => match r with | [.v (.string n)] => n | _ => ⟨#[]⟩
def boolsOf (xs : List (List RV)) : List Bool := xs.map fun r => match r with | [.v (.bool n)] => n | _ => false
def triesOf (xs : List (List RV)) : List (Int × Int) := xs.map fun r => match r with | [.v (.int _ n), .v (.int _ m)] => (n, m) | _ => (0, 0)
@[go_sem] theorem strsOf_map (l : List ByteArray) : strsOf (l.map strR) = l := by
  unfold strsOf; rw [List.map_map]; conv => rhs; rw [← List.map_id l]
  exact List.map_congr_left fun x _ => rfl
@[go_sem] theorem boolsOf_map (l : List Bool) : boolsOf (l.map boolR) = l := by
  unfold boolsOf; rw [List.map_map]; conv => rhs; rw [← List.map_id l]
  exact List.map_congr_left fun x _ => rfl
@[go_sem] theorem triesOf_map (l : List (Int × Int)) : triesOf (l.map tryR) = l := by
  unfold triesOf; rw [List.map_map]; conv => rhs; rw [← List.map_id l]
  exact List.map_congr_left fun x _ => rfl
theorem strsOf_at {xs : List (List RV)} (h : xs = (strsOf xs).map strR) : strsV (strsOf xs) = .r (.rs 1 xs) := congrArg (fun z => AV.r (RV.rs 1 z)) h.symm
theorem boolsOf_at {xs : List (List RV)} (h : xs = (boolsOf xs).map boolR) : boolsV (boolsOf xs) = .r (.rs 1 xs) := congrArg (fun z => AV.r (RV.rs 1 z)) h.symm
theorem triesOf_at {xs : List (List RV)} (h : xs = (triesOf xs).map tryR) : triesV (triesOf xs) = .r (.rs 2 xs) := congrArg (fun z => AV.r (RV.rs 2 z)) h.symm

@[go_sem] theorem str_eq (a b : ByteArray) : (a.toList == b.toList) = decide (a = b) := by
  rw [Bool.eq_iff_iff, beq_iff_eq, decide_eq_true_eq]
  refine ⟨fun h => ?_, fun h => by rw [h]⟩
  rw [ByteArray.toList_eq, ByteArray.toList_eq] at h
  exact ByteArray.ext (Array.ext' h)
@[go_sem] theorem str_ne (a b : ByteArray) : (a.toList != b.toList) = !decide (a = b) := by rw [bne, str_eq]

theorem eqStr_c (l m : List ByteArray) (hl : l.length ≤ 9223372036854775807) : FC Cx 15 [strsV l, strsV m] [] (Bv (decide (l = m))) [] := by
  have hlen : (l.map strR).length = l.length := List.length_map ..
  have hlen' : (m.map strR).length = m.length := List.length_map ..
  refine FCp_of [] Tryd.func15 rfl Tryd.ntmps15 (by simp) Tryd.results15 rfl ?_
  apply Rn_st; (intro K0; simp only [go_sem]; exact ⟨id⟩)
  (any_goals refine go lv15 0 ?_)
  repeat' (first | (refine Br.go (fun h h' => ?_) (fun h h' => ?_)) | (refine Br.mk (fun h => ?_) (fun h => ?_)))
  · simp only [go_sem]
    have : l ≠ m := fun he => h' (by rw [he])
    simp [this]
  have hlm : l.length = m.length := by omega
  refine Rn_loopT [0, 1, 12, 13] (fun i => i ≤ l.length ∧ ∀ j, j < i → l[j]? = m[j]?) (fun (i : Nat) => ⟨26, [(0, strsV l), (1, strsV m), (12, Iv m.length), (13, Iv i)], []⟩) (fun i => l.length - i) 0 rfl rfl rfl ⟨Nat.zero_le _, fun j hj => by omega⟩ ?_
  rintro i ⟨hi, hno⟩
  by_cases hlt : i < l.length
  · obtain ⟨x, hx⟩ : ∃ x, l[i]? = some x := ⟨l[i], List.getElem?_eq_getElem hlt⟩
    obtain ⟨y, hy⟩ : ∃ y, m[i]? = some y := ⟨m[i], List.getElem?_eq_getElem (by omega)⟩
    have hg := getD_map strR hx ([] : List RV)
    have hg' := getD_map strR hy ([] : List RV)
    have hw : IntKind.i64.wrap ((i : Int) + 1) = ((i + 1 : Nat) : Int) := by rw [wrap_id] <;> omega
    have h1 : decide ((i : Int) < (m.length : Int)) = true := by rw [decide_eq_true_eq]; omega
    have h2 : Int.toNat (i : Int) = i := by omega
    (any_goals refine go lv15 0 ?_)
    repeat' (first | (refine Br.go (fun h h' => ?_) (fun h h' => ?_)) | (refine Br.mk (fun h => ?_) (fun h => ?_)))
    all_goals (try simp only [go_sem])
    · have h9 := h
      have : l ≠ m := fun he => by
        rw [he] at hx; rw [hx] at hy
        have := Option.some.inj hy
        subst this
        simp at h9
      simp [this]
    · refine ⟨i + 1, ⟨by omega, fun j hj => ?_⟩, by omega, Le_keep [0, 1, 12, 13] rfl rfl rfl⟩
      rcases Nat.lt_succ_iff_lt_or_eq.1 hj with h3 | h3
      · exact hno j h3
      · rw [h3, hx, hy]; exact congrArg some (by first | exact h' | exact Prod.ext h'.1 h'.2 | (cases x; cases y; simp_all))
  · have h1 : decide ((i : Int) < (m.length : Int)) = false := by rw [decide_eq_false_iff_not]; omega
    (any_goals refine go lv15 0 ?_)
    repeat' (first | (refine Br.go (fun h h' => ?_) (fun h h' => ?_)) | (refine Br.mk (fun h => ?_) (fun h => ?_)))
    all_goals (try simp only [go_sem])
    have : l = m := List.ext_getElem? fun j => by
      by_cases hj : j < i
      · exact hno j hj
      · rw [List.getElem?_eq_none (by omega), List.getElem?_eq_none (by omega)]
    simp [this]
theorem eqStr'_c (xs ys : List (List RV)) (h : xs = (strsOf xs).map strR ∧ ys = (strsOf ys).map strR ∧ xs.length ≤ 9223372036854775807) : FC Cx 15 [.r (.rs 1 xs), .r (.rs 1 ys)] [] (Bv (decide (strsOf xs = strsOf ys))) [] := by
  have := eqStr_c (strsOf xs) (strsOf ys) (by simpa [strsOf] using h.2.2)
  rwa [strsOf_at h.1, strsOf_at h.2.1] at this
/-- How calls of this function are met. -/
def sp_eqStr' (args : List AV) (K : AV → Prop) : Prop := match args with
  | [.r (.rs 1 xs), .r (.rs 1 ys)] => (xs = (strsOf xs).map strR ∧ ys = (strsOf ys).map strR ∧ xs.length ≤ 9223372036854775807) ∧ K (Bv (decide (strsOf xs = strsOf ys)))
  | _ => False
theorem sp_eqStr'_ok (args : List AV) (K : AV → Prop) (h : sp_eqStr' args K) : ∃ r, CallOk Cx 15 args r ∧ K r := by
  unfold sp_eqStr' at h
  split at h
  · exact ⟨_, CallOk_of (eqStr'_c _ _ h.1) en15 rfl rfl, h.2⟩
  · exact h.elim
noncomputable def ct_eqStr' : Ct Cx := .pure 15 sp_eqStr' sp_eqStr'_ok
@[go_sem] theorem ct_eqStr'_g : ct_eqStr'.g = 15 := rfl
@[go_sem] theorem ct_eqStr'_run (c : Call) (fop : Operand) (caps : List RV) (o : Oper) (st : St) (K : List Loc → List (Loc × Cont) → Prop) : ct_eqStr'.run c fop caps o st K = callT Cx sp_eqStr' c fop caps o st K := rfl
@[go_sem] theorem sp_eqStr'_eq (args : List AV) (K : AV → Prop) : sp_eqStr' args K = (match args with
    | [.r (.rs 1 xs), .r (.rs 1 ys)] => (xs = (strsOf xs).map strR ∧ ys = (strsOf ys).map strR ∧ xs.length ≤ 9223372036854775807) ∧ K (Bv (decide (strsOf xs = strsOf ys)))
    | _ => False) := rfl


theorem eqBool_c (l m : List Bool) (hl : l.length ≤ 9223372036854775807) : FC Cx 46 [boolsV l, boolsV m] [] (Bv (decide (l = m))) [] := by
  have hlen : (l.map boolR).length = l.length := List.length_map ..
  have hlen' : (m.map boolR).length = m.length := List.length_map ..
  refine FCp_of [] Tryd.func46 rfl Tryd.ntmps46 (by simp) Tryd.results46 rfl ?_
  apply Rn_st; (intro K0; simp only [go_sem]; exact ⟨id⟩)
  (any_goals refine go lv46 0 ?_)
  repeat' (first | (refine Br.go (fun h h' => ?_) (fun h h' => ?_)) | (refine Br.mk (fun h => ?_) (fun h => ?_)))
  · simp only [go_sem]
    have : l ≠ m := fun he => h' (by rw [he])
    simp [this]
  have hlm : l.length = m.length := by omega
  refine Rn_loopT [0, 1, 12, 13] (fun i => i ≤ l.length ∧ ∀ j, j < i → l[j]? = m[j]?) (fun (i : Nat) => ⟨26, [(0, boolsV l), (1, boolsV m), (12, Iv m.length), (13, Iv i)], []⟩) (fun i => l.length - i) 0 rfl rfl rfl ⟨Nat.zero_le _, fun j hj => by omega⟩ ?_
  rintro i ⟨hi, hno⟩
  by_cases hlt : i < l.length
  · obtain ⟨x, hx⟩ : ∃ x, l[i]? = some x := ⟨l[i], List.getElem?_eq_getElem hlt⟩
    obtain ⟨y, hy⟩ : ∃ y, m[i]? = some y := ⟨m[i], List.getElem?_eq_getElem (by omega)⟩
    have hg := getD_map boolR hx ([] : List RV)
    have hg' := getD_map boolR hy ([] : List RV)
    have hw : IntKind.i64.wrap ((i : Int) + 1) = ((i + 1 : Nat) : Int) := by rw [wrap_id] <;> omega
    have h1 : decide ((i : Int) < (m.length : Int)) = true := by rw [decide_eq_true_eq]; omega
    have h2 : Int.toNat (i : Int) = i := by omega
    (any_goals refine go lv46 0 ?_)
    repeat' (first | (refine Br.go (fun h h' => ?_) (fun h h' => ?_)) | (refine Br.mk (fun h => ?_) (fun h => ?_)))
    all_goals (try simp only [go_sem])
    · have h9 := h
      have : l ≠ m := fun he => by
        rw [he] at hx; rw [hx] at hy
        have := Option.some.inj hy
        subst this
        simp at h9
      simp [this]
    · refine ⟨i + 1, ⟨by omega, fun j hj => ?_⟩, by omega, Le_keep [0, 1, 12, 13] rfl rfl rfl⟩
      rcases Nat.lt_succ_iff_lt_or_eq.1 hj with h3 | h3
      · exact hno j h3
      · rw [h3, hx, hy]; exact congrArg some (by first | exact h' | exact Prod.ext h'.1 h'.2 | (cases x; cases y; simp_all))
  · have h1 : decide ((i : Int) < (m.length : Int)) = false := by rw [decide_eq_false_iff_not]; omega
    (any_goals refine go lv46 0 ?_)
    repeat' (first | (refine Br.go (fun h h' => ?_) (fun h h' => ?_)) | (refine Br.mk (fun h => ?_) (fun h => ?_)))
    all_goals (try simp only [go_sem])
    have : l = m := List.ext_getElem? fun j => by
      by_cases hj : j < i
      · exact hno j hj
      · rw [List.getElem?_eq_none (by omega), List.getElem?_eq_none (by omega)]
    simp [this]
theorem eqBool'_c (xs ys : List (List RV)) (h : xs = (boolsOf xs).map boolR ∧ ys = (boolsOf ys).map boolR ∧ xs.length ≤ 9223372036854775807) : FC Cx 46 [.r (.rs 1 xs), .r (.rs 1 ys)] [] (Bv (decide (boolsOf xs = boolsOf ys))) [] := by
  have := eqBool_c (boolsOf xs) (boolsOf ys) (by simpa [boolsOf] using h.2.2)
  rwa [boolsOf_at h.1, boolsOf_at h.2.1] at this
/-- How calls of this function are met. -/
def sp_eqBool' (args : List AV) (K : AV → Prop) : Prop := match args with
  | [.r (.rs 1 xs), .r (.rs 1 ys)] => (xs = (boolsOf xs).map boolR ∧ ys = (boolsOf ys).map boolR ∧ xs.length ≤ 9223372036854775807) ∧ K (Bv (decide (boolsOf xs = boolsOf ys)))
  | _ => False
theorem sp_eqBool'_ok (args : List AV) (K : AV → Prop) (h : sp_eqBool' args K) : ∃ r, CallOk Cx 46 args r ∧ K r := by
  unfold sp_eqBool' at h
  split at h
  · exact ⟨_, CallOk_of (eqBool'_c _ _ h.1) en46 rfl rfl, h.2⟩
  · exact h.elim
noncomputable def ct_eqBool' : Ct Cx := .pure 46 sp_eqBool' sp_eqBool'_ok
@[go_sem] theorem ct_eqBool'_g : ct_eqBool'.g = 46 := rfl
@[go_sem] theorem ct_eqBool'_run (c : Call) (fop : Operand) (caps : List RV) (o : Oper) (st : St) (K : List Loc → List (Loc × Cont) → Prop) : ct_eqBool'.run c fop caps o st K = callT Cx sp_eqBool' c fop caps o st K := rfl
@[go_sem] theorem sp_eqBool'_eq (args : List AV) (K : AV → Prop) : sp_eqBool' args K = (match args with
    | [.r (.rs 1 xs), .r (.rs 1 ys)] => (xs = (boolsOf xs).map boolR ∧ ys = (boolsOf ys).map boolR ∧ xs.length ≤ 9223372036854775807) ∧ K (Bv (decide (boolsOf xs = boolsOf ys)))
    | _ => False) := rfl


theorem eqTry_c (l m : List (Int × Int)) (hl : l.length ≤ 9223372036854775807) : FC Cx 20 [triesV l, triesV m] [] (Bv (decide (l = m))) [] := by
  have hlen : (l.map tryR).length = l.length := List.length_map ..
  have hlen' : (m.map tryR).length = m.length := List.length_map ..
  refine FCp_of [] Tryd.func20 rfl Tryd.ntmps20 (by simp) Tryd.results20 rfl ?_
  apply Rn_st; (intro K0; simp only [go_sem]; exact ⟨id⟩)
  (any_goals refine go lv20 0 ?_)
  repeat' (first | (refine Br.go (fun h h' => ?_) (fun h h' => ?_)) | (refine Br.mk (fun h => ?_) (fun h => ?_)))
  · simp only [go_sem]
    have : l ≠ m := fun he => h' (by rw [he])
    simp [this]
  have hlm : l.length = m.length := by omega
  refine Rn_loopT [0, 1, 12, 13] (fun i => i ≤ l.length ∧ ∀ j, j < i → l[j]? = m[j]?) (fun (i : Nat) => ⟨26, [(0, triesV l), (1, triesV m), (12, Iv m.length), (13, Iv i)], []⟩) (fun i => l.length - i) 0 rfl rfl rfl ⟨Nat.zero_le _, fun j hj => by omega⟩ ?_
  rintro i ⟨hi, hno⟩
  by_cases hlt : i < l.length
  · obtain ⟨x, hx⟩ : ∃ x, l[i]? = some x := ⟨l[i], List.getElem?_eq_getElem hlt⟩
    obtain ⟨y, hy⟩ : ∃ y, m[i]? = some y := ⟨m[i], List.getElem?_eq_getElem (by omega)⟩
    have hg := getD_map tryR hx ([] : List RV)
    have hg' := getD_map tryR hy ([] : List RV)
    have hw : IntKind.i64.wrap ((i : Int) + 1) = ((i + 1 : Nat) : Int) := by rw [wrap_id] <;> omega
    have h1 : decide ((i : Int) < (m.length : Int)) = true := by rw [decide_eq_true_eq]; omega
    have h2 : Int.toNat (i : Int) = i := by omega
    (any_goals refine go lv20 0 ?_)
    repeat' (first | (refine Br.go (fun h h' => ?_) (fun h h' => ?_)) | (refine Br.mk (fun h => ?_) (fun h => ?_)))
    all_goals (try simp only [go_sem])
    · have h9 := h
      have : l ≠ m := fun he => by
        rw [he] at hx; rw [hx] at hy
        have := Option.some.inj hy
        subst this
        simp at h9
      simp [this]
    · refine ⟨i + 1, ⟨by omega, fun j hj => ?_⟩, by omega, Le_keep [0, 1, 12, 13] rfl rfl rfl⟩
      rcases Nat.lt_succ_iff_lt_or_eq.1 hj with h3 | h3
      · exact hno j h3
      · rw [h3, hx, hy]; exact congrArg some (by first | exact h' | exact Prod.ext h'.1 h'.2 | (cases x; cases y; simp_all))
  · have h1 : decide ((i : Int) < (m.length : Int)) = false := by rw [decide_eq_false_iff_not]; omega
    (any_goals refine go lv20 0 ?_)
    repeat' (first | (refine Br.go (fun h h' => ?_) (fun h h' => ?_)) | (refine Br.mk (fun h => ?_) (fun h => ?_)))
    all_goals (try simp only [go_sem])
    have : l = m := List.ext_getElem? fun j => by
      by_cases hj : j < i
      · exact hno j hj
      · rw [List.getElem?_eq_none (by omega), List.getElem?_eq_none (by omega)]
    simp [this]
theorem eqTry'_c (xs ys : List (List RV)) (h : xs = (triesOf xs).map tryR ∧ ys = (triesOf ys).map tryR ∧ xs.length ≤ 9223372036854775807) : FC Cx 20 [.r (.rs 2 xs), .r (.rs 2 ys)] [] (Bv (decide (triesOf xs = triesOf ys))) [] := by
  have := eqTry_c (triesOf xs) (triesOf ys) (by simpa [triesOf] using h.2.2)
  rwa [triesOf_at h.1, triesOf_at h.2.1] at this
/-- How calls of this function are met. -/
def sp_eqTry' (args : List AV) (K : AV → Prop) : Prop := match args with
  | [.r (.rs 2 xs), .r (.rs 2 ys)] => (xs = (triesOf xs).map tryR ∧ ys = (triesOf ys).map tryR ∧ xs.length ≤ 9223372036854775807) ∧ K (Bv (decide (triesOf xs = triesOf ys)))
  | _ => False
theorem sp_eqTry'_ok (args : List AV) (K : AV → Prop) (h : sp_eqTry' args K) : ∃ r, CallOk Cx 20 args r ∧ K r := by
  unfold sp_eqTry' at h
  split at h
  · exact ⟨_, CallOk_of (eqTry'_c _ _ h.1) en20 rfl rfl, h.2⟩
  · exact h.elim
noncomputable def ct_eqTry' : Ct Cx := .pure 20 sp_eqTry' sp_eqTry'_ok
@[go_sem] theorem ct_eqTry'_g : ct_eqTry'.g = 20 := rfl
@[go_sem] theorem ct_eqTry'_run (c : Call) (fop : Operand) (caps : List RV) (o : Oper) (st : St) (K : List Loc → List (Loc × Cont) → Prop) : ct_eqTry'.run c fop caps o st K = callT Cx sp_eqTry' c fop caps o st K := rfl
@[go_sem] theorem sp_eqTry'_eq (args : List AV) (K : AV → Prop) : sp_eqTry' args K = (match args with
    | [.r (.rs 2 xs), .r (.rs 2 ys)] => (xs = (triesOf xs).map tryR ∧ ys = (triesOf ys).map tryR ∧ xs.length ≤ 9223372036854775807) ∧ K (Bv (decide (triesOf xs = triesOf ys)))
    | _ => False) := rfl



end Go.Proofs.YtjbhpoolghfhiaaDoor
