/- The document's sameTries and orderRight. No condition: contracts of the document's functions. -/
import Derived.Test.YtjbhpoolghfhiaaDoorCd23
namespace Go.Proofs.YtjbhpoolghfhiaaDoor
set_option linter.unusedVariables false
set_option linter.unusedSimpArgs false
set_option maxHeartbeats 10000000
open Go
set_option maxRecDepth 10000



theorem same_c (l m : List (Int × Int)) (hl : l.length ≤ 9223372036854775807) : FC Cx 53 [triesV l, triesV m] [] (Bv (decide (l = m))) [] := by
  have hlen : (l.map tryR).length = l.length := List.length_map ..
  have hlen' : (m.map tryR).length = m.length := List.length_map ..
  refine FCp_of [] Tryd.func53 rfl Tryd.ntmps53 (by simp) Tryd.results53 rfl ?_
  apply Rn_st; (intro K0; simp only [go_sem]; exact ⟨id⟩)
  (any_goals refine go lv53 0 ?_)
  repeat' (first | (refine Br.go (fun h h' => ?_) (fun h h' => ?_)) | (refine Br.mk (fun h => ?_) (fun h => ?_)))
  · simp only [go_sem]
    have : l ≠ m := fun he => h' (by rw [he])
    simp [this]
  have hlm : l.length = m.length := by omega
  refine Rn_loopT [0, 1, 12, 13] (fun i => i ≤ l.length ∧ ∀ j, j < i → l[j]? = m[j]?) (fun (i : Nat) => ⟨26, [(0, triesV l), (1, triesV m), (12, Iv m.length), (13, Iv i)], []⟩) (fun i => l.length - i) 0 rfl rfl rfl ⟨Nat.zero_le _, fun j hj => by omega⟩ ?_
  rintro i ⟨hi, hno⟩
  by_cases hlt : i < l.length
  · obtain ⟨x, hx⟩ : ∃ x, l[i]? = some x := ⟨l[i], List.getElem?_eq_getElem hlt⟩
    obtain ⟨y, hy⟩ : ∃ y, m[i]? = some y := ⟨m[i], List.getElem?_eq_getElem (by omega)⟩
    have hg := getD_map tryR hx ([] : List RV)
    have hg' := getD_map tryR hy ([] : List RV)
    have hw : IntKind.i64.wrap ((i : Int) + 1) = ((i + 1 : Nat) : Int) := by rw [wrap_id] <;> omega
    have h1 : decide ((i : Int) < (m.length : Int)) = true := by rw [decide_eq_true_eq]; omega
    have h2 : Int.toNat (i : Int) = i := by omega
    (any_goals refine go lv53 0 ?_)
    repeat' (first | (refine Br.go (fun h h' => ?_) (fun h h' => ?_)) | (refine Br.mk (fun h => ?_) (fun h => ?_)))
    all_goals (try simp only [go_sem])
    · have h9 := h
      have : l ≠ m := fun he => by
        rw [he] at hx; rw [hx] at hy
        have := Option.some.inj hy
        subst this
        simp at h9
      simp [this]
    · refine ⟨i + 1, ⟨by omega, fun j hj => ?_⟩, by omega, Le_keep [0, 1, 12, 13] rfl rfl rfl⟩
      rcases Nat.lt_succ_iff_lt_or_eq.1 hj with h3 | h3
      · exact hno j h3
      · rw [h3, hx, hy]; exact congrArg some (by first | exact h' | exact Prod.ext h'.1 h'.2 | (cases x; cases y; simp_all))
  · have h1 : decide ((i : Int) < (m.length : Int)) = false := by rw [decide_eq_false_iff_not]; omega
    (any_goals refine go lv53 0 ?_)
    repeat' (first | (refine Br.go (fun h h' => ?_) (fun h h' => ?_)) | (refine Br.mk (fun h => ?_) (fun h => ?_)))
    all_goals (try simp only [go_sem])
    have : l = m := List.ext_getElem? fun j => by
      by_cases hj : j < i
      · exact hno j hj
      · rw [List.getElem?_eq_none (by omega), List.getElem?_eq_none (by omega)]
    simp [this]
theorem same'_c (xs ys : List (List RV)) (h : xs = (triesOf xs).map tryR ∧ ys = (triesOf ys).map tryR ∧ xs.length ≤ 9223372036854775807) : FC Cx 53 [.r (.rs 2 xs), .r (.rs 2 ys)] [] (Bv (decide (triesOf xs = triesOf ys))) [] := by
  have := same_c (triesOf xs) (triesOf ys) (by simpa [triesOf] using h.2.2)
  rwa [triesOf_at h.1, triesOf_at h.2.1] at this
/-- How calls of this function are met. -/
def sp_same' (args : List AV) (K : AV → Prop) : Prop := match args with
  | [.r (.rs 2 xs), .r (.rs 2 ys)] => (xs = (triesOf xs).map tryR ∧ ys = (triesOf ys).map tryR ∧ xs.length ≤ 9223372036854775807) ∧ K (Bv (decide (triesOf xs = triesOf ys)))
  | _ => False
theorem sp_same'_ok (args : List AV) (K : AV → Prop) (h : sp_same' args K) : ∃ r, CallOk Cx 53 args r ∧ K r := by
  unfold sp_same' at h
  split at h
  · exact ⟨_, CallOk_of (same'_c _ _ h.1) en53 rfl rfl, h.2⟩
  · exact h.elim
noncomputable def ct_same' : Ct Cx := .pure 53 sp_same' sp_same'_ok
@[go_sem] theorem ct_same'_g : ct_same'.g = 53 := rfl
@[go_sem] theorem ct_same'_run (c : Call) (fop : Operand) (caps : List RV) (o : Oper) (st : St) (K : List Loc → List (Loc × Cont) → Prop) : ct_same'.run c fop caps o st K = callT Cx sp_same' c fop caps o st K := rfl
@[go_sem] theorem sp_same'_eq (args : List AV) (K : AV → Prop) : sp_same' args K = (match args with
    | [.r (.rs 2 xs), .r (.rs 2 ys)] => (xs = (triesOf xs).map tryR ∧ ys = (triesOf ys).map tryR ∧ xs.length ≤ 9223372036854775807) ∧ K (Bv (decide (triesOf xs = triesOf ys)))
    | _ => False) := rfl

theorem or0_c (p : ProgT) (f : FnT) (n op a b c line : Int) (hf : Fok f) (hp : Psz p) (hE : (decide (dformF op = ⟨#[]⟩) || !decide (0 ≤ line ∧ line ≤ 2000)) = true) : FC Cx 52 [progV p, fnA f, Iv n, insA ⟨op, a, b, c, line⟩] [] (Bv false) [] := by
  refine FCp_of [ct_dform, ct_most', ct_rBetween] Tryd.func52 rfl Tryd.ntmps52 (by simp) Tryd.results52 rfl ?_
  apply Rn_st; (intro K0; simp only [go_sem]; exact ⟨id⟩)
  refine goR (L := []) (n := 0) ?_
  (apply Rn_frzB 4; (exact rfl); (exact rfl); (exact rfl); (intro K0; (try simp only [go_sem]); exact ⟨id⟩))
  (apply Rn_frzB 5; (exact rfl); (exact rfl); (exact rfl); (intro K0; (try simp only [go_sem]); exact ⟨id⟩))
  (apply Rn_frzB 7; (exact rfl); (exact rfl); (exact rfl); (intro K0; (try simp only [go_sem]); exact ⟨id⟩))
  (any_goals refine go lv52 3 ?_)
  repeat' (first | (refine Br.go (fun h h' => ?_) (fun h h' => ?_)) | (refine Br.mk (fun h => ?_) (fun h => ?_)))
  all_goals (try simp only [go_sem])
  all_goals (first | rfl | (simp_all; done) | trace_state)

theorem orK0_c (p : ProgT) (f : FnT) (n op a b c line : Int) (hf : Fok f) (hp : Psz p) (hE : (decide (dformF op = ⟨#[]⟩) || !decide (0 ≤ line ∧ line ≤ 2000)) = false) (hs : (dformF op).size = 3) (wm : ∀ ch, IntKind.i64.wrap (mostF p f ch - 1) = mostF p f ch - 1)  (k0 : (!decide (0 ≤ a ∧ a ≤ mostF p f (((dformF op).data.toList.getD 0 0).toNat : Int) - 1)) = true) : FC Cx 52 [progV p, fnA f, Iv n, insA ⟨op, a, b, c, line⟩] [] (Bv false) [] := by
  have s0 : (0 : Int) < ((dformF op).size : Int) := by rw [hs]; omega
  have s1 : (1 : Int) < ((dformF op).size : Int) := by rw [hs]; omega
  have s2 : (2 : Int) < ((dformF op).size : Int) := by rw [hs]; omega
  refine FCp_of [ct_dform, ct_most', ct_rBetween] Tryd.func52 rfl Tryd.ntmps52 (by simp) Tryd.results52 rfl ?_
  apply Rn_st; (intro K0; simp only [go_sem]; exact ⟨id⟩)
  refine goR (L := []) (n := 0) ?_
  (apply Rn_frzB 4; (exact rfl); (exact rfl); (exact rfl); (intro K0; (try simp only [go_sem]); exact ⟨id⟩))
  (apply Rn_frzB 5; (exact rfl); (exact rfl); (exact rfl); (intro K0; (try simp only [go_sem]); exact ⟨id⟩))
  (apply Rn_frzB 7; (exact rfl); (exact rfl); (exact rfl); (intro K0; (try simp only [go_sem]); exact ⟨id⟩))
  (any_goals refine go lv52 3 ?_)
  repeat' (first | (refine Br.go (fun h h' => ?_) (fun h h' => ?_)) | (refine Br.mk (fun h => ?_) (fun h => ?_)))
  all_goals (try simp only [go_sem])
  all_goals (first | rfl | (simp_all; done) | trace_state)

theorem orM0_c (p : ProgT) (f : FnT) (n op a b c line : Int) (hf : Fok f) (hp : Psz p) (hE : (decide (dformF op = ⟨#[]⟩) || !decide (0 ≤ line ∧ line ≤ 2000)) = false) (hs : (dformF op).size = 3) (wm : ∀ ch, IntKind.i64.wrap (mostF p f ch - 1) = mostF p f ch - 1)  (k0 : (!decide (0 ≤ a ∧ a ≤ mostF p f (((dformF op).data.toList.getD 0 0).toNat : Int) - 1)) = false) (m0 : (decide ((((dformF op).data.toList.getD 0 0).toNat : Int) = 102) && decide (a = 0)) = true) : FC Cx 52 [progV p, fnA f, Iv n, insA ⟨op, a, b, c, line⟩] [] (Bv false) [] := by
  have s0 : (0 : Int) < ((dformF op).size : Int) := by rw [hs]; omega
  have s1 : (1 : Int) < ((dformF op).size : Int) := by rw [hs]; omega
  have s2 : (2 : Int) < ((dformF op).size : Int) := by rw [hs]; omega
  refine FCp_of [ct_dform, ct_most', ct_rBetween] Tryd.func52 rfl Tryd.ntmps52 (by simp) Tryd.results52 rfl ?_
  apply Rn_st; (intro K0; simp only [go_sem]; exact ⟨id⟩)
  refine goR (L := []) (n := 0) ?_
  (apply Rn_frzB 4; (exact rfl); (exact rfl); (exact rfl); (intro K0; (try simp only [go_sem]); exact ⟨id⟩))
  (apply Rn_frzB 5; (exact rfl); (exact rfl); (exact rfl); (intro K0; (try simp only [go_sem]); exact ⟨id⟩))
  (apply Rn_frzB 7; (exact rfl); (exact rfl); (exact rfl); (intro K0; (try simp only [go_sem]); exact ⟨id⟩))
  (any_goals refine go lv52 3 ?_)
  repeat' (first | (refine Br.go (fun h h' => ?_) (fun h h' => ?_)) | (refine Br.mk (fun h => ?_) (fun h => ?_)))
  all_goals (try simp only [go_sem])
  all_goals (first | rfl | (simp_all; done) | trace_state)

theorem orK1_c (p : ProgT) (f : FnT) (n op a b c line : Int) (hf : Fok f) (hp : Psz p) (hE : (decide (dformF op = ⟨#[]⟩) || !decide (0 ≤ line ∧ line ≤ 2000)) = false) (hs : (dformF op).size = 3) (wm : ∀ ch, IntKind.i64.wrap (mostF p f ch - 1) = mostF p f ch - 1) (k0 : (!decide (0 ≤ a ∧ a ≤ mostF p f (((dformF op).data.toList.getD 0 0).toNat : Int) - 1)) = false) (m0 : (decide ((((dformF op).data.toList.getD 0 0).toNat : Int) = 102) && decide (a = 0)) = false) (k1 : (!decide (0 ≤ b ∧ b ≤ mostF p f (((dformF op).data.toList.getD 1 0).toNat : Int) - 1)) = true) : FC Cx 52 [progV p, fnA f, Iv n, insA ⟨op, a, b, c, line⟩] [] (Bv false) [] := by
  have s0 : (0 : Int) < ((dformF op).size : Int) := by rw [hs]; omega
  have s1 : (1 : Int) < ((dformF op).size : Int) := by rw [hs]; omega
  have s2 : (2 : Int) < ((dformF op).size : Int) := by rw [hs]; omega
  refine FCp_of [ct_dform, ct_most', ct_rBetween] Tryd.func52 rfl Tryd.ntmps52 (by simp) Tryd.results52 rfl ?_
  apply Rn_st; (intro K0; simp only [go_sem]; exact ⟨id⟩)
  refine goR (L := []) (n := 0) ?_
  (apply Rn_frzB 4; (exact rfl); (exact rfl); (exact rfl); (intro K0; (try simp only [go_sem]); exact ⟨id⟩))
  (apply Rn_frzB 5; (exact rfl); (exact rfl); (exact rfl); (intro K0; (try simp only [go_sem]); exact ⟨id⟩))
  (apply Rn_frzB 7; (exact rfl); (exact rfl); (exact rfl); (intro K0; (try simp only [go_sem]); exact ⟨id⟩))
  (any_goals refine go lv52 3 ?_)
  repeat' (first | (refine Br.go (fun h h' => ?_) (fun h h' => ?_)) | (refine Br.mk (fun h => ?_) (fun h => ?_)))
  all_goals (try simp only [go_sem])
  all_goals (first | rfl | (simp_all; done) | trace_state)

theorem orM1_c (p : ProgT) (f : FnT) (n op a b c line : Int) (hf : Fok f) (hp : Psz p) (hE : (decide (dformF op = ⟨#[]⟩) || !decide (0 ≤ line ∧ line ≤ 2000)) = false) (hs : (dformF op).size = 3) (wm : ∀ ch, IntKind.i64.wrap (mostF p f ch - 1) = mostF p f ch - 1) (k0 : (!decide (0 ≤ a ∧ a ≤ mostF p f (((dformF op).data.toList.getD 0 0).toNat : Int) - 1)) = false) (m0 : (decide ((((dformF op).data.toList.getD 0 0).toNat : Int) = 102) && decide (a = 0)) = false) (k1 : (!decide (0 ≤ b ∧ b ≤ mostF p f (((dformF op).data.toList.getD 1 0).toNat : Int) - 1)) = false) (m1 : (decide ((((dformF op).data.toList.getD 1 0).toNat : Int) = 102) && decide (b = 0)) = true) : FC Cx 52 [progV p, fnA f, Iv n, insA ⟨op, a, b, c, line⟩] [] (Bv false) [] := by
  have s0 : (0 : Int) < ((dformF op).size : Int) := by rw [hs]; omega
  have s1 : (1 : Int) < ((dformF op).size : Int) := by rw [hs]; omega
  have s2 : (2 : Int) < ((dformF op).size : Int) := by rw [hs]; omega
  refine FCp_of [ct_dform, ct_most', ct_rBetween] Tryd.func52 rfl Tryd.ntmps52 (by simp) Tryd.results52 rfl ?_
  apply Rn_st; (intro K0; simp only [go_sem]; exact ⟨id⟩)
  refine goR (L := []) (n := 0) ?_
  (apply Rn_frzB 4; (exact rfl); (exact rfl); (exact rfl); (intro K0; (try simp only [go_sem]); exact ⟨id⟩))
  (apply Rn_frzB 5; (exact rfl); (exact rfl); (exact rfl); (intro K0; (try simp only [go_sem]); exact ⟨id⟩))
  (apply Rn_frzB 7; (exact rfl); (exact rfl); (exact rfl); (intro K0; (try simp only [go_sem]); exact ⟨id⟩))
  (any_goals refine go lv52 3 ?_)
  repeat' (first | (refine Br.go (fun h h' => ?_) (fun h h' => ?_)) | (refine Br.mk (fun h => ?_) (fun h => ?_)))
  all_goals (try simp only [go_sem])
  all_goals (first | rfl | (simp_all; done) | trace_state)

theorem orK2_c (p : ProgT) (f : FnT) (n op a b c line : Int) (hf : Fok f) (hp : Psz p) (hE : (decide (dformF op = ⟨#[]⟩) || !decide (0 ≤ line ∧ line ≤ 2000)) = false) (hs : (dformF op).size = 3) (wm : ∀ ch, IntKind.i64.wrap (mostF p f ch - 1) = mostF p f ch - 1) (k0 : (!decide (0 ≤ a ∧ a ≤ mostF p f (((dformF op).data.toList.getD 0 0).toNat : Int) - 1)) = false) (m0 : (decide ((((dformF op).data.toList.getD 0 0).toNat : Int) = 102) && decide (a = 0)) = false) (k1 : (!decide (0 ≤ b ∧ b ≤ mostF p f (((dformF op).data.toList.getD 1 0).toNat : Int) - 1)) = false) (m1 : (decide ((((dformF op).data.toList.getD 1 0).toNat : Int) = 102) && decide (b = 0)) = false) (k2 : (!decide (0 ≤ c ∧ c ≤ mostF p f (((dformF op).data.toList.getD 2 0).toNat : Int) - 1)) = true) : FC Cx 52 [progV p, fnA f, Iv n, insA ⟨op, a, b, c, line⟩] [] (Bv false) [] := by
  have s0 : (0 : Int) < ((dformF op).size : Int) := by rw [hs]; omega
  have s1 : (1 : Int) < ((dformF op).size : Int) := by rw [hs]; omega
  have s2 : (2 : Int) < ((dformF op).size : Int) := by rw [hs]; omega
  refine FCp_of [ct_dform, ct_most', ct_rBetween] Tryd.func52 rfl Tryd.ntmps52 (by simp) Tryd.results52 rfl ?_
  apply Rn_st; (intro K0; simp only [go_sem]; exact ⟨id⟩)
  refine goR (L := []) (n := 0) ?_
  (apply Rn_frzB 4; (exact rfl); (exact rfl); (exact rfl); (intro K0; (try simp only [go_sem]); exact ⟨id⟩))
  (apply Rn_frzB 5; (exact rfl); (exact rfl); (exact rfl); (intro K0; (try simp only [go_sem]); exact ⟨id⟩))
  (apply Rn_frzB 7; (exact rfl); (exact rfl); (exact rfl); (intro K0; (try simp only [go_sem]); exact ⟨id⟩))
  (any_goals refine go lv52 3 ?_)
  repeat' (first | (refine Br.go (fun h h' => ?_) (fun h h' => ?_)) | (refine Br.mk (fun h => ?_) (fun h => ?_)))
  all_goals (try simp only [go_sem])
  all_goals (first | rfl | (simp_all; done) | trace_state)

theorem orM2_c (p : ProgT) (f : FnT) (n op a b c line : Int) (hf : Fok f) (hp : Psz p) (hE : (decide (dformF op = ⟨#[]⟩) || !decide (0 ≤ line ∧ line ≤ 2000)) = false) (hs : (dformF op).size = 3) (wm : ∀ ch, IntKind.i64.wrap (mostF p f ch - 1) = mostF p f ch - 1) (k0 : (!decide (0 ≤ a ∧ a ≤ mostF p f (((dformF op).data.toList.getD 0 0).toNat : Int) - 1)) = false) (m0 : (decide ((((dformF op).data.toList.getD 0 0).toNat : Int) = 102) && decide (a = 0)) = false) (k1 : (!decide (0 ≤ b ∧ b ≤ mostF p f (((dformF op).data.toList.getD 1 0).toNat : Int) - 1)) = false) (m1 : (decide ((((dformF op).data.toList.getD 1 0).toNat : Int) = 102) && decide (b = 0)) = false) (k2 : (!decide (0 ≤ c ∧ c ≤ mostF p f (((dformF op).data.toList.getD 2 0).toNat : Int) - 1)) = false) (m2 : (decide ((((dformF op).data.toList.getD 2 0).toNat : Int) = 102) && decide (c = 0)) = true) : FC Cx 52 [progV p, fnA f, Iv n, insA ⟨op, a, b, c, line⟩] [] (Bv false) [] := by
  have s0 : (0 : Int) < ((dformF op).size : Int) := by rw [hs]; omega
  have s1 : (1 : Int) < ((dformF op).size : Int) := by rw [hs]; omega
  have s2 : (2 : Int) < ((dformF op).size : Int) := by rw [hs]; omega
  refine FCp_of [ct_dform, ct_most', ct_rBetween] Tryd.func52 rfl Tryd.ntmps52 (by simp) Tryd.results52 rfl ?_
  apply Rn_st; (intro K0; simp only [go_sem]; exact ⟨id⟩)
  refine goR (L := []) (n := 0) ?_
  (apply Rn_frzB 4; (exact rfl); (exact rfl); (exact rfl); (intro K0; (try simp only [go_sem]); exact ⟨id⟩))
  (apply Rn_frzB 5; (exact rfl); (exact rfl); (exact rfl); (intro K0; (try simp only [go_sem]); exact ⟨id⟩))
  (apply Rn_frzB 7; (exact rfl); (exact rfl); (exact rfl); (intro K0; (try simp only [go_sem]); exact ⟨id⟩))
  (any_goals refine go lv52 3 ?_)
  repeat' (first | (refine Br.go (fun h h' => ?_) (fun h h' => ?_)) | (refine Br.mk (fun h => ?_) (fun h => ?_)))
  all_goals (try simp only [go_sem])
  all_goals (first | rfl | (simp_all; done) | trace_state)

theorem or14_c (p : ProgT) (f : FnT) (n op a b c line : Int) (hf : Fok f) (hp : Psz p) (hE : (decide (dformF op = ⟨#[]⟩) || !decide (0 ≤ line ∧ line ≤ 2000)) = false) (hs : (dformF op).size = 3) (wm : ∀ ch, IntKind.i64.wrap (mostF p f ch - 1) = mostF p f ch - 1) (k0 : (!decide (0 ≤ a ∧ a ≤ mostF p f (((dformF op).data.toList.getD 0 0).toNat : Int) - 1)) = false) (m0 : (decide ((((dformF op).data.toList.getD 0 0).toNat : Int) = 102) && decide (a = 0)) = false) (k1 : (!decide (0 ≤ b ∧ b ≤ mostF p f (((dformF op).data.toList.getD 1 0).toNat : Int) - 1)) = false) (m1 : (decide ((((dformF op).data.toList.getD 1 0).toNat : Int) = 102) && decide (b = 0)) = false) (k2 : (!decide (0 ≤ c ∧ c ≤ mostF p f (((dformF op).data.toList.getD 2 0).toNat : Int) - 1)) = false) (m2 : (decide ((((dformF op).data.toList.getD 2 0).toNat : Int) = 102) && decide (c = 0)) = false) (o1 : decide (op = 14) = true) : FC Cx 52 [progV p, fnA f, Iv n, insA ⟨op, a, b, c, line⟩] [] (Bv (decide (a ≤ n))) [] := by
  have s0 : (0 : Int) < ((dformF op).size : Int) := by rw [hs]; omega
  have s1 : (1 : Int) < ((dformF op).size : Int) := by rw [hs]; omega
  have s2 : (2 : Int) < ((dformF op).size : Int) := by rw [hs]; omega
  refine FCp_of [ct_dform, ct_most', ct_rBetween] Tryd.func52 rfl Tryd.ntmps52 (by simp) Tryd.results52 rfl ?_
  apply Rn_st; (intro K0; simp only [go_sem]; exact ⟨id⟩)
  refine goR (L := []) (n := 0) ?_
  (apply Rn_frzB 4; (exact rfl); (exact rfl); (exact rfl); (intro K0; (try simp only [go_sem]); exact ⟨id⟩))
  (apply Rn_frzB 5; (exact rfl); (exact rfl); (exact rfl); (intro K0; (try simp only [go_sem]); exact ⟨id⟩))
  (apply Rn_frzB 7; (exact rfl); (exact rfl); (exact rfl); (intro K0; (try simp only [go_sem]); exact ⟨id⟩))
  (any_goals refine go lv52 3 ?_)
  repeat' (first | (refine Br.go (fun h h' => ?_) (fun h h' => ?_)) | (refine Br.mk (fun h => ?_) (fun h => ?_)))
  all_goals (try simp only [go_sem])
  all_goals (first | rfl | (simp_all; done) | trace_state)

theorem or19_c (p : ProgT) (f : FnT) (n op a b c line : Int) (hf : Fok f) (hp : Psz p) (hE : (decide (dformF op = ⟨#[]⟩) || !decide (0 ≤ line ∧ line ≤ 2000)) = false) (hs : (dformF op).size = 3) (wm : ∀ ch, IntKind.i64.wrap (mostF p f ch - 1) = mostF p f ch - 1) (k0 : (!decide (0 ≤ a ∧ a ≤ mostF p f (((dformF op).data.toList.getD 0 0).toNat : Int) - 1)) = false) (m0 : (decide ((((dformF op).data.toList.getD 0 0).toNat : Int) = 102) && decide (a = 0)) = false) (k1 : (!decide (0 ≤ b ∧ b ≤ mostF p f (((dformF op).data.toList.getD 1 0).toNat : Int) - 1)) = false) (m1 : (decide ((((dformF op).data.toList.getD 1 0).toNat : Int) = 102) && decide (b = 0)) = false) (k2 : (!decide (0 ≤ c ∧ c ≤ mostF p f (((dformF op).data.toList.getD 2 0).toNat : Int) - 1)) = false) (m2 : (decide ((((dformF op).data.toList.getD 2 0).toNat : Int) = 102) && decide (c = 0)) = false) (o1 : decide (op = 14) = false) (o2 : decide (op = 19) = true) (hw : IntKind.i64.wrap (b + c) = b + c) : FC Cx 52 [progV p, fnA f, Iv n, insA ⟨op, a, b, c, line⟩] [] (Bv (decide (b + c ≤ f.regs))) [] := by
  have s0 : (0 : Int) < ((dformF op).size : Int) := by rw [hs]; omega
  have s1 : (1 : Int) < ((dformF op).size : Int) := by rw [hs]; omega
  have s2 : (2 : Int) < ((dformF op).size : Int) := by rw [hs]; omega
  refine FCp_of [ct_dform, ct_most', ct_rBetween] Tryd.func52 rfl Tryd.ntmps52 (by simp) Tryd.results52 rfl ?_
  apply Rn_st; (intro K0; simp only [go_sem]; exact ⟨id⟩)
  refine goR (L := []) (n := 0) ?_
  (apply Rn_frzB 4; (exact rfl); (exact rfl); (exact rfl); (intro K0; (try simp only [go_sem]); exact ⟨id⟩))
  (apply Rn_frzB 5; (exact rfl); (exact rfl); (exact rfl); (intro K0; (try simp only [go_sem]); exact ⟨id⟩))
  (apply Rn_frzB 7; (exact rfl); (exact rfl); (exact rfl); (intro K0; (try simp only [go_sem]); exact ⟨id⟩))
  (any_goals refine go lv52 3 ?_)
  repeat' (first | (refine Br.go (fun h h' => ?_) (fun h h' => ?_)) | (refine Br.mk (fun h => ?_) (fun h => ?_)))
  all_goals (try simp only [go_sem])
  all_goals (first | rfl | (simp_all; done) | trace_state)

theorem or27_c (p : ProgT) (f : FnT) (n op a b c line : Int) (hf : Fok f) (hp : Psz p) (hE : (decide (dformF op = ⟨#[]⟩) || !decide (0 ≤ line ∧ line ≤ 2000)) = false) (hs : (dformF op).size = 3) (wm : ∀ ch, IntKind.i64.wrap (mostF p f ch - 1) = mostF p f ch - 1) (k0 : (!decide (0 ≤ a ∧ a ≤ mostF p f (((dformF op).data.toList.getD 0 0).toNat : Int) - 1)) = false) (m0 : (decide ((((dformF op).data.toList.getD 0 0).toNat : Int) = 102) && decide (a = 0)) = false) (k1 : (!decide (0 ≤ b ∧ b ≤ mostF p f (((dformF op).data.toList.getD 1 0).toNat : Int) - 1)) = false) (m1 : (decide ((((dformF op).data.toList.getD 1 0).toNat : Int) = 102) && decide (b = 0)) = false) (k2 : (!decide (0 ≤ c ∧ c ≤ mostF p f (((dformF op).data.toList.getD 2 0).toNat : Int) - 1)) = false) (m2 : (decide ((((dformF op).data.toList.getD 2 0).toNat : Int) = 102) && decide (c = 0)) = false) (o1 : decide (op = 14) = false) (o2 : decide (op = 19) = false) (o3 : decide (op = 27) = true) (hw : IntKind.i64.wrap (b + c) = b + c) : FC Cx 52 [progV p, fnA f, Iv n, insA ⟨op, a, b, c, line⟩] [] (Bv (decide (b + c < f.regs))) [] := by
  have s0 : (0 : Int) < ((dformF op).size : Int) := by rw [hs]; omega
  have s1 : (1 : Int) < ((dformF op).size : Int) := by rw [hs]; omega
  have s2 : (2 : Int) < ((dformF op).size : Int) := by rw [hs]; omega
  refine FCp_of [ct_dform, ct_most', ct_rBetween] Tryd.func52 rfl Tryd.ntmps52 (by simp) Tryd.results52 rfl ?_
  apply Rn_st; (intro K0; simp only [go_sem]; exact ⟨id⟩)
  refine goR (L := []) (n := 0) ?_
  (apply Rn_frzB 4; (exact rfl); (exact rfl); (exact rfl); (intro K0; (try simp only [go_sem]); exact ⟨id⟩))
  (apply Rn_frzB 5; (exact rfl); (exact rfl); (exact rfl); (intro K0; (try simp only [go_sem]); exact ⟨id⟩))
  (apply Rn_frzB 7; (exact rfl); (exact rfl); (exact rfl); (intro K0; (try simp only [go_sem]); exact ⟨id⟩))
  (any_goals refine go lv52 3 ?_)
  repeat' (first | (refine Br.go (fun h h' => ?_) (fun h h' => ?_)) | (refine Br.mk (fun h => ?_) (fun h => ?_)))
  all_goals (try simp only [go_sem])
  all_goals (first | rfl | (simp_all; done) | trace_state)

theorem or32_c (p : ProgT) (f : FnT) (n op a b c line : Int) (hf : Fok f) (hp : Psz p) (hE : (decide (dformF op = ⟨#[]⟩) || !decide (0 ≤ line ∧ line ≤ 2000)) = false) (hs : (dformF op).size = 3) (wm : ∀ ch, IntKind.i64.wrap (mostF p f ch - 1) = mostF p f ch - 1) (k0 : (!decide (0 ≤ a ∧ a ≤ mostF p f (((dformF op).data.toList.getD 0 0).toNat : Int) - 1)) = false) (m0 : (decide ((((dformF op).data.toList.getD 0 0).toNat : Int) = 102) && decide (a = 0)) = false) (k1 : (!decide (0 ≤ b ∧ b ≤ mostF p f (((dformF op).data.toList.getD 1 0).toNat : Int) - 1)) = false) (m1 : (decide ((((dformF op).data.toList.getD 1 0).toNat : Int) = 102) && decide (b = 0)) = false) (k2 : (!decide (0 ≤ c ∧ c ≤ mostF p f (((dformF op).data.toList.getD 2 0).toNat : Int) - 1)) = false) (m2 : (decide ((((dformF op).data.toList.getD 2 0).toNat : Int) = 102) && decide (c = 0)) = false) (o1 : decide (op = 14) = false) (o2 : decide (op = 19) = false) (o3 : decide (op = 27) = false) (o4 : decide (op = 32) = true) : FC Cx 52 [progV p, fnA f, Iv n, insA ⟨op, a, b, c, line⟩] [] (Bv f.gen) [] := by
  have s0 : (0 : Int) < ((dformF op).size : Int) := by rw [hs]; omega
  have s1 : (1 : Int) < ((dformF op).size : Int) := by rw [hs]; omega
  have s2 : (2 : Int) < ((dformF op).size : Int) := by rw [hs]; omega
  refine FCp_of [ct_dform, ct_most', ct_rBetween] Tryd.func52 rfl Tryd.ntmps52 (by simp) Tryd.results52 rfl ?_
  apply Rn_st; (intro K0; simp only [go_sem]; exact ⟨id⟩)
  refine goR (L := []) (n := 0) ?_
  (apply Rn_frzB 4; (exact rfl); (exact rfl); (exact rfl); (intro K0; (try simp only [go_sem]); exact ⟨id⟩))
  (apply Rn_frzB 5; (exact rfl); (exact rfl); (exact rfl); (intro K0; (try simp only [go_sem]); exact ⟨id⟩))
  (apply Rn_frzB 7; (exact rfl); (exact rfl); (exact rfl); (intro K0; (try simp only [go_sem]); exact ⟨id⟩))
  (any_goals refine go lv52 3 ?_)
  repeat' (first | (refine Br.go (fun h h' => ?_) (fun h h' => ?_)) | (refine Br.mk (fun h => ?_) (fun h => ?_)))
  all_goals (try simp only [go_sem])
  all_goals (first | rfl | (simp_all; done) | trace_state)

theorem orX_c (p : ProgT) (f : FnT) (n op a b c line : Int) (hf : Fok f) (hp : Psz p) (hE : (decide (dformF op = ⟨#[]⟩) || !decide (0 ≤ line ∧ line ≤ 2000)) = false) (hs : (dformF op).size = 3) (wm : ∀ ch, IntKind.i64.wrap (mostF p f ch - 1) = mostF p f ch - 1) (k0 : (!decide (0 ≤ a ∧ a ≤ mostF p f (((dformF op).data.toList.getD 0 0).toNat : Int) - 1)) = false) (m0 : (decide ((((dformF op).data.toList.getD 0 0).toNat : Int) = 102) && decide (a = 0)) = false) (k1 : (!decide (0 ≤ b ∧ b ≤ mostF p f (((dformF op).data.toList.getD 1 0).toNat : Int) - 1)) = false) (m1 : (decide ((((dformF op).data.toList.getD 1 0).toNat : Int) = 102) && decide (b = 0)) = false) (k2 : (!decide (0 ≤ c ∧ c ≤ mostF p f (((dformF op).data.toList.getD 2 0).toNat : Int) - 1)) = false) (m2 : (decide ((((dformF op).data.toList.getD 2 0).toNat : Int) = 102) && decide (c = 0)) = false) (o1 : decide (op = 14) = false) (o2 : decide (op = 19) = false) (o3 : decide (op = 27) = false) (o4 : decide (op = 32) = false) (o5 : decide (op = 26) = false) : FC Cx 52 [progV p, fnA f, Iv n, insA ⟨op, a, b, c, line⟩] [] (Bv true) [] := by
  have s0 : (0 : Int) < ((dformF op).size : Int) := by rw [hs]; omega
  have s1 : (1 : Int) < ((dformF op).size : Int) := by rw [hs]; omega
  have s2 : (2 : Int) < ((dformF op).size : Int) := by rw [hs]; omega
  refine FCp_of [ct_dform, ct_most', ct_rBetween] Tryd.func52 rfl Tryd.ntmps52 (by simp) Tryd.results52 rfl ?_
  apply Rn_st; (intro K0; simp only [go_sem]; exact ⟨id⟩)
  refine goR (L := []) (n := 0) ?_
  (apply Rn_frzB 4; (exact rfl); (exact rfl); (exact rfl); (intro K0; (try simp only [go_sem]); exact ⟨id⟩))
  (apply Rn_frzB 5; (exact rfl); (exact rfl); (exact rfl); (intro K0; (try simp only [go_sem]); exact ⟨id⟩))
  (apply Rn_frzB 7; (exact rfl); (exact rfl); (exact rfl); (intro K0; (try simp only [go_sem]); exact ⟨id⟩))
  (any_goals refine go lv52 3 ?_)
  repeat' (first | (refine Br.go (fun h h' => ?_) (fun h h' => ?_)) | (refine Br.mk (fun h => ?_) (fun h => ?_)))
  all_goals (try simp only [go_sem])
  all_goals (first | rfl | (simp_all; done) | trace_state)

end Go.Proofs.YtjbhpoolghfhiaaDoor
