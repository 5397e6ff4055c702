/- What the document finds wrong with a program: plain. No condition: plain lemmas. -/
import Derived.Test.YtjbhpoolghfhiaaDoorCd40
import Derived.Test.YtjbhpoolghfhiaaDoorCd32
namespace Go.Proofs.YtjbhpoolghfhiaaDoor
set_option linter.unusedVariables false
set_option linter.unusedSimpArgs false
set_option maxHeartbeats 10000000
open Go
set_option maxRecDepth 10000


/-- Slots are told of, in whatever order. -/
def subTs (s : St) : List (Nat × AV) → Prop
  | [] => True
  | (k, x) :: l => lookT k s.t = x ∧ subTs s l
theorem subTs_ok {s : St} : ∀ {l : List (Nat × AV)}, subTs s l → ∀ d, lookT d l = .any ∨ lookT d l = lookT d s.t
  | [], _, d => .inl rfl
  | (k, x) :: l, h, d => by
    have e : lookT d ((k, x) :: l) = if d = k then x else lookT d l := rfl
    rw [e]
    by_cases hd : d = k
    · subst hd; rw [if_pos rfl]; exact .inr h.1.symm
    · rw [if_neg hd]; exact subTs_ok h.2 d
theorem Le_subA {s s' : St} (hn : s'.n = s.n := by rfl) (ht : subTs s s'.t := by repeat' (first | exact trivial | refine ⟨by rfl, ?_⟩))
    (hr : leRs s.rs s'.rs := by repeat' (first | exact trivial | exact rfl | exact .inl ⟨rfl, rfl⟩ | exact .inr ⟨rfl, by omega⟩ | refine ⟨rfl, ?_, ?_⟩ | refine ⟨rfl, rfl, ?_⟩)) : Le s s' := ⟨hn, subTs_ok ht, leRs_ok hr⟩

theorem known_all_c (f : FnT) (hk : Cok f) : FC Cx 27 [fnA f] [] (docR f) [] := by
  rcases Nat.eq_zero_or_pos f.code.length with h | h
  · obtain ⟨pa, rg, ge, us, code⟩ := f
    have : code = [] := List.length_eq_zero_iff.1 h
    subst this
    exact known0_c pa rg ge us
  · exact known_c f h hk
theorem doc_bad {f : FnT} (hk : Cok f) : (docW f).bad = (walkF f).bad := by
  rcases Nat.eq_zero_or_pos f.code.length with h | h
  · obtain ⟨pa, rg, ge, us, code⟩ := f
    have : code = [] := List.length_eq_zero_iff.1 h
    subst this
    rfl
  · exact (doc_walk hk h).1
theorem known'_c (pa rg : Int) (ge : Bool) (us vs : List (List RV)) (h : (us = (intsOf us).map intR ∧ vs = (inssOf vs).map insR) ∧ Cok ⟨pa, rg, ge, intsOf us, inssOf vs⟩) : FC Cx 27 [.agg [Iv pa, Iv rg, Bv ge, .r (.rs 1 us), .r (.rs 5 vs)]] [] (docR ⟨pa, rg, ge, intsOf us, inssOf vs⟩) [] := by
  have := known_all_c ⟨pa, rg, ge, intsOf us, inssOf vs⟩ h.2
  rwa [fn_at h.1] at this
/-- How calls of this function are met. -/
def sp_known' (args : List AV) (K : AV → Prop) : Prop := match args with
  | [.agg [.r (.v (.int .i64 pa)), .r (.v (.int .i64 rg)), .r (.v (.bool ge)), .r (.rs 1 us), .r (.rs 5 vs)]] => ((us = (intsOf us).map intR ∧ vs = (inssOf vs).map insR) ∧ Cok ⟨pa, rg, ge, intsOf us, inssOf vs⟩) ∧ K (docR ⟨pa, rg, ge, intsOf us, inssOf vs⟩)
  | _ => False
theorem sp_known'_ok (args : List AV) (K : AV → Prop) (h : sp_known' args K) : ∃ r, CallOk Cx 27 args r ∧ K r := by
  unfold sp_known' at h
  split at h
  · exact ⟨_, CallOk_of (known'_c _ _ _ _ _ h.1) en27 rfl (by unfold docR; cases (docW _).bad <;> rfl), h.2⟩
  · exact h.elim
noncomputable def ct_known' : Ct Cx := .pure 27 sp_known' sp_known'_ok
@[go_sem] theorem ct_known'_g : ct_known'.g = 27 := rfl
@[go_sem] theorem ct_known'_run (c : Call) (fop : Operand) (caps : List RV) (o : Oper) (st : St) (K : List Loc → List (Loc × Cont) → Prop) : ct_known'.run c fop caps o st K = callT Cx sp_known' c fop caps o st K := rfl
@[go_sem] theorem sp_known'_eq (args : List AV) (K : AV → Prop) : sp_known' args K = (match args with
  | [.agg [.r (.v (.int .i64 pa)), .r (.v (.int .i64 rg)), .r (.v (.bool ge)), .r (.rs 1 us), .r (.rs 5 vs)]] => ((us = (intsOf us).map intR ∧ vs = (inssOf vs).map insR) ∧ Cok ⟨pa, rg, ge, intsOf us, inssOf vs⟩) ∧ K (docR ⟨pa, rg, ge, intsOf us, inssOf vs⟩)
  | _ => False) := rfl

theorem any_take {α : Type} {l : List α} {k : Nat} {x : α} (h : l[k]? = some x) (q : α → Bool) : (l.take (k + 1)).any q = ((l.take k).any q || q x) := by
  rw [List.take_add_one, h]; simp
theorem all_take {α : Type} {l : List α} {k : Nat} {x : α} (h : l[k]? = some x) (q : α → Bool) : (l.take (k + 1)).all q = ((l.take k).all q && q x) := by
  rw [List.take_add_one, h]; simp

/-- One text is right, at its place. -/
def tOne (l : List ByteArray) (j : Nat) : Bool := (decide (19 ≤ j) || decide (l.getD j ⟨#[]⟩ = wordsL.getD j ⟨#[]⟩)) && (l.take j).all fun u => !decide (l.getD j ⟨#[]⟩ = u)
def tOk (l : List ByteArray) (k : Nat) : Bool := (List.range k).all (tOne l)
theorem tOk_succ (l : List ByteArray) (k : Nat) : tOk l (k + 1) = (tOk l k && tOne l k) := by
  unfold tOk; rw [List.range_succ]; simp

theorem words_length : wordsL.length = 19 := rfl
theorem tOk_all (l : List ByteArray) (h19 : 19 ≤ l.length) : tOk l l.length = (decide (l.take 19 = wordsL) && decide l.Nodup) := by
  rw [Bool.eq_iff_iff]
  simp only [tOk, tOne, List.all_eq_true, List.mem_range, Bool.and_eq_true, Bool.or_eq_true, decide_eq_true_eq, Bool.not_eq_true', decide_eq_false_iff_not]
  constructor
  · intro h
    refine ⟨?_, ?_⟩
    · apply List.ext_getElem?
      intro j
      rw [List.getElem?_take]
      by_cases hj : j < 19
      · rw [if_pos hj]
        have h1 := (h j (by omega)).1
        have h2 : l.getD j ⟨#[]⟩ = wordsL.getD j ⟨#[]⟩ := h1.resolve_left (by omega)
        have q1 : j < l.length := by omega
        have q2 : j < wordsL.length := by rw [words_length]; exact hj
        simp only [List.getD, List.getElem?_eq_getElem q1, List.getElem?_eq_getElem q2, Option.getD_some] at h2
        rw [List.getElem?_eq_getElem q1, List.getElem?_eq_getElem q2, h2]
      · rw [if_neg hj, List.getElem?_eq_none (by rw [words_length]; omega)]
    · have := nodup_take l.length (Nat.le_refl _) fun j x hj hx hm => by
        refine (h j hj).2 x hm ?_
        simp [List.getD, hx]
      rwa [List.take_length] at this
  · rintro ⟨hw, hn⟩ j hj
    have q1 : l[j]? = some l[j] := List.getElem?_eq_getElem hj
    have e1 : l.getD j ⟨#[]⟩ = l[j] := by simp [List.getD, q1]
    refine ⟨?_, fun u hu he => ?_⟩
    · rcases Nat.lt_or_ge j 19 with h | h
      · right
        rw [← hw]
        simp [List.getD, List.getElem?_take, h]
      · exact .inl h
    · rw [e1] at he
      exact not_nodup q1 (by rw [he]; exact hu) hn

/-- All that must be right, if nothing is too large. -/
def rightP (p : ProgT) : Bool := decide (19 ≤ p.texts.length) && decide (0 < p.fns.length) && tOk p.texts p.texts.length && (p.consts.all fun v => !badV p v) && firstF p && p.fns.all (functionF p)
theorem any_all {α : Type} (l : List α) (q : α → Bool) : l.any q = !(l.all fun x => !q x) := by
  induction l with
  | nil => rfl
  | cons x l ih => simp only [List.any_cons, List.all_cons, ih, Bool.not_and, Bool.not_not]
theorem check_right (p : ProgT) : checkF p = if largeF p = true then 2 else if rightP p = true then 0 else 3 := by
  unfold checkF
  split
  · rfl
  by_cases h19 : 19 ≤ p.texts.length
  case neg =>
    have h1 : tablesF p = false := by unfold tablesF; rw [decide_eq_false h19]; rfl
    have h2 : rightP p = false := by unfold rightP; rw [decide_eq_false h19]; rfl
    rw [if_pos h1, h2]; rfl
  have hT : tablesF p = (tOk p.texts p.texts.length && p.consts.all fun v => !badV p v) := by
    unfold tablesF
    rw [decide_eq_true h19, tOk_all p.texts h19, any_all p.consts, Bool.not_not, Bool.true_and]
  have hR : rightP p = (decide (0 < p.fns.length) && tablesF p && firstF p && p.fns.all (functionF p)) := by
    unfold rightP
    rw [hT, decide_eq_true h19, Bool.true_and]
    simp only [Bool.and_assoc]
  rw [hR]
  cases tablesF p with
  | false => simp
  | true =>
    rw [if_neg (by simp)]
    cases hf : p.fns with
    | nil => simp [firstF, hf]
    | cons f0 rest =>
      cases h1 : firstF p with
      | false => simp
      | true =>
        rw [any_all]
        simp only [List.length_cons, Nat.zero_lt_succ, decide_true, Bool.true_and, Bool.not_not]
        cases (f0 :: rest).all (functionF p) <;> simp

end Go.Proofs.YtjbhpoolghfhiaaDoor
