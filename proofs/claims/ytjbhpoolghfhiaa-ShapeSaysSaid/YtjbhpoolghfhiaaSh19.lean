/- A name more, by the document, whatever is handed in. No condition: contracts. -/
import Derived.Test.YtjbhpoolghfhiaaSh18
namespace Go.Proofs.Ytjbhpoolghfhiaa
set_option linter.unusedVariables false
set_option linter.unusedSimpArgs false
set_option maxHeartbeats 10000000
open Go
set_option maxRecDepth 10000

theorem refWith_1 (l : List (Int × Int)) (a n : Int) (hw : Wf l) : FC Cx 12 [shapesV l, Iv a, Iv n] [] (withV (withF l a n)) [] := by
  have hlen : (l.map shapeR).length = l.length := List.length_map ..
  unfold withF
  by_cases hc : checkF l = 0
  · rw [if_neg (by simpa using hc)]
    have hg := good_ups hc a
    have wl : IntKind.i64.wrap ((l.length : Int) - 1) = (l.length : Int) - 1 := by have := hg.2.1; rw [wrap_id] <;> omega
    by_cases h1 : a < 0
    · rw [if_pos (.inl h1)]
      exact refw_2 l a n hw hlen hc wl (by rw [decide_eq_false_iff_not]; omega)
    have d1 : decide (0 ≤ a) = true := by rw [decide_eq_true_eq]; omega
    by_cases h2 : (l.length : Int) ≤ a
    · rw [if_pos (.inr (.inl h2))]
      exact refw_3 l a n hw hlen hc wl d1 (by rw [decide_eq_false_iff_not]; omega)
    have d2 : decide (a ≤ (l.length : Int) - 1) = true := by rw [decide_eq_true_eq]; omega
    by_cases h3 : n < 0
    · rw [if_pos (.inr (.inr h3))]
      exact refw_4 l a n hw hlen hc wl d1 d2 (by rw [decide_eq_true_eq]; exact h3)
    have d3 : decide (n < 0) = false := by rw [decide_eq_false_iff_not]; exact h3
    rw [if_neg (by omega)]
    by_cases h4 : n ∈ namesL l a
    · rw [if_pos h4]
      exact refw_5 l a n hw hlen hc wl d1 d2 d3 hg.1 hg.2.1 (by omega) (namesL_len l a) (fun l => List.length_map ..) (by rw [decide_eq_true_eq]; exact h4)
    · rw [if_neg h4]
      exact refw_6 l a n hw hlen hc wl d1 d2 d3 hg.1 hg.2.1 (by omega) (namesL_len l a) (fun l => List.length_map ..) (by rw [decide_eq_false_iff_not]; exact h4) (fun l => List.length_map ..)
  · rw [if_pos hc]
    exact refw_1 l a n hw (by rw [decide_eq_false_iff_not]; exact hc)

theorem refWith_c (xs : List (List RV)) (u v : Int) (h : xs = (shapesOf xs).map shapeR ∧ Wf (shapesOf xs)) : FC Cx 12 [.r (.rs 2 xs), Iv u, Iv v] [] (withV (withF (shapesOf xs) u v)) [] := by
  have := refWith_1 (shapesOf xs) u v h.2
  rwa [shapes_at h.1] at this
/-- How calls of this function are met. -/
def sp_refWith (args : List AV) (K : AV → Prop) : Prop := match args with
  | [.r (.rs 2 xs), .r (.v (.int .i64 u)), .r (.v (.int .i64 v))] => (xs = (shapesOf xs).map shapeR ∧ Wf (shapesOf xs)) ∧ K (withV (withF (shapesOf xs) u v))
  | _ => False
theorem sp_refWith_ok (args : List AV) (K : AV → Prop) (h : sp_refWith args K) : ∃ r, CallOk Cx 12 args r ∧ K r := by
  unfold sp_refWith at h
  split at h
  · exact ⟨_, CallOk_of (refWith_c _ _ _ h.1) en12 rfl rfl, h.2⟩
  · exact h.elim
noncomputable def ct_refWith : Ct Cx := .pure 12 sp_refWith sp_refWith_ok
@[go_sem] theorem ct_refWith_g : ct_refWith.g = 12 := rfl
@[go_sem] theorem ct_refWith_run (c : Call) (fop : Operand) (caps : List RV) (o : Oper) (st : St) (K : List Loc → List (Loc × Cont) → Prop) : ct_refWith.run c fop caps o st K = callT Cx sp_refWith c fop caps o st K := rfl
@[go_sem] theorem sp_refWith_eq (args : List AV) (K : AV → Prop) : sp_refWith args K = (match args with
    | [.r (.rs 2 xs), .r (.v (.int .i64 u)), .r (.v (.int .i64 v))] => (xs = (shapesOf xs).map shapeR ∧ Wf (shapesOf xs)) ∧ K (withV (withF (shapesOf xs) u v))
    | _ => False) := rfl

end Go.Proofs.Ytjbhpoolghfhiaa
