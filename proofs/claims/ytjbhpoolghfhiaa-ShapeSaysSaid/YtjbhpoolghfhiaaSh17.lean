/- What is wrong with shapes, by the document, whatever they are. No condition: contracts. -/
import Derived.Test.YtjbhpoolghfhiaaSh16
namespace Go.Proofs.Ytjbhpoolghfhiaa
set_option linter.unusedVariables false
set_option linter.unusedSimpArgs false
set_option maxHeartbeats 10000000
open Go
set_option maxRecDepth 10000

theorem fault_c (xs : List (List RV)) (h : xs = (shapesOf xs).map shapeR ∧ Wf (shapesOf xs)) : FC Cx 13 [.r (.rs 2 xs)] [] (Iv (checkF (shapesOf xs))) [] := by
  have h1 : FC Cx 13 [shapesV (shapesOf xs)] [] (Iv (checkF (shapesOf xs))) [] := by
    by_cases h100 : 100 < (shapesOf xs).length
    · have e : checkF (shapesOf xs) = 2 := by rw [checkF, if_pos h100]
      rw [e]
      exact fault_large _ (List.length_map ..) (by rw [decide_eq_true_eq]; omega)
    · exact fault_some _ h.2 h100 (List.length_map ..) (by rw [decide_eq_false_iff_not]; omega)
  rwa [shapes_at h.1] at h1
/-- How calls of this function are met. -/
def sp_fault (args : List AV) (K : AV → Prop) : Prop := match args with
  | [.r (.rs 2 xs)] => (xs = (shapesOf xs).map shapeR ∧ Wf (shapesOf xs)) ∧ K (Iv (checkF (shapesOf xs)))
  | _ => False
theorem sp_fault_ok (args : List AV) (K : AV → Prop) (h : sp_fault args K) : ∃ r, CallOk Cx 13 args r ∧ K r := by
  unfold sp_fault at h
  split at h
  · exact ⟨_, CallOk_of (fault_c _ h.1) en13 rfl rfl, h.2⟩
  · exact h.elim
noncomputable def ct_fault : Ct Cx := .pure 13 sp_fault sp_fault_ok
@[go_sem] theorem ct_fault_g : ct_fault.g = 13 := rfl
@[go_sem] theorem ct_fault_run (c : Call) (fop : Operand) (caps : List RV) (o : Oper) (st : St) (K : List Loc → List (Loc × Cont) → Prop) : ct_fault.run c fop caps o st K = callT Cx sp_fault c fop caps o st K := rfl
@[go_sem] theorem sp_fault_eq (args : List AV) (K : AV → Prop) : sp_fault args K = (match args with
    | [.r (.rs 2 xs)] => (xs = (shapesOf xs).map shapeR ∧ Wf (shapesOf xs)) ∧ K (Iv (checkF (shapesOf xs)))
    | _ => False) := rfl

end Go.Proofs.Ytjbhpoolghfhiaa
