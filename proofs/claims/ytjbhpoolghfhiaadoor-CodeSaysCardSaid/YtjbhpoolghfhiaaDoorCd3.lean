/- Forms of orders; what an order may name, in its place. No condition: contracts of the program's functions. -/
import Derived.Test.YtjbhpoolghfhiaaDoorCd2
namespace Go.Proofs.YtjbhpoolghfhiaaDoor
set_option linter.unusedVariables false
set_option linter.unusedSimpArgs false
set_option maxHeartbeats 10000000
open Go
set_option maxRecDepth 10000



/-- What an order names, by its kind. -/
def formsT : List ByteArray := [⟨#[]⟩, ⟨#[114, 107, 45]⟩, ⟨#[114, 114, 45]⟩, ⟨#[114, 114, 114]⟩, ⟨#[114, 114, 114]⟩, ⟨#[114, 114, 114]⟩, ⟨#[114, 114, 114]⟩, ⟨#[114, 114, 114]⟩, ⟨#[114, 114, 114]⟩, ⟨#[114, 114, 114]⟩, ⟨#[114, 114, 114]⟩, ⟨#[114, 114, 45]⟩, ⟨#[114, 114, 45]⟩, ⟨#[97, 45, 45]⟩, ⟨#[97, 45, 45]⟩, ⟨#[114, 97, 45]⟩, ⟨#[114, 45, 45]⟩, ⟨#[114, 114, 116]⟩, ⟨#[114, 116, 114]⟩, ⟨#[114, 108, 110]⟩, ⟨#[114, 114, 114]⟩, ⟨#[114, 114, 114]⟩, ⟨#[114, 45, 45]⟩, ⟨#[114, 114, 45]⟩, ⟨#[114, 114, 45]⟩, ⟨#[114, 117, 45]⟩, ⟨#[114, 102, 45]⟩, ⟨#[114, 99, 110]⟩, ⟨#[114, 45, 45]⟩, ⟨#[114, 45, 45]⟩, ⟨#[114, 97, 45]⟩, ⟨#[45, 45, 45]⟩, ⟨#[114, 114, 45]⟩, ⟨#[114, 45, 45]⟩, ⟨#[114, 45, 45]⟩, ⟨#[114, 114, 45]⟩, ⟨#[114, 114, 45]⟩, ⟨#[114, 45, 45]⟩, ⟨#[114, 45, 45]⟩]
def formF (op : Int) : ByteArray := if op < 1 ∨ 39 ≤ op then ⟨#[]⟩ else formsT.getD op.toNat ⟨#[]⟩
theorem ors {op : Int} (h : ¬ (op < 1 ∨ 39 ≤ op)) : op = 1 ∨ op = 2 ∨ op = 3 ∨ op = 4 ∨ op = 5 ∨ op = 6 ∨ op = 7 ∨ op = 8 ∨ op = 9 ∨ op = 10 ∨ op = 11 ∨ op = 12 ∨ op = 13 ∨ op = 14 ∨ op = 15 ∨ op = 16 ∨ op = 17 ∨ op = 18 ∨ op = 19 ∨ op = 20 ∨ op = 21 ∨ op = 22 ∨ op = 23 ∨ op = 24 ∨ op = 25 ∨ op = 26 ∨ op = 27 ∨ op = 28 ∨ op = 29 ∨ op = 30 ∨ op = 31 ∨ op = 32 ∨ op = 33 ∨ op = 34 ∨ op = 35 ∨ op = 36 ∨ op = 37 ∨ op = 38 := by omega
theorem formF_size {op : Int} (h : ¬ (op < 1 ∨ 39 ≤ op)) : (formF op).size = 3 := by
  rcases ors h with rfl | rfl | rfl | rfl | rfl | rfl | rfl | rfl | rfl | rfl | rfl | rfl | rfl | rfl | rfl | rfl | rfl | rfl | rfl | rfl | rfl | rfl | rfl | rfl | rfl | rfl | rfl | rfl | rfl | rfl | rfl | rfl | rfl | rfl | rfl | rfl | rfl | rfl <;> rfl

theorem form_c (op : Int) : FC Cx 75 [Iv op] [] (Sv (formF op)) [] := by
  have hd : ∀ (h : ¬ (op < 1 ∨ 39 ≤ op)), List.drop op.toNat (formsT.map fun s => RV.v (.string s)) = .v (.string (formF op)) :: List.drop (op.toNat + 1) (formsT.map fun s => RV.v (.string s)) := fun h => by
    rcases ors h with rfl | rfl | rfl | rfl | rfl | rfl | rfl | rfl | rfl | rfl | rfl | rfl | rfl | rfl | rfl | rfl | rfl | rfl | rfl | rfl | rfl | rfl | rfl | rfl | rfl | rfl | rfl | rfl | rfl | rfl | rfl | rfl | rfl | rfl | rfl | rfl | rfl | rfl <;> rfl
  simp only [formsT, List.map_cons, List.map_nil] at hd
  refine FCp_of [] Tryd.func75 rfl Tryd.ntmps75 (by simp) Tryd.results75 rfl ?_
  apply Rn_st; (intro K0; simp only [go_sem]; exact ⟨id⟩)
  (any_goals refine go (dropL 2 lv75) 0 ?_)
  repeat' (first | (refine Br.go (fun h h' => ?_) (fun h h' => ?_)) | (refine Br.mk (fun h => ?_) (fun h => ?_)))
  (apply Rn_frzB 3; (exact rfl); (exact rfl); (exact rfl); (intro K0; (try simp only [go_sem]); exact ⟨id⟩))
  by_cases hop : op < 1 ∨ 39 ≤ op
  · clear hd
    have h1 : (decide (op < 1) || decide (39 ≤ op)) = true := by simpa using hop
    have e : formF op = ⟨#[]⟩ := if_pos hop
    (any_goals refine go lv75 0 ?_)
    repeat' (first | (refine Br.go (fun h h' => ?_) (fun h h' => ?_)) | (refine Br.mk (fun h => ?_) (fun h => ?_)))
    all_goals (try simp only [go_sem])
    all_goals (rw [e])
  · have h1 : (decide (op < 1) || decide (39 ≤ op)) = false := by rw [Bool.eq_false_iff]; simpa using hop
    replace hd := hd hop
    have b1 : 0 ≤ op := by omega
    have b2 : op < 39 := by omega
    have b3 : op.toNat < 39 := by omega
    have b4 : op.toNat * 1 = op.toNat := Nat.mul_one _
    (any_goals refine go lv75 0 ?_)
    repeat' (first | (refine Br.go (fun h h' => ?_) (fun h h' => ?_)) | (refine Br.mk (fun h => ?_) (fun h => ?_)))
    all_goals (try simp only [go_sem])
/-- How calls of this function are met. -/
def sp_form (args : List AV) (K : AV → Prop) : Prop := match args with
  | [.r (.v (.int .i64 op))] => K (Sv (formF op))
  | _ => False
theorem sp_form_ok (args : List AV) (K : AV → Prop) (h : sp_form args K) : ∃ r, CallOk Cx 75 args r ∧ K r := by
  unfold sp_form at h
  split at h
  · exact ⟨_, CallOk_of (form_c _) en75 rfl rfl, h⟩
  · exact h.elim
noncomputable def ct_form : Ct Cx := .pure 75 sp_form sp_form_ok
@[go_sem] theorem ct_form_g : ct_form.g = 75 := rfl
@[go_sem] theorem ct_form_run (c : Call) (fop : Operand) (caps : List RV) (o : Oper) (st : St) (K : List Loc → List (Loc × Cont) → Prop) : ct_form.run c fop caps o st K = callT Cx sp_form c fop caps o st K := rfl
@[go_sem] theorem sp_form_eq (args : List AV) (K : AV → Prop) : sp_form args K = (match args with
    | [.r (.v (.int .i64 op))] => K (Sv (formF op))
    | _ => False) := rfl

end Go.Proofs.YtjbhpoolghfhiaaDoor
