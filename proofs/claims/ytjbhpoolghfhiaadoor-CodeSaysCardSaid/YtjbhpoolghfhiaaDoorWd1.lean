/- The texts that are there from the beginning: the library's Fields at a text of ASCII signs; Words; the document's own list. No condition: contracts. -/
import Derived.Test.YtjbhpoolghfhiaaDoorLb1
import Derived.Test.YtjbhpoolghfhiaaDoorWords
namespace Go.Proofs.YtjbhpoolghfhiaaDoor
set_option linter.unusedVariables false
set_option linter.unusedSimpArgs false
set_option maxHeartbeats 10000000
open Go
set_option maxRecDepth 10000

def asciiB (s : ByteArray) : Bool := s.data.toList.all fun b => decide (b.toNat < 128)
def fieldsL (s : ByteArray) : List ByteArray := (Lib.fields s.data.toList).map fun l => ⟨l.toArray⟩

theorem Ext_alloc (w : World) (o : Obj) : Ext w (fun _ => False) (w.alloc o) (fun _ => False) := by
  refine ⟨rfl, rfl, rfl, by show _ ≤ (w.heap.push o).size; rw [Array.size_push]; exact Nat.le_succ _, fun b hb _ => ⟨?_, fun h => h⟩⟩
  rw [RowKit.Below.heap_alloc w o b hb]

theorem fields_c (s : ByteArray) (h : asciiB s = true ∧ s.size < 4294967281) : CallOk Cx 43 [Sv s] (strsV (fieldsL s)) := by
  intro cur g w av vs hG hgs hav hvs
  obtain ⟨h1, h2⟩ := hvs
  match vs, h1 with
  | ⟨[v]⟩, _ =>
    have hv : v = .string s := inv_v (h2 0 _ v rfl rfl)
    subst hv
    refine .inr ⟨en43 _ w, (Tryd.strings_Fields s w h.2 (fun j b hb => ?_) hG).mono ?_⟩
    · have := List.all_eq_true.1 h.1 b (List.mem_of_getElem? hb)
      simpa using this
    · rintro e w' ⟨rfl, rfl⟩
      refine ⟨_, rfl, Ext_alloc _ _, fun cur' g' => .r ?_⟩
      have hn : (Lib.fields s.data.toList).length = ((fieldsL s).map strR).length := by simp [fieldsL]
      rw [hn]
      refine .rs 1 ((fieldsL s).map strR) ⟨w.heap.size, 0, none⟩ _ (fun i _ => .string ((fieldsL s).getD i ⟨#[]⟩)) (fun _ => ⟨by show _ < (w.heap.push _).size; rw [Array.size_push]; exact Nat.lt_succ_self _, fun hb => absurd (hav _ hb) (Nat.lt_irrefl _), rfl⟩) (Nat.le_refl _) (fun row hr => ?_) (fun i j hi hj => ?_) (fun i j row x hi hj => ?_)
      · obtain ⟨x, _, rfl⟩ := List.mem_map.1 hr; rfl
      · obtain rfl : j = 0 := by omega
        have hi' : i < (Lib.fields s.data.toList).length := by simpa [fieldsL] using hi
        have e0 : (⟨w.heap.size, 0 + (i * 1 + 0), none⟩ : Addr) = ⟨w.heap.size, i, none⟩ := by simp
        show (w.alloc _).cell? ⟨w.heap.size, 0 + (i * 1 + 0), none⟩ = _
        rw [e0, World.cell?_alloc_new]
        simp [fieldsL, List.getD, hi']
      · rw [List.getElem?_map] at hi
        cases hx : (fieldsL s)[i]? with
        | none => simp [hx] at hi
        | some y =>
          simp [hx] at hi
          subst hi
          match j with
          | 0 =>
            simp at hj
            subst hj
            simp only [List.getD, hx, Option.getD_some]
            exact .v _
          | j + 1 => simp at hj
/-- How calls of this function are met. -/
def sp_fields (args : List AV) (K : AV → Prop) : Prop := match args with
  | [.r (.v (.string s))] => (asciiB s = true ∧ s.size < 4294967281) ∧ K (strsV (fieldsL s))
  | _ => False
theorem sp_fields_ok (args : List AV) (K : AV → Prop) (h : sp_fields args K) : ∃ r, CallOk Cx 43 args r ∧ K r := by
  unfold sp_fields at h
  split at h
  · exact ⟨_, fields_c _ h.1, h.2⟩
  · exact h.elim
noncomputable def ct_fields : Ct Cx := .pure 43 sp_fields sp_fields_ok
@[go_sem] theorem ct_fields_g : ct_fields.g = 43 := rfl
@[go_sem] theorem ct_fields_run (c : Call) (fop : Operand) (caps : List RV) (o : Oper) (st : St) (K : List Loc → List (Loc × Cont) → Prop) : ct_fields.run c fop caps o st K = callT Cx sp_fields c fop caps o st K := rfl
@[go_sem] theorem sp_fields_eq (args : List AV) (K : AV → Prop) : sp_fields args K = (match args with
    | [.r (.v (.string s))] => (asciiB s = true ∧ s.size < 4294967281) ∧ K (strsV (fieldsL s))
    | _ => False) := rfl

/-- The texts that are there from the beginning. -/
def wordsL : List ByteArray := [⟨#[107, 105, 110, 100]⟩, ⟨#[114, 97, 110, 103, 101]⟩, ⟨#[122, 101, 114, 111]⟩, ⟨#[105, 110, 100, 101, 120]⟩, ⟨#[108, 97, 114, 103, 101]⟩, ⟨#[100, 101, 101, 112]⟩, ⟨#[115, 116, 97, 116, 101]⟩, ⟨#[99, 111, 117, 110, 116]⟩, ⟨#[110, 105, 108]⟩, ⟨#[98, 111, 111, 108]⟩, ⟨#[105, 110, 116]⟩, ⟨#[102, 108, 111, 97, 116]⟩, ⟨#[116, 101, 120, 116]⟩, ⟨#[111, 98, 106, 101, 99, 116]⟩, ⟨#[108, 105, 115, 116]⟩, ⟨#[102, 117, 110, 99, 116, 105, 111, 110]⟩, ⟨#[103, 101, 110, 101, 114, 97, 116, 111, 114]⟩, ⟨#[108, 111, 99, 107]⟩, ⟨#[119, 101, 97, 107]⟩]
@[go_sem] theorem wordsL_len : (wordsL.map strR).length = 19 := rfl

theorem words_c : FC Cx 16 [] [] (strsV wordsL) [] := by
  refine FCf_of [ct_fields] Tryd.func16 rfl Tryd.ntmps16 (by simp) Tryd.results16 rfl ?_
  apply Rn_st; (intro K0; simp only [go_sem]; exact ⟨id⟩)
  repeat' (first | (focus (intro K0; (try simp only [go_sem, *]); (first | exact ⟨id⟩ | (refine ⟨fun h => ?_⟩; (repeat' (first | exact h | refine And.intro ?_ ?_ | omega | rfl)); done)))) | (refine Rn_seq ?_) | (refine Rn_block ?_) | (apply Rn_region' lv16; (exact rfl)) | (refine Rn_region ?_) | (apply Rn_op'; (exact rfl)) | (refine Rn_o_nil ?_) | ((first | apply Rn_g | apply Rd_g); (exact rfl); (exact rfl); (focus (intro K0; (try simp only [lookT, ev, Nat.reduceEqDiff, ↓reduceIte]); exact ⟨id⟩))) | (with_reducible (first | apply RnG_yes | apply RdG_yes)) | ((with_reducible (first | apply RnG_t_no | apply RnG_f_no | apply RnG_un | apply RdG_t_no | apply RdG_f_no | apply RdG_un)); (exact rfl)) | ((first | apply RnG_never | apply RdG_never); (focus (intro K0; (try simp only [go_sem]); exact ⟨id⟩)); (exact rfl)) | ((first | apply RnG_lazy | apply RdG_lazy); (exact rfl); (focus (intro K0; (try simp only [go_sem]); exact ⟨id⟩)); (focus (first | (simp only [Nat.reduceLT]; done) | omega)); (focus (intro hw0; (try simp only [Bool.and_eq_true, Bool.not_eq_true', beq_true', beq_false'] at hw0); (focus (intro K0; (try simp only [go_sem, *]); (first | exact ⟨id⟩ | (refine ⟨fun h => ?_⟩; (repeat' (first | exact h | refine And.intro ?_ ?_ | omega | rfl)); done))))))) | (apply Rn_c; (focus (intro K0; (try simp only [lookT, ev, Nat.reduceEqDiff, ↓reduceIte]); exact ⟨id⟩))) | (with_reducible (first | refine RnC_t ?_ | refine RnC_f ?_)) | (refine Rn_skip ?_) | (refine Rn_exit rfl ?_) | (refine Rn_b ?_) | (apply Rn_draw' lv16; (exact rfl)) | (refine Rn_draw ?_) | (apply Rd_op'; (exact rfl)) | (refine Rd_nil (by kernel_rfl) ?_) | ((with_reducible (first | refine RnG_split (fun h => ?_) (fun h => ?_) | refine RdG_split (fun h => ?_) (fun h => ?_) | refine RnC_split (fun h => ?_) (fun h => ?_))) <;> (have h' := h) <;> (try simp only [decide_eq_true_eq, decide_eq_false_iff_not, Bool.not_eq_true', Bool.not_eq_false', Bool.and_eq_true, Bool.or_eq_true, Bool.or_eq_false_iff, beq_iff_eq, bne_iff_ne, ne_eq, Bool.not_true, Bool.not_false, not_false_eq_true, reduceCtorEq, beq_eq_false_iff_ne, bne_eq_false_iff_eq] at h') <;> (first | apply Rn_st | apply Rd_st)) | (refine Rn_out_ck rfl rfl ?_) | (first | refine Rn_ret_ck ?_ | refine Rn_ret ?_ | refine Rn_nil_then ?_) | (refine LoopN_step (T := [ct_fields]) ?_) | (refine Rn_nil ?_))
  · intro K0; (try simp only [go_sem]); exact ⟨fun h => ⟨⟨by kernel_rfl, by decide⟩, h⟩⟩
  all_goals repeat' (first | (focus (intro K0; (try simp only [go_sem, *]); (first | exact ⟨id⟩ | (refine ⟨fun h => ?_⟩; (repeat' (first | exact h | refine And.intro ?_ ?_ | omega | rfl)); done)))) | (refine Rn_seq ?_) | (refine Rn_block ?_) | (apply Rn_region' lv16; (exact rfl)) | (refine Rn_region ?_) | (apply Rn_op'; (exact rfl)) | (refine Rn_o_nil ?_) | ((first | apply Rn_g | apply Rd_g); (exact rfl); (exact rfl); (focus (intro K0; (try simp only [lookT, ev, Nat.reduceEqDiff, ↓reduceIte]); exact ⟨id⟩))) | (with_reducible (first | apply RnG_yes | apply RdG_yes)) | ((with_reducible (first | apply RnG_t_no | apply RnG_f_no | apply RnG_un | apply RdG_t_no | apply RdG_f_no | apply RdG_un)); (exact rfl)) | ((first | apply RnG_never | apply RdG_never); (focus (intro K0; (try simp only [go_sem]); exact ⟨id⟩)); (exact rfl)) | ((first | apply RnG_lazy | apply RdG_lazy); (exact rfl); (focus (intro K0; (try simp only [go_sem]); exact ⟨id⟩)); (focus (first | (simp only [Nat.reduceLT]; done) | omega)); (focus (intro hw0; (try simp only [Bool.and_eq_true, Bool.not_eq_true', beq_true', beq_false'] at hw0); (focus (intro K0; (try simp only [go_sem, *]); (first | exact ⟨id⟩ | (refine ⟨fun h => ?_⟩; (repeat' (first | exact h | refine And.intro ?_ ?_ | omega | rfl)); done))))))) | (apply Rn_c; (focus (intro K0; (try simp only [lookT, ev, Nat.reduceEqDiff, ↓reduceIte]); exact ⟨id⟩))) | (with_reducible (first | refine RnC_t ?_ | refine RnC_f ?_)) | (refine Rn_skip ?_) | (refine Rn_exit rfl ?_) | (refine Rn_b ?_) | (apply Rn_draw' lv16; (exact rfl)) | (refine Rn_draw ?_) | (apply Rd_op'; (exact rfl)) | (refine Rd_nil (by kernel_rfl) ?_) | ((with_reducible (first | refine RnG_split (fun h => ?_) (fun h => ?_) | refine RdG_split (fun h => ?_) (fun h => ?_) | refine RnC_split (fun h => ?_) (fun h => ?_))) <;> (have h' := h) <;> (try simp only [decide_eq_true_eq, decide_eq_false_iff_not, Bool.not_eq_true', Bool.not_eq_false', Bool.and_eq_true, Bool.or_eq_true, Bool.or_eq_false_iff, beq_iff_eq, bne_iff_ne, ne_eq, Bool.not_true, Bool.not_false, not_false_eq_true, reduceCtorEq, beq_eq_false_iff_ne, bne_eq_false_iff_eq] at h') <;> (first | apply Rn_st | apply Rd_st)) | (refine Rn_out_ck rfl rfl ?_) | (first | refine Rn_ret_ck ?_ | refine Rn_ret ?_ | refine Rn_nil_then ?_) | (refine LoopN_step (T := [ct_fields]) ?_) | (refine Rn_nil ?_))
  all_goals (try simp only [go_sem])
  exact congrArg strsV (by kernel_rfl)

theorem ownWords_c : FC Cx 17 [] [] (strsV wordsL) [] := by
  refine FCf_of [] Tryd.func17 rfl Tryd.ntmps17 (by simp) Tryd.results17 rfl ?_
  apply Rn_st; (intro K0; simp only [go_sem]; exact ⟨id⟩)
  (any_goals refine go lv17 0 ?_)
  repeat' (first | (refine Br.go (fun h h' => ?_) (fun h h' => ?_)) | (refine Br.mk (fun h => ?_) (fun h => ?_)))
  all_goals (try simp only [go_sem])
  all_goals rfl
/-- How calls of this function are met. -/
def sp_ownWords (args : List AV) (K : AV → Prop) : Prop := match args with
  | [] => K (strsV wordsL)
  | _ => False
theorem sp_ownWords_ok (args : List AV) (K : AV → Prop) (h : sp_ownWords args K) : ∃ r, CallOk Cx 17 args r ∧ K r := by
  unfold sp_ownWords at h
  split at h
  · exact ⟨_, CallOk_of (ownWords_c) en17 rfl rfl, h⟩
  · exact h.elim
noncomputable def ct_ownWords : Ct Cx := .pure 17 sp_ownWords sp_ownWords_ok
@[go_sem] theorem ct_ownWords_g : ct_ownWords.g = 17 := rfl
@[go_sem] theorem ct_ownWords_run (c : Call) (fop : Operand) (caps : List RV) (o : Oper) (st : St) (K : List Loc → List (Loc × Cont) → Prop) : ct_ownWords.run c fop caps o st K = callT Cx sp_ownWords c fop caps o st K := rfl
@[go_sem] theorem sp_ownWords_eq (args : List AV) (K : AV → Prop) : sp_ownWords args K = (match args with
    | [] => K (strsV wordsL)
    | _ => False) := rfl

/-- How calls of this function are met. -/
def sp_words (args : List AV) (K : AV → Prop) : Prop := match args with
  | [] => K (strsV wordsL)
  | _ => False
theorem sp_words_ok (args : List AV) (K : AV → Prop) (h : sp_words args K) : ∃ r, CallOk Cx 16 args r ∧ K r := by
  unfold sp_words at h
  split at h
  · exact ⟨_, CallOk_of (words_c) en16 rfl rfl, h⟩
  · exact h.elim
noncomputable def ct_words : Ct Cx := .pure 16 sp_words sp_words_ok
@[go_sem] theorem ct_words_g : ct_words.g = 16 := rfl
@[go_sem] theorem ct_words_run (c : Call) (fop : Operand) (caps : List RV) (o : Oper) (st : St) (K : List Loc → List (Loc × Cont) → Prop) : ct_words.run c fop caps o st K = callT Cx sp_words c fop caps o st K := rfl
@[go_sem] theorem sp_words_eq (args : List AV) (K : AV → Prop) : sp_words args K = (match args with
    | [] => K (strsV wordsL)
    | _ => False) := rfl

end Go.Proofs.YtjbhpoolghfhiaaDoor
