/- A program with one thing more is as right as it was. No condition: plain lemmas. -/
import Derived.Test.YtbhnmolmkembdaaDoorCd17
namespace Go.Proofs.YtbhnmolmkembdaaDoor
set_option linter.unusedVariables false
set_option linter.unusedSimpArgs false
set_option maxHeartbeats 10000000
open Go

/-- The same function with as many registers or more. -/
structure Wide (f f' : FnT) : Prop where
  params : f'.params = f.params
  regs : f.regs ≤ f'.regs
  gen : f'.gen = f.gen
  caught : f'.caught = f.caught
  code : f'.code = f.code
theorem Wide.rfl {f : FnT} : Wide f f := ⟨_root_.rfl, Int.le_refl _, _root_.rfl, _root_.rfl, _root_.rfl⟩
/-- The same program with as much or more of each. -/
structure More (p p' : ProgT) : Prop where
  consts : p.consts.length ≤ p'.consts.length
  texts : p.texts.length ≤ p'.texts.length
  fns : p.fns.length ≤ p'.fns.length
  caught : ∀ k, k < p.fns.length → (p'.fns.getD k fn0).caught = (p.fns.getD k fn0).caught

theorem wi_more {n lo hi hi' : Int} (h : wiF n lo hi = true) (hh : hi ≤ hi') : wiF n lo hi' = true := by rw [wiF_iff] at h ⊢; omega
theorem names_more {p p' : ProgT} {f f' : FnT} (hp : More p p') (hf : Wide f f') {c n : Int} (h : namesF p f c n = true) : namesF p' f' c n = true := by
  have h1 := hp.consts; have h2 := hp.texts; have h3 := hp.fns; have h4 := hf.regs
  unfold namesF at h ⊢
  rw [hf.code, hf.caught]
  repeat' split at h
  all_goals (first | rw [if_pos (by assumption)] | skip)
  all_goals (repeat (first | rw [if_neg (by assumption)] | rw [if_pos (by assumption)]))
  all_goals (first | exact h | exact wi_more h (by omega))
theorem cau_more {f f' : FnT} (hf : Wide f f') {c : Int} (h : cauF f c = false) : cauF f' c = false := by
  have h4 := hf.regs
  unfold cauF at h ⊢
  rw [hf.caught]
  simp only [Bool.and_eq_false_iff, Bool.not_eq_false'] at h ⊢
  exact h.imp (fun h => wi_more h (by omega)) id
theorem caught_more {f f' g g' : FnT} (hf : Wide f f') (hg : g'.caught = g.caught) (h : caughtF f g = true) : caughtF f' g' = true := by
  unfold caughtF at h ⊢
  rw [hg]
  rw [Bool.not_eq_true', List.any_eq_false] at h ⊢
  intro x hx
  have := h x hx
  simp only [Bool.not_eq_true] at this ⊢
  exact cau_more hf this
theorem orderN_more {p p' : ProgT} {f f' : FnT} (hp : More p p') (hf : Wide f f') {i : InsT} (h : orderN p f i = true) : orderN p' f' i = true := by
  unfold orderN at h ⊢
  simp only [Bool.and_eq_true] at h ⊢
  exact ⟨⟨⟨h.1.1.1, names_more hp hf h.1.1.2⟩, names_more hp hf h.1.2⟩, names_more hp hf h.2⟩
theorem order_more {p p' : ProgT} {f f' : FnT} (hp : More p p') (hf : Wide f f') {n : Int} {i : InsT} (h : orderF p f n i = true) : orderF p' f' n i = true := by
  have h4 := hf.regs
  unfold orderF at h ⊢
  split at h
  · cases h
  rename_i e1
  rw [if_neg e1]
  split at h
  · cases h
  rename_i e2
  have hN : orderN p f i = true := by simpa using e2
  rw [if_neg (by rw [orderN_more hp hf hN]; simp)]
  split at h
  · rename_i e; rw [if_pos e]; exact h
  rename_i e3; rw [if_neg e3]
  split at h
  · rename_i e; rw [if_pos e]; simp only [decide_eq_true_eq] at h ⊢; omega
  rename_i e4; rw [if_neg e4]
  split at h
  · rename_i e; rw [if_pos e]; exact wi_more h (by omega)
  rename_i e5; rw [if_neg e5]
  split at h
  · rename_i e; rw [if_pos e]
    refine caught_more hf (hp.caught _ ?_) h
    unfold orderN at hN
    simp only [Bool.and_eq_true] at hN
    have h1 := hN.1.2
    rw [e] at h1
    have h2 : wiF i.b 1 ((p.fns.length : Int) - 1) = true := h1
    rw [wiF_iff] at h2; omega
  rename_i e6; rw [if_neg e6]
  split at h
  · rename_i e; rw [if_pos e, hf.gen]; exact h
  · rename_i e; rw [if_neg e]

theorem come_more {f f' : FnT} (hc : f'.code = f.code) (n : Int) (l : List (Int × Int)) (W : WT) : comeF f' n l W = comeF f n l W := by
  unfold comeF; rw [hc]
theorem from_more {f f' : FnT} (hc : f'.code = f.code) (n : Int) (W : WT) : fromF f' n W = fromF f n W := by
  unfold fromF; rw [hc]; simp only [come_more hc]
theorem run_more {f f' : FnT} (hc : f'.code = f.code) : ∀ (k : Nat) (W : WT), runW f' k W = runW f k W
  | 0, _ => rfl
  | k + 1, W => by
    show (if goesW W = true then runW f' k (stepW f' W) else W) = if goesW W = true then runW f k (stepW f W) else W
    have he : stepW f' W = stepW f W := from_more hc _ _
    rw [he, run_more hc k]
theorem walk_more {f f' : FnT} (hc : f'.code = f.code) : walkF f' = walkF f := by
  have e0 : W0 f' = W0 f := by unfold W0; rw [hc]
  unfold walkF
  rw [e0, hc, come_more hc, run_more hc]

theorem function_more {p p' : ProgT} {f f' : FnT} (hp : More p p') (hf : Wide f f') (h : functionF p f = true) : functionF p' f' = true := by
  have h4 := hf.regs
  unfold functionF at h ⊢
  rw [hf.params, walk_more hf.code]
  split at h
  · cases h
  rename_i q1
  rw [if_neg (by omega)]
  split at h
  · cases h
  rename_i q2
  have h1 : ordersF p f = true := by simpa using q2
  have h2 : ordersF p' f' = true := by
    unfold ordersF at h1 ⊢
    rw [hf.code]
    exact List.all_eq_true.2 fun j hj => order_more hp hf (List.all_eq_true.1 h1 j hj)
  rw [if_neg (by rw [h2]; simp)]
  exact h

/-- What is right, part by part. -/
theorem check_iff {p : ProgT} : checkF p = 0 ↔ largeF p = false ∧ tablesF p = true ∧ firstF p = true ∧ ∀ f ∈ p.fns, functionF p f = true := by
  unfold checkF
  constructor
  · intro h
    split at h
    · cases h
    · rename_i h1
      split at h
      · cases h
      · rename_i h2
        split at h
        · cases h
        · rename_i h3
          split at h
          · cases h
          · rename_i h4
            refine ⟨by simpa using h1, by simpa using h2, by simpa using h3, fun f hf => ?_⟩
            cases hq : functionF p f with
            | true => rfl
            | false => exact (h4 (List.any_eq_true.2 ⟨f, hf, by rw [hq]; rfl⟩)).elim
  · rintro ⟨h1, h2, h3, h4⟩
    rw [if_neg (by rw [h1]; simp), if_neg (by rw [h2]; simp), if_neg (by rw [h3]; simp), if_neg]
    intro h5
    obtain ⟨f, hf, hn⟩ := List.any_eq_true.1 h5
    rw [h4 f hf] at hn; cases hn

theorem large_iff {p : ProgT} : largeF p = false ↔ p.fns.length ≤ 60 ∧ p.consts.length ≤ 200 ∧ p.texts.length ≤ 200 ∧ (∀ s ∈ p.texts, s.size ≤ 200) ∧ ∀ f ∈ p.fns, f.code.length ≤ 600 ∧ f.regs ≤ 60 := by
  simp only [largeF, Bool.or_eq_false_iff, decide_eq_false_iff_not, List.any_eq_false, bigS, bigF, decide_eq_true_eq, Bool.or_eq_true]
  constructor
  · rintro ⟨⟨⟨⟨h1, h2⟩, h3⟩, h4⟩, h5⟩
    exact ⟨by omega, by omega, by omega, fun s hs => by have := h4 s hs; omega, fun f hf => by have := h5 f hf; omega⟩
  · rintro ⟨h1, h2, h3, h4, h5⟩
    exact ⟨⟨⟨⟨by omega, by omega⟩, by omega⟩, fun s hs => by have := h4 s hs; omega⟩, fun f hf => by have := h5 f hf; omega⟩
theorem tables_iff {p : ProgT} : tablesF p = true ↔ 19 ≤ p.texts.length ∧ p.texts.take 19 = wordsL ∧ p.texts.Nodup ∧ ∀ v ∈ p.consts, badV p v = false := by
  simp only [tablesF, Bool.and_eq_true, decide_eq_true_eq, Bool.not_eq_true', List.any_eq_false, Bool.not_eq_true]
  exact ⟨fun ⟨⟨⟨a, b⟩, c⟩, d⟩ => ⟨a, b, c, d⟩, fun ⟨a, b, c, d⟩ => ⟨⟨⟨a, b⟩, c⟩, d⟩⟩
theorem bad_more {p p' : ProgT} (h : p.texts.length ≤ p'.texts.length) {v : Int × Int} (hv : badV p v = false) : badV p' v = false := by
  unfold badV at hv ⊢
  simp only [Bool.or_eq_false_iff, Bool.and_eq_false_iff, decide_eq_false_iff_not] at hv ⊢
  refine ⟨hv.1, hv.2.imp id fun h => by omega⟩

section
variable {p : ProgT}
/-- A constant more. -/
theorem more_const (hc : checkF p = 0) (hn : p.consts.length ≤ 190) {v : Int × Int} (hv : badV p v = false) : checkF ⟨p.fns, p.consts ++ [v], p.texts⟩ = 0 := by
  rw [check_iff] at hc ⊢
  obtain ⟨h1, h2, h3, h4⟩ := hc
  rw [large_iff] at h1 ⊢
  rw [tables_iff] at h2 ⊢
  have hm : More p ⟨p.fns, p.consts ++ [v], p.texts⟩ := ⟨by simp, Nat.le_refl _, Nat.le_refl _, fun _ _ => rfl⟩
  refine ⟨⟨h1.1, by simp; omega, h1.2.2⟩, ⟨h2.1, h2.2.1, h2.2.2.1, fun w hw => ?_⟩, h3, fun f hf => function_more hm Wide.rfl (h4 f hf)⟩
  rcases List.mem_append.1 hw with hw | hw
  · exact bad_more (Nat.le_refl _) (h2.2.2.2 w hw)
  · simp at hw; subst hw; exact bad_more (Nat.le_refl _) hv
/-- A text more. -/
theorem more_text (hc : checkF p = 0) (hn : p.texts.length ≤ 190) {s : ByteArray} (hs : s ∉ p.texts) (hs2 : s.size ≤ 200) : checkF ⟨p.fns, p.consts, p.texts ++ [s]⟩ = 0 := by
  rw [check_iff] at hc ⊢
  obtain ⟨h1, h2, h3, h4⟩ := hc
  rw [large_iff] at h1 ⊢
  rw [tables_iff] at h2 ⊢
  have hm : More p ⟨p.fns, p.consts, p.texts ++ [s]⟩ := ⟨Nat.le_refl _, by simp, Nat.le_refl _, fun _ _ => rfl⟩
  refine ⟨⟨h1.1, h1.2.1, by simp; omega, fun x hx => ?_, h1.2.2.2.2⟩, ⟨by simp; omega, ?_, ?_, fun w hw => bad_more (by simp) (h2.2.2.2 w hw)⟩, h3, fun f hf => function_more hm Wide.rfl (h4 f hf)⟩
  · rcases List.mem_append.1 hx with hx | hx
    · exact h1.2.2.2.1 x hx
    · simp at hx; subst hx; exact hs2
  · show (p.texts ++ [s]).take 19 = wordsL
    rw [List.take_append_of_le_length h2.1]; exact h2.2.1
  · show (p.texts ++ [s]).Nodup
    rw [List.nodup_append]
    refine ⟨h2.2.2.1, by simp, fun a ha b hb => ?_⟩
    simp at hb; subst hb
    intro e; subst e; exact hs ha
/-- A register more in the first function. -/
theorem more_reg {f : FnT} {fs : List FnT} {cs : List (Int × Int)} {ts : List ByteArray} (hc : checkF ⟨f :: fs, cs, ts⟩ = 0) (hn : f.regs ≤ 50) : checkF ⟨⟨f.params, f.regs + 1, f.gen, f.caught, f.code⟩ :: fs, cs, ts⟩ = 0 := by
  rw [check_iff] at hc ⊢
  obtain ⟨h1, h2, h3, h4⟩ := hc
  rw [large_iff] at h1 ⊢
  rw [tables_iff] at h2 ⊢
  have hm : More ⟨f :: fs, cs, ts⟩ ⟨⟨f.params, f.regs + 1, f.gen, f.caught, f.code⟩ :: fs, cs, ts⟩ := ⟨Nat.le_refl _, Nat.le_refl _, by simp, fun k _ => by cases k <;> rfl⟩
  have hw : Wide f ⟨f.params, f.regs + 1, f.gen, f.caught, f.code⟩ := ⟨rfl, by simp; omega, rfl, rfl, rfl⟩
  refine ⟨⟨by simpa using h1.1, h1.2.1, h1.2.2.1, h1.2.2.2.1, fun g hg => ?_⟩, ⟨h2.1, h2.2.1, h2.2.2.1, fun w hw => bad_more (Nat.le_refl _) (h2.2.2.2 w hw)⟩, h3, fun g hg => ?_⟩
  · rcases List.mem_cons.1 hg with rfl | hg
    · exact ⟨(h1.2.2.2.2 f (List.mem_cons_self ..)).1, by simp; omega⟩
    · exact h1.2.2.2.2 g (List.mem_cons_of_mem _ hg)
  · rcases List.mem_cons.1 hg with rfl | hg
    · exact function_more hm hw (h4 f (List.mem_cons_self ..))
    · exact function_more hm Wide.rfl (h4 g (List.mem_cons_of_mem _ hg))
/-- A function more. -/
theorem more_fn (hc : checkF p = 0) (hn : p.fns.length ≤ 50) {g : FnT} (hg : g.code.length ≤ 600 ∧ g.regs ≤ 60) (hg2 : ∀ q : ProgT, functionF q g = true) : checkF ⟨p.fns ++ [g], p.consts, p.texts⟩ = 0 := by
  rw [check_iff] at hc ⊢
  obtain ⟨h1, h2, h3, h4⟩ := hc
  rw [large_iff] at h1 ⊢
  rw [tables_iff] at h2 ⊢
  have hm : More p ⟨p.fns ++ [g], p.consts, p.texts⟩ := ⟨Nat.le_refl _, Nat.le_refl _, by simp, fun k hk => by
    show ((p.fns ++ [g]).getD k fn0).caught = _
    simp only [List.getD, List.getElem?_append_left hk]⟩
  refine ⟨⟨by simp; omega, h1.2.1, h1.2.2.1, h1.2.2.2.1, fun f hf => ?_⟩, ⟨h2.1, h2.2.1, h2.2.2.1, fun w hw => bad_more (Nat.le_refl _) (h2.2.2.2 w hw)⟩, ?_, fun f hf => ?_⟩
  · rcases List.mem_append.1 hf with hf | hf
    · exact h1.2.2.2.2 f hf
    · simp at hf; subst hf; exact hg
  · unfold firstF at h3 ⊢
    cases hp : p.fns with
    | nil => rw [hp] at h3; cases h3
    | cons f fs => rw [hp] at h3; exact h3
  · rcases List.mem_append.1 hf with hf | hf
    · exact function_more hm Wide.rfl (h4 f hf)
    · simp at hf; subst hf; exact hg2 _
end

def newF : FnT := ⟨0, 1, false, [], [⟨28, 0, 0, 0, 0⟩]⟩
theorem new_right (q : ProgT) : functionF q newF = true := by
  have h1 : ordersF q newF = true := by
    unfold ordersF orderF orderN namesF
    rfl
  unfold functionF
  rw [if_neg (by decide), if_neg (by rw [h1]; simp)]
  rfl

end Go.Proofs.YtbhnmolmkembdaaDoor
