/- CodeMore, whatever is handed in. No condition: the contract of the law's function. -/
import Derived.Test.YtbhnmolmkembdaaDoorCd27
namespace Go.Proofs.YtbhnmolmkembdaaDoor
set_option linter.unusedVariables false
set_option linter.unusedSimpArgs false
set_option maxHeartbeats 10000000
open Go
set_option maxRecDepth 10000

theorem mod4 (a : Int) : (IntKind.u64.wrap a).tmod 4 = 0 ∨ (IntKind.u64.wrap a).tmod 4 = 1 ∨ (IntKind.u64.wrap a).tmod 4 = 2 ∨ (IntKind.u64.wrap a).tmod 4 = 3 := by
  have h : 0 ≤ IntKind.u64.wrap a := by
    simp only [IntKind.wrap, IntKind.u64, IntKind.bits, IntKind.signed]
    first | omega | (simp; omega) | exact Int.emod_nonneg _ (by decide)
  rw [Int.tmod_eq_emod_of_nonneg h]
  omega

theorem more_c (p : ProgT) (a : Int) (hw : Pwf p) : FC Cx 3 [progV p, Iv a] [] (Bv true) [] := by
  by_cases hc : checkF p = 0
  · obtain ⟨fns, cs, ts⟩ := p
    cases fns with
    | nil => have := (check_iff.1 hc).2.2.1; simp [firstF] at this
    | cons f0 rest =>
      obtain ⟨c1, c2, c3, c4⟩ := check_iff.1 hc
      have h19 := (tables_iff.1 c2).1
      cases hb : (decide ((190 : Int) < (cs.length : Int)) || decide ((190 : Int) < (ts.length : Int)) || decide ((50 : Int) < ((rest.length + 1 : Nat) : Int)) || decide (50 < f0.regs)) with
      | true => exact more_big f0 rest cs ts a hw hc hb
      | false =>
        have hz := hb
        simp only [Bool.or_eq_false_iff, decide_eq_false_iff_not] at hz
        obtain ⟨⟨⟨z1, z2⟩, z3⟩, z4⟩ := hz
        have w1 := hw.sz.fns; have w2 := hw.sz.consts; have w3 := hw.sz.texts
        simp only [List.length_cons] at w1
        have hfn := hw.fn
        rcases mod4 a with hu | hu | hu | hu
        · refine more_0 f0 rest cs ts a hw hc hb h19 hu ⟨⟨hw.sz.fns, by simp; omega, hw.sz.texts⟩, hfn⟩ (more_const hc (by show cs.length ≤ 190; omega) ?_)
          unfold badV; rfl
        · cases hB : (((ts ++ [hopeT]).take ((ts ++ [hopeT]).length - 1)).any fun y => decide (hopeT = y)) with
          | true => exact more_1t f0 rest cs ts a hw hc hb h19 hu _ rfl hB
          | false =>
            have ht : hopeT ∉ ts := by
              have e : (ts ++ [hopeT]).take ((ts ++ [hopeT]).length - 1) = ts := by simp
              rw [e] at hB; exact hasStr.1 hB
            exact more_1f f0 rest cs ts a hw hc hb h19 hu _ rfl hB ⟨⟨hw.sz.fns, hw.sz.consts, by simp; omega⟩, hfn⟩ (more_text hc (by show ts.length ≤ 190; omega) ht (by decide))
        · have hr : 1 ≤ f0.regs := by
            have := c4 f0 (List.mem_cons_self ..)
            unfold functionF at this
            split at this
            · cases this
            · rename_i q; omega
          refine more_2 f0 rest cs ts a hw hc hb h19 hu hr ⟨⟨by simpa using hw.sz.fns, hw.sz.consts, hw.sz.texts⟩, fun g hg => ?_⟩ (more_reg hc (by omega))
          rcases List.mem_cons.1 hg with rfl | hg
          · exact hfn f0 (List.mem_cons_self ..)
          · exact hfn g (List.mem_cons_of_mem _ hg)
        · refine more_3 f0 rest cs ts a hw hc hb h19 hu _ rfl ⟨⟨by simp; omega, hw.sz.consts, hw.sz.texts⟩, fun g hg => ?_⟩ (more_fn hc (by simp; omega) (by decide) new_right)
          rcases List.mem_append.1 hg with hg | hg
          · exact hfn g hg
          · simp at hg; subst hg; simp [newF]
  · exact more_no p a hw (by simpa using hc)

end Go.Proofs.YtbhnmolmkembdaaDoor
