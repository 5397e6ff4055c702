/- CodeDead, whatever is handed in. No condition: the contract of the law's function. -/
import Derived.Test.YtjbhpoolghfhiaaDoorCd22
namespace Go.Proofs.YtjbhpoolghfhiaaDoor
set_option linter.unusedVariables false
set_option linter.unusedSimpArgs false
set_option maxHeartbeats 10000000
open Go
set_option maxRecDepth 10000

theorem dead_c (p : ProgT) (a : Int) (hw : Pwf p) : FC Cx 5 [progV p, Iv a] [] (Bv true) [] := by
  by_cases hc : checkF p ≠ 0
  · exact dead_no p a hw (checkF p) (by unfold TriesF; rw [if_pos hc]) (by simpa using hc)
  have hc0 : checkF p = 0 := by simpa using hc
  obtain ⟨fns, cs, ts⟩ := p
  cases fns with
  | nil =>
    refine dead_no _ a hw 1 ?_ rfl
    unfold TriesF
    rw [if_neg hc, if_pos (.inr (Int.le_refl _))]
  | cons f0 rest =>
    have hm : f0 ∈ f0 :: rest := List.mem_cons_self ..
    have hT : TriesF ⟨f0 :: rest, cs, ts⟩ 0 = ((walkF f0).out, (walkF f0).seen, 0) := by
      unfold TriesF
      rw [if_neg hc, if_neg (by simp only [List.length_cons]; omega)]
      rfl
    obtain ⟨hp, _, hcok, hbad⟩ := check_fn hw hc0 hm
    have iv := walk_iv hcok
    by_cases ha : a < 0 ∨ ((walkF f0).seen.length : Int) ≤ a
    · exact dead_out _ a hw _ hT ha
    obtain ⟨k, rfl⟩ : ∃ k : Nat, a = k := ⟨a.toNat, by omega⟩
    have hk : k < (walkF f0).seen.length := by omega
    cases hs : (walkF f0).seen.getD k false with
    | true => exact dead_yes _ k hw _ hT hk hs
    | false =>
      have h1 := iv.seen
      have hf60 := hp.fns
      have hw' : Pwf ⟨⟨f0.params, f0.regs, f0.gen, f0.caught, f0.code.set k endI⟩ :: rest, cs, ts⟩ := ⟨⟨hw.sz.fns, hw.sz.consts, hw.sz.texts⟩, fun f hf => by
        rcases List.mem_cons.1 hf with rfl | hf
        · have := hw.fn f0 hm
          exact ⟨by simpa using this.1, this.2⟩
        · exact hw.fn f (List.mem_cons_of_mem _ hf)⟩
      exact dead_go f0 rest cs ts k _ hw hw' hT (by omega) h1 (by simpa using hf60) hcok.len hs (check_dead hw hc0 hs)

end Go.Proofs.YtjbhpoolghfhiaaDoor
