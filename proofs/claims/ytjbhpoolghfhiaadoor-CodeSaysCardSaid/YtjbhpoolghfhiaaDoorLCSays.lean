/- CodeSays: whatever program and number are handed in, Check and Tries answer what the document says. No condition. -/
import Derived.Test.YtjbhpoolghfhiaaDoorG5
import Derived.Test.YtjbhpoolghfhiaaDoorCd44
namespace Go.Proofs.YtjbhpoolghfhiaaDoor
set_option linter.unusedVariables false
set_option linter.unusedSimpArgs false
set_option maxHeartbeats 10000000
open Go Go.ChangeShapes Go.WideShapes Go.ChangeAt Go.RowKit

set_option maxRecDepth 100000 in
theorem codeSays_lifted (os : Os) (started : os.Started) (H : Type) (enc : TypeId × Value → H) :
    ReturnsInHanded {} Tryd.checked os 6 .any (fun w args => (Rows.codeSaysSpec.pre enc Tryd.prog Tryd.f6 [] false w args ∧ laidMetH Tryd.prog laidL w) ∧ sizedMet enc Tryd.prog Tryd.f6 (OpenSpec.ofChange Rows.codeSaysSpec) false w args)
      (Rows.codeSaysSpec.post enc Tryd.prog Tryd.f6 false true false false) := by
  refine returnsInHanded_of_change_and (C := Tryd.checked) (X := fun w _ => laidMetH Tryd.prog laidL w) (fun _ _ _ hh h => h.of_heap hh) noKnob started (by kernel_rfl) Tryd.func6
    (ChangeSpec.witness_shaped (enc := enc) (C := Tryd.checked) (os := os) (X := fun w _ => laidMetH Tryd.prog laidL w) false (World.doorLaid Tryd.prog 400 os) #[.agg #[.slice none 0 0, .slice none 0 0, .slice none 0 0], .int .i64 0] 8 rfl (World.shaped_of_RefB (by kernel_rfl) (by kernel_rfl)) (by kernel_rfl) (by kernel_rfl) (by kernel_rfl) (door_met os _)) ?_
  intro W base args ds gs before hval hW _ _ hL _
  obtain ⟨p, q, hA, hV, hpq, hfz, hnd⟩ := id hW
  obtain ⟨hG, hgs⟩ := space_of_laid hL
  obtain ⟨rows, h1, h2, h3, h4, h5⟩ := args_open (fun _ => 0) (fun _ => undef) hA (by kernel_rfl) (fun j t v ht hv => hval j t v (by simpa using ht) (by simpa using hv))
  rw [Tryd.params6] at h1 h2 h3 h4 h5
  match rows, h1 with
  | [r0, r1], _ =>
    obtain ⟨p, rfl, hw_p⟩ := Ro_prog (h4 0 _ r0 rfl rfl)
    obtain ⟨n, rfl, hw_n⟩ := Ro_int (h4 1 _ r1 rfl rfl) Tryd.underlying3
    refine law_end (C := Cx) (avs := [progV p, Iv n]) laidB (by kernel_rfl) rfl (by kernel_rfl) Tryd.underlying4 ?_ hW ?_ hG hgs ⟨by simpa using h2, fun j x y hx hy => ?_⟩ rfl ?_
    · intro ds hds
      have : ds.length = 2 := hds
      match ds, this with
      | [d0, d1], _ => rfl
    · exact h3
    · match j with
      | 0 => simp at hx; subst hx; exact h5 0 _ _ y rfl rfl (by simpa using hy)
      | 1 => simp at hx; subst hx; exact h5 1 _ _ y rfl rfl (by simpa using hy)
      | j + 2 => simp at hx
    · exact says_c p n hw_p

theorem codeSays_said : Rows.CodeSaysSaid :=
  OpenClaim.holds_of_wide 6 Tryd.f6 rfl rfl rfl rfl rfl rfl rfl ⟨rfl, rfl, rfl, rfl, rfl⟩ rfl rfl rfl rfl rfl (by kernel_rfl) Tryd.func6 (by kernel_rfl)
    (of_decide_eq_true (by kernel_rfl)) (by unfold Func.isWrapper; first | (rw [if_pos (by decide +kernel)]; kernel_rfl) | (rw [if_neg (by decide +kernel)]; exact ⟨rfl, rfl⟩))
    (fun os started H enc _ => codeSays_lifted os started H enc)

theorem codeSays_holds : Rows.CodeSaysCardSaid :=
  Claim7.holds_tied_plain_at .later [] Rows.codeSaysCard.laidKinds true Rows.codeSaysCard.stood.harness false
    codeSays_said (fun _ h => by cases h) (by kernel_rfl) (fun _ h => by cases h) codeSays_row_tie rfl ⟨rfl, rfl⟩ (by kernel_rfl) rfl
    (fun f fn hf hfn => by
      obtain rfl : f = 6 := Option.some.inj ((show Tryd.prog.funcNamed Tryd.f6.name = some 6 by kernel_rfl).symm.trans hf) |>.symm
      obtain rfl : fn = Tryd.f6 := (Option.some.inj (Tryd.func6.symm.trans hfn)).symm
      exact ⟨by kernel_rfl, fun j t ht => by
        have hall : (Tryd.f6.params.toList.all fun u => !Tryd.prog.wantsStandIn u) = true := by kernel_rfl
        have hm : t ∈ Tryd.f6.params.toList := by simpa using Array.mem_of_getElem? ht
        exact (show Tryd.prog.wantsStandIn t = false by simpa using List.all_eq_true.1 hall t hm)⟩)
    (by kernel_rfl)

end Go.Proofs.YtjbhpoolghfhiaaDoor
