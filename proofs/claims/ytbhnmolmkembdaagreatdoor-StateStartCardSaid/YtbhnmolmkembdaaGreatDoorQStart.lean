/- StateStart: each program that may be has a beginning that may be; one thread can go on. No condition. -/
import Derived.Test.YtbhnmolmkembdaaGreatDoorQ5
import Derived.Test.YtbhnmolmkembdaaGreatDoorQ7
namespace Go.Proofs.YtbhnmolmkembdaaGreatDoor
set_option maxHeartbeats 10000000
open Go Go.ChangeShapes Go.WideShapes Go.ChangeAt Go.RowKit
set_option maxRecDepth 100000 in
theorem stateStart_lifted (os : Os) (started : os.Started) (H : Type) (enc : TypeId × Value → H) :
    ReturnsInHanded {} Tryz.checked os 3 .any (fun w args => (Rows.stateStartSpec.pre enc Tryz.prog Tryz.f3 [] false w args ∧ laidMetH Tryz.prog laidL w) ∧ sizedMet enc Tryz.prog Tryz.f3 (OpenSpec.ofChange Rows.stateStartSpec) false w args)
      (Rows.stateStartSpec.post enc Tryz.prog Tryz.f3 false true false false) := by
  refine returnsInHanded_of_change_and (C := Tryz.checked) (X := fun w _ => laidMetH Tryz.prog laidL w) (fun _ _ _ hh h => h.of_heap hh) noKnob started (by kernel_rfl) Tryz.func3
    (ChangeSpec.witness_shaped (enc := enc) (C := Tryz.checked) (os := os) (X := fun w _ => laidMetH Tryz.prog laidL w) false (World.doorLaid Tryz.prog 400 os) #[.agg #[.slice none 0 0, .slice none 0 0, .slice none 0 0]] 8 rfl (World.shaped_of_RefB (by kernel_rfl) (by kernel_rfl)) (by kernel_rfl) (by kernel_rfl) (by kernel_rfl) (door_met os _)) ?_
  intro W base args ds gs before hval hW _ _ hL _
  obtain ⟨p, q, hA, hV, hpq, hfz, hnd⟩ := id hW
  obtain ⟨hG, hgs⟩ := space_of_laid hL
  obtain ⟨rows, h1, h2, h3, h4, h5⟩ := args_open (fun _ => 0) gh0 hA (by kernel_rfl) (fun j t v ht hv => hval j t v (by simpa using ht) (by simpa using hv))
  rw [Tryz.params3] at h1 h2 h3 h4 h5
  match rows, h1 with
  | [r0], _ =>
    obtain ⟨p, rfl, hw_p⟩ := Ro_prog (h4 0 _ r0 rfl rfl)
    refine law_end (C := Cx) (avs := [progV p]) laidB (by kernel_rfl) rfl (by kernel_rfl) Tryz.underlying4 ?_ hW ?_ hG hgs ⟨by simpa using h2, fun j x y hx hy => ?_⟩ rfl ?_
    · intro ds hds
      have : ds.length = 1 := hds
      match ds, this with
      | [d0], _ => rfl
    · exact h3
    · match j with
      | 0 => simp at hx; subst hx; exact h5 0 _ _ y rfl rfl (by simpa using hy)
      | j + 1 => simp at hx
    · exact stateStart_c p hw_p
theorem stateStart_said : Rows.StateStartSaid :=
  OpenClaim.holds_of_wide 3 Tryz.f3 rfl rfl rfl rfl rfl rfl rfl ⟨rfl, rfl, rfl, rfl, rfl⟩ rfl rfl rfl rfl rfl (by kernel_rfl) Tryz.func3 (by kernel_rfl)
    (of_decide_eq_true (by kernel_rfl)) (by unfold Func.isWrapper; first | (rw [if_pos (by decide +kernel)]; kernel_rfl) | (rw [if_neg (by decide +kernel)]; exact ⟨rfl, rfl⟩))
    (fun os started H enc _ => stateStart_lifted os started H enc)
theorem stateStart_holds : Rows.StateStartCardSaid :=
  Claim7.holds_tied_plain_at .later [] Rows.stateStartCard.laidKinds true Rows.stateStartCard.stood.harness false
    stateStart_said (fun _ h => by cases h) (by kernel_rfl) (fun _ h => by cases h) stateStart_row_tie rfl ⟨rfl, rfl⟩ (by kernel_rfl) rfl
    (fun f fn hf hfn => by
      obtain rfl : f = 3 := Option.some.inj ((show Tryz.prog.funcNamed Tryz.f3.name = some 3 by kernel_rfl).symm.trans hf) |>.symm
      obtain rfl : fn = Tryz.f3 := (Option.some.inj (Tryz.func3.symm.trans hfn)).symm
      exact ⟨by kernel_rfl, fun j t ht => by
        have hall : (Tryz.f3.params.toList.all fun u => !Tryz.prog.wantsStandIn u) = true := by kernel_rfl
        have hm : t ∈ Tryz.f3.params.toList := by simpa using Array.mem_of_getElem? ht
        exact (show Tryz.prog.wantsStandIn t = false by simpa using List.all_eq_true.1 hall t hm)⟩)
    (by kernel_rfl)
end Go.Proofs.YtbhnmolmkembdaaGreatDoor
