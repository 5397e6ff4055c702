/- ShapeOne: two that get the same names, in the same order, have one shape; in another order they have the same names, and other slots. No condition. -/
import Derived.Test.YtjbhpoolghfhiaaG4
import Derived.Test.YtjbhpoolghfhiaaSh13
namespace Go.Proofs.Ytjbhpoolghfhiaa
set_option linter.unusedVariables false
set_option linter.unusedSimpArgs false
set_option maxHeartbeats 10000000
open Go Go.ChangeShapes Go.WideShapes Go.ChangeAt Go.RowKit

set_option maxRecDepth 100000 in
theorem shapeOne_lifted (os : Os) (started : os.Started) (H : Type) (enc : TypeId × Value → H) :
    ReturnsInHanded {} Try.checked os 5 .any (Rows.shapeOneSpec.pre6 enc Try.prog Try.f5 Rows.shapeOneRow.domain false) (Rows.shapeOneSpec.post enc Try.prog Try.f5 false true false false) := by
  refine returnsInHanded_of_change (C := Try.checked) noKnob started (by kernel_rfl) Try.func5
    (ChangeSpec.witness6 (enc := enc) (C := Try.checked) false ⟨#[], #[.slice none 0 0, .slice none 0 0], []⟩ 8 (by kernel_rfl) (by kernel_rfl) (by kernel_rfl) (by kernel_rfl)) ?_
  intro W base args ds gs before hval hW hcnd _
  obtain ⟨p, q, hA, hV, hpq, hfz, hnd⟩ := id hW
  obtain ⟨rows, h1, h2, h3, h4, h5⟩ := args_open (fun _ => 0) (fun _ => undef) hA (by kernel_rfl) (fun j t v ht hv => hval j t v (by simpa using ht) (by simpa using hv))
  rw [Try.params5] at h1 h2 h3 h4 h5
  match rows, h1 with
  | [r0, r1], _ =>
    obtain ⟨l, rfl, hw_l⟩ := Ro_shapes (h4 0 _ r0 rfl rfl)
    obtain ⟨xs, rfl, hw_xs⟩ := Ro_ints (h4 1 _ r1 rfl rfl)
    refine law_end (C := Cx) (avs := [shapesV l, intsV xs]) laidB (by kernel_rfl) rfl (by kernel_rfl) Try.underlying4 ?_ hW ?_ trivial (Nat.zero_le _) ⟨by simpa using h2, fun j x y hx hy => ?_⟩ rfl ?_
    · intro ds hds
      have : ds.length = 2 := hds
      match ds, this with
      | [d0, d1], _ => rfl
    · exact h3
    · match j with
      | 0 => simp at hx; subst hx; exact h5 0 _ _ y rfl rfl (by simpa using hy)
      | 1 => simp at hx; subst hx; exact h5 1 _ _ y rfl rfl (by simpa using hy)
      | j + 2 => simp at hx
    · exact one_c l xs hw_l hw_xs

theorem shapeOne_holds : Rows.ShapeOneSaid :=
  OpenClaim.holds_of_wide 5 Try.f5 rfl rfl rfl rfl rfl rfl rfl ⟨rfl, rfl, rfl, rfl, rfl⟩ rfl rfl rfl rfl rfl (by kernel_rfl) Try.func5 (by kernel_rfl)
    (of_decide_eq_true (by kernel_rfl)) (by unfold Func.isWrapper; first | (rw [if_pos (by decide +kernel)]; kernel_rfl) | (rw [if_neg (by decide +kernel)]; exact ⟨rfl, rfl⟩))
    (fun os started H enc _ => shapeOne_lifted os started H enc)

end Go.Proofs.Ytjbhpoolghfhiaa
