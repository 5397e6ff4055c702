/- ShapeGrows: with a name more a shape has its names, and that one behind; all others stay; asked again it is the same one. No condition. -/
import Derived.Test.YtjbhpoolghfhiaaG4
import Derived.Test.YtjbhpoolghfhiaaSh11
namespace Go.Proofs.Ytjbhpoolghfhiaa
set_option linter.unusedVariables false
set_option linter.unusedSimpArgs false
set_option maxHeartbeats 10000000
open Go Go.ChangeShapes Go.WideShapes Go.ChangeAt Go.RowKit

set_option maxRecDepth 100000 in
theorem shapeGrows_lifted (os : Os) (started : os.Started) (H : Type) (enc : TypeId × Value → H) :
    ReturnsInHanded {} Try.checked os 4 .any (Rows.shapeGrowsSpec.pre6 enc Try.prog Try.f4 Rows.shapeGrowsRow.domain false) (Rows.shapeGrowsSpec.post enc Try.prog Try.f4 false true false false) := by
  refine returnsInHanded_of_change (C := Try.checked) noKnob started (by kernel_rfl) Try.func4
    (ChangeSpec.witness6 (enc := enc) (C := Try.checked) false ⟨#[], #[.slice none 0 0, .int .i64 0, .int .i64 0, .int .i64 0], []⟩ 8 (by kernel_rfl) (by kernel_rfl) (by kernel_rfl) (by kernel_rfl)) ?_
  intro W base args ds gs before hval hW hcnd _
  obtain ⟨p, q, hA, hV, hpq, hfz, hnd⟩ := id hW
  obtain ⟨rows, h1, h2, h3, h4, h5⟩ := args_open (fun _ => 0) (fun _ => undef) hA (by kernel_rfl) (fun j t v ht hv => hval j t v (by simpa using ht) (by simpa using hv))
  rw [Try.params4] at h1 h2 h3 h4 h5
  match rows, h1 with
  | [r0, r1, r2, r3], _ =>
    obtain ⟨l, rfl, hw_l⟩ := Ro_shapes (h4 0 _ r0 rfl rfl)
    obtain ⟨a, rfl, hw_a⟩ := Ro_int (h4 1 _ r1 rfl rfl) Try.underlying3
    obtain ⟨n, rfl, hw_n⟩ := Ro_int (h4 2 _ r2 rfl rfl) Try.underlying3
    obtain ⟨o, rfl, hw_o⟩ := Ro_int (h4 3 _ r3 rfl rfl) Try.underlying3
    refine law_end (C := Cx) (avs := [shapesV l, Iv a, Iv n, Iv o]) laidB (by kernel_rfl) rfl (by kernel_rfl) Try.underlying4 ?_ hW ?_ trivial (Nat.zero_le _) ⟨by simpa using h2, fun j x y hx hy => ?_⟩ rfl ?_
    · intro ds hds
      have : ds.length = 4 := hds
      match ds, this with
      | [d0, d1, d2, d3], _ => rfl
    · exact h3
    · match j with
      | 0 => simp at hx; subst hx; exact h5 0 _ _ y rfl rfl (by simpa using hy)
      | 1 => simp at hx; subst hx; exact h5 1 _ _ y rfl rfl (by simpa using hy)
      | 2 => simp at hx; subst hx; exact h5 2 _ _ y rfl rfl (by simpa using hy)
      | 3 => simp at hx; subst hx; exact h5 3 _ _ y rfl rfl (by simpa using hy)
      | j + 4 => simp at hx
    · exact grows_c l a n o hw_l hw_a hw_n

theorem shapeGrows_holds : Rows.ShapeGrowsSaid :=
  OpenClaim.holds_of_wide 4 Try.f4 rfl rfl rfl rfl rfl rfl rfl ⟨rfl, rfl, rfl, rfl, rfl⟩ rfl rfl rfl rfl rfl (by kernel_rfl) Try.func4 (by kernel_rfl)
    (of_decide_eq_true (by kernel_rfl)) (by unfold Func.isWrapper; first | (rw [if_pos (by decide +kernel)]; kernel_rfl) | (rw [if_neg (by decide +kernel)]; exact ⟨rfl, rfl⟩))
    (fun os started H enc _ => shapeGrows_lifted os started H enc)

end Go.Proofs.Ytjbhpoolghfhiaa
