/- ShapeSays: whatever list of shapes, shape and name are handed in, Check, With, Slot and Names answer what the document says. No condition. -/
import Derived.Test.YtjbhpoolghfhiaaG4
import Derived.Test.YtjbhpoolghfhiaaSh20
namespace Go.Proofs.Ytjbhpoolghfhiaa
set_option linter.unusedVariables false
set_option linter.unusedSimpArgs false
set_option maxHeartbeats 10000000
open Go Go.ChangeShapes Go.WideShapes Go.ChangeAt Go.RowKit

set_option maxRecDepth 100000 in
theorem shapeSays_lifted (os : Os) (started : os.Started) (H : Type) (enc : TypeId × Value → H) :
    ReturnsInHanded {} Try.checked os 3 .any (Rows.shapeSaysSpec.pre6 enc Try.prog Try.f3 Rows.shapeSaysRow.domain false) (Rows.shapeSaysSpec.post enc Try.prog Try.f3 false true false false) := by
  refine returnsInHanded_of_change (C := Try.checked) noKnob started (by kernel_rfl) Try.func3
    (ChangeSpec.witness6 (enc := enc) (C := Try.checked) false ⟨#[], #[.slice none 0 0, .int .i64 0, .int .i64 0], []⟩ 8 (by kernel_rfl) (by kernel_rfl) (by kernel_rfl) (by kernel_rfl)) ?_
  intro W base args ds gs before hval hW hcnd _
  obtain ⟨p, q, hA, hV, hpq, hfz, hnd⟩ := id hW
  obtain ⟨rows, h1, h2, h3, h4, h5⟩ := args_open (fun _ => 0) (fun _ => undef) hA (by kernel_rfl) (fun j t v ht hv => hval j t v (by simpa using ht) (by simpa using hv))
  rw [Try.params3] at h1 h2 h3 h4 h5
  match rows, h1 with
  | [r0, r1, r2], _ =>
    obtain ⟨l, rfl, hw_l⟩ := Ro_shapes (h4 0 _ r0 rfl rfl)
    obtain ⟨a, rfl, hw_a⟩ := Ro_int (h4 1 _ r1 rfl rfl) Try.underlying3
    obtain ⟨n, rfl, hw_n⟩ := Ro_int (h4 2 _ r2 rfl rfl) Try.underlying3
    refine law_end (C := Cx) (avs := [shapesV l, Iv a, Iv n]) laidB (by kernel_rfl) rfl (by kernel_rfl) Try.underlying4 ?_ hW ?_ trivial (Nat.zero_le _) ⟨by simpa using h2, fun j x y hx hy => ?_⟩ rfl ?_
    · intro ds hds
      have : ds.length = 3 := hds
      match ds, this with
      | [d0, d1, d2], _ => rfl
    · exact h3
    · match j with
      | 0 => simp at hx; subst hx; exact h5 0 _ _ y rfl rfl (by simpa using hy)
      | 1 => simp at hx; subst hx; exact h5 1 _ _ y rfl rfl (by simpa using hy)
      | 2 => simp at hx; subst hx; exact h5 2 _ _ y rfl rfl (by simpa using hy)
      | j + 3 => simp at hx
    · exact says_c l a n hw_l

theorem shapeSays_holds : Rows.ShapeSaysSaid :=
  OpenClaim.holds_of_wide 3 Try.f3 rfl rfl rfl rfl rfl rfl rfl ⟨rfl, rfl, rfl, rfl, rfl⟩ rfl rfl rfl rfl rfl (by kernel_rfl) Try.func3 (by kernel_rfl)
    (of_decide_eq_true (by kernel_rfl)) (by unfold Func.isWrapper; first | (rw [if_pos (by decide +kernel)]; kernel_rfl) | (rw [if_neg (by decide +kernel)]; exact ⟨rfl, rfl⟩))
    (fun os started H enc _ => shapeSays_lifted os started H enc)

end Go.Proofs.Ytjbhpoolghfhiaa
