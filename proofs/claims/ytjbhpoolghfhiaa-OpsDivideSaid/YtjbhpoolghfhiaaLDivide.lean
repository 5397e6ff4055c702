/- OpsDivide: for every two whole numbers, a quotient times what it was divided by, and what is left, together are what was divided; what is left is nearer to 0 than that, and has its sign. No condition. -/
import Derived.Test.YtjbhpoolghfhiaaG3
import Derived.Test.YtjbhpoolghfhiaaOps5
namespace Go.Proofs.Ytjbhpoolghfhiaa
set_option linter.unusedVariables false
set_option linter.unusedSimpArgs false
set_option maxHeartbeats 10000000
open Go Go.ChangeShapes Go.WideShapes Go.ChangeAt Go.RowKit

set_option maxRecDepth 100000 in
theorem opsDivide_lifted (os : Os) (started : os.Started) (H : Type) (enc : TypeId × Value → H) :
    ReturnsInHanded {} Try.checked os 8 .any (Rows.opsDivideSpec.pre6 enc Try.prog Try.f8 Rows.opsDivideRow.domain false) (Rows.opsDivideSpec.post enc Try.prog Try.f8 false true false false) := by
  refine returnsInHanded_of_change (C := Try.checked) noKnob started (by kernel_rfl) Try.func8
    (ChangeSpec.witness6 (enc := enc) (C := Try.checked) false ⟨#[], #[.int .i64 0, .int .i64 0], []⟩ 8 (by kernel_rfl) (by kernel_rfl) (by kernel_rfl) (by kernel_rfl)) ?_
  intro W base args ds gs before hval hW hcnd _
  obtain ⟨p, q, hA, hV, hpq, hfz, hnd⟩ := id hW
  obtain ⟨rows, h1, h2, h3, h4, h5⟩ := args_open (fun _ => 0) (fun _ => undef) hA (by kernel_rfl) (fun j t v ht hv => hval j t v (by simpa using ht) (by simpa using hv))
  rw [Try.params8] at h1 h2 h3 h4 h5
  match rows, h1 with
  | [r0, r1], _ =>
    obtain ⟨a, rfl, _⟩ := Ro_int (h4 0 _ r0 rfl rfl) Try.underlying3
    obtain ⟨b, rfl, _⟩ := Ro_int (h4 1 _ r1 rfl rfl) Try.underlying3
    refine law_end (C := Cx) (avs := [Iv a, Iv b]) laidB (by kernel_rfl) rfl (by kernel_rfl) Try.underlying4 ?_ hW ?_ trivial (Nat.zero_le _) ⟨by simpa using h2, fun j x y hx hy => ?_⟩ rfl ?_
    · intro ds hds
      have : ds.length = 2 := hds
      match ds, this with
      | [d0, d1], _ => rfl
    · exact h3
    · match j with
      | 0 => simp at hx; subst hx; exact h5 0 _ _ y rfl rfl (by simpa using hy)
      | 1 => simp at hx; subst hx; exact h5 1 _ _ y rfl rfl (by simpa using hy)
      | j + 2 => simp at hx
    · exact divide_c a b

theorem opsDivide_holds : Rows.OpsDivideSaid :=
  OpenClaim.holds_of_wide 8 Try.f8 rfl rfl rfl rfl rfl rfl rfl ⟨rfl, rfl, rfl, rfl, rfl⟩ rfl rfl rfl rfl rfl (by kernel_rfl) Try.func8 (by kernel_rfl)
    (of_decide_eq_true (by kernel_rfl)) (by unfold Func.isWrapper; first | (rw [if_pos (by decide +kernel)]; kernel_rfl) | (rw [if_neg (by decide +kernel)]; exact ⟨rfl, rfl⟩))
    (fun os started H enc _ => opsDivide_lifted os started H enc)

end Go.Proofs.Ytjbhpoolghfhiaa
