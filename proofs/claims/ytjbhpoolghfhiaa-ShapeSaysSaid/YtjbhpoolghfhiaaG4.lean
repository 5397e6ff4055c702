/- Arguments that are lists of shapes, or of whole numbers. No condition: plain lemmas. -/
import Derived.Test.YtjbhpoolghfhiaaG3
import Derived.Test.YtjbhpoolghfhiaaSh4
namespace Go.Proofs.Ytjbhpoolghfhiaa
set_option linter.unusedVariables false
set_option linter.unusedSimpArgs false
set_option maxHeartbeats 10000000
open Go Go.ChangeShapes Go.WideShapes Go.ChangeAt Go.RowKit

theorem Ro_shape {row : List RV} (h : Ro Try.prog 29 row) : ∃ p, row = shapeR p ∧ WfS p := by
  obtain ⟨rows, rfl, h1, h2⟩ := Ro_struct h Try.underlying29
  match rows, h1 with
  | [a, b], _ =>
    obtain ⟨k, rfl, hk⟩ := Ro_int (h2 0 _ a rfl rfl) Try.underlying3
    obtain ⟨n, rfl, hn⟩ := Ro_int (h2 1 _ b rfl rfl) Try.underlying3
    exact ⟨(k, n), rfl, hk, hn⟩

theorem Ro_shapes {row : List RV} (h : Ro Try.prog 22 row) : ∃ l : List (Int × Int), row = [.rs 2 (l.map shapeR)] ∧ Wf l := by
  obtain ⟨rows, rfl, _, h2⟩ := Ro_slice h Try.underlying22
  obtain ⟨l, rfl, hl⟩ := rows_all (f := shapeR) (p := WfS) fun r hr => Ro_shape (h2 r hr)
  have : Try.prog.cellsOf 29 = 2 := by kernel_rfl
  exact ⟨l, by rw [this], hl⟩

theorem Ro_ints {row : List RV} (h : Ro Try.prog 30 row) : ∃ l : List Int, row = [.rs 1 (l.map intR)] ∧ ∀ x ∈ l, WfI x := by
  obtain ⟨rows, rfl, _, h2⟩ := Ro_slice h Try.underlying30
  obtain ⟨l, rfl, hl⟩ := rows_all (f := intR) (p := WfI) fun r hr => by
    obtain ⟨n, h1, hn⟩ := Ro_int (h2 r hr) Try.underlying3
    exact ⟨n, h1, hn⟩
  have : Try.prog.cellsOf 3 = 1 := by kernel_rfl
  exact ⟨l, by rw [this], hl⟩

end Go.Proofs.Ytjbhpoolghfhiaa
