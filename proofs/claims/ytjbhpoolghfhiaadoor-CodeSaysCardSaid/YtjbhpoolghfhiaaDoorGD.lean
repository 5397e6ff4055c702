/- What the door's statements need besides: the table of white space out of the condition; the door's own heap meets it. No condition: closed facts and plain lemmas. -/
import Derived.Test.YtjbhpoolghfhiaaDoorG3
import Derived.Test.YtjbhpoolghfhiaaDoorTie
import Derived.Test.YtjbhpoolghfhiaaDoorCards
import Derived.Stop.LaidErr
import Derived.MakeChecks
import Derived.LaidMore
import Derived.Stop.Joined
import Derived.SevenTiedAt
namespace Go.Proofs.YtjbhpoolghfhiaaDoor
set_option linter.unusedVariables false
set_option linter.unusedSimpArgs false
set_option maxHeartbeats 10000000
open Go Go.ChangeShapes Go.WideShapes Go.ChangeAt Go.RowKit

/-- What the rows of this claim list. -/
noncomputable abbrev laidL : List (String × DataW Unit) := [("unicode.White_Space", Rows.laid_unicode_White_Space), ("strings.asciiSpace", Rows.laid_strings_asciiSpace)]

theorem door_met (os : Os) (args : Array Value) : laidMetH Tryd.prog laidL ((World.doorLaid Tryd.prog 400 os).forCall (fun _ _ => 0) ⟨#[], args, []⟩).memory :=
  laidMetH_of_parts3 (fuel := 8) (laidMet_of_run' 8 (by kernel_rfl) (by kernel_rfl)) (by kernel_rfl) (by kernel_rfl)

theorem space_data : (Rows.laid_strings_asciiSpace : DataW Unit) = Lib.tabData .u8 Lib.asciiSpaceTab := by kernel_rfl

theorem space_of_laid {W : World} (h : laidMetH Tryd.prog laidL W) : Cx.G W ∧ Cx.gs ≤ W.heap.size := by
  rw [MakeChecks.laidMetH_plain _ _ _ (by kernel_rfl)] at h
  have h2 := h.tail
  rw [space_data] at h2
  have h3 : Lib.TabIs Tryd.prog W "strings.asciiSpace" .u8 Lib.asciiSpaceTab := Lib.tabIs_of_head gSpace (t := 87) (e := 5) (n := 256) (by kernel_rfl) Tryd.underlying87 Tryd.underlying5 (by kernel_rfl) (by kernel_rfl) h2
  refine ⟨h3, ?_⟩
  unfold Lib.TabIs World.var? at h3
  rw [gSpace] at h3
  simp only [Option.bind_some] at h3
  show 1 + 1 ≤ _
  rcases Nat.lt_or_ge 1 W.heap.size with h' | h'
  · exact h'
  · rw [Array.getElem?_eq_none h'] at h3; simp at h3

end Go.Proofs.YtjbhpoolghfhiaaDoor
