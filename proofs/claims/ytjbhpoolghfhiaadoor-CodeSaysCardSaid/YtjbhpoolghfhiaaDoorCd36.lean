/- The document's TriesKnown, run: no code. No condition: a contract. -/
import Derived.Test.YtjbhpoolghfhiaaDoorCd35
import Derived.Test.YtjbhpoolghfhiaaDoorCd29
namespace Go.Proofs.YtjbhpoolghfhiaaDoor
set_option linter.unusedVariables false
set_option linter.unusedSimpArgs false
set_option maxHeartbeats 10000000
open Go
set_option maxRecDepth 10000



theorem known0_c (pa rg : Int) (ge : Bool) (us : List Int) : FC Cx 27 [fnA ⟨pa, rg, ge, us, []⟩] [] (.tup [.r (.v (.slice none 0 0)), Bv false]) [] := by
  refine FCp_of [ct_same'] Tryd.func27 rfl Tryd.ntmps27 (by simp) Tryd.results27 rfl ?_
  apply Rn_st; (intro K0; simp only [go_sem]; exact ⟨id⟩)
  refine goR (L := []) (n := 0) ?_
  (apply Rn_frzB 1; (exact rfl); (exact rfl); (exact rfl); (intro K0; (try simp only [go_sem]); exact ⟨id⟩))
  (any_goals refine go lv27 0 ?_)
  repeat' (first | (refine Br.go (fun h h' => ?_) (fun h h' => ?_)) | (refine Br.mk (fun h => ?_) (fun h => ?_)))
  all_goals (try simp only [go_sem])

end Go.Proofs.YtjbhpoolghfhiaaDoor
