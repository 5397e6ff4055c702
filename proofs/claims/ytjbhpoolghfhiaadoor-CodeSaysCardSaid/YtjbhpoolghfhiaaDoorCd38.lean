/- The first row of what the document knows. No condition: plain lemmas. -/
import Derived.Test.YtjbhpoolghfhiaaDoorCd37
namespace Go.Proofs.YtjbhpoolghfhiaaDoor
set_option linter.unusedVariables false
set_option linter.unusedSimpArgs false
set_option maxHeartbeats 10000000
open Go

theorem knC_first {f : FnT} (h0 : 0 < f.code.length) : knC (comeF f 0 [] (W0 f)) = (List.replicate f.code.length [Bv false, (.r (.v (.slice none 0 0)) : AV)]).set 0 [Bv true, triesV []] := by
  rw [doc_start h0, ← knC_none]
  exact (knC_set (W0 f) 0 true [] [] [0] false false).symm
/-- A row told otherwise, cell by cell. -/
theorem tell_set {A : List (List AV)} {k : Nat} {r r' : List AV} (h : ∀ (j : Nat) (x x' : AV), r[j]? = some x → r'[j]? = some x' → ∀ cur g w N v, AR cur g w N x v → AR cur g w N x' v) :
    ∀ (i j : Nat) (row row' : List AV) (x x' : AV), (A.set k r)[i]? = some row → (A.set k r')[i]? = some row' → row[j]? = some x → row'[j]? = some x' → ∀ cur g w N v, AR cur g w N x v → AR cur g w N x' v := by
  intro i j row row' x x' h1 h2 h3 h4 cur g w N v hv
  rw [List.getElem?_set] at h1 h2
  by_cases e : k = i
  · rw [if_pos e] at h1 h2
    by_cases hl : k < A.length
    · rw [if_pos hl] at h1 h2
      cases h1; cases h2
      exact h j x x' h3 h4 cur g w N v hv
    · rw [if_neg hl] at h1; cases h1
  · rw [if_neg e] at h1 h2
    rw [h1] at h2; cases h2
    rw [h3] at h4; cases h4
    exact hv
theorem first_tell {f : FnT} (h0 : 0 < f.code.length) :
    ∀ (i j : Nat) (row row' : List AV) (x x' : AV), ((List.replicate f.code.length [Bv false, (.r (.v (.slice none 0 0)) : AV)]).set 0 [Bv true, (.r (.v (.slice none 0 0)) : AV)])[i]? = some row → (knC (comeF f 0 [] (W0 f)))[i]? = some row' → row[j]? = some x → row'[j]? = some x' → ∀ cur g w N v, AR cur g w N x v → AR cur g w N x' v := by
  rw [knC_first h0]
  refine tell_set fun j x x' h1 h2 cur g w N v hv => ?_
  match j with
  | 0 => simp at h1 h2; subst h1; subst h2; exact hv
  | 1 =>
    simp at h1 h2; subst h1; subst h2
    cases hv with
    | r h => exact .r (RR.nilD (.nil 2) h)
  | j + 2 => simp at h1
theorem knC_row (W : WT) : ∀ row ∈ knC W, row.length = 2 := fun row h => by
  obtain ⟨i, hi⟩ := List.getElem?_of_mem h
  unfold knC at hi
  rw [List.getElem?_zipWith] at hi
  split at hi
  · cases hi; rfl
  · cases hi

end Go.Proofs.YtjbhpoolghfhiaaDoor
