/- The rows of what the document knows. No condition: plain lemmas. -/
import Derived.Test.YtjbhpoolghfhiaaDoorCd36
namespace Go.Proofs.YtjbhpoolghfhiaaDoor
set_option linter.unusedVariables false
set_option linter.unusedSimpArgs false
set_option maxHeartbeats 10000000
open Go

/-- What is known of one order: come to, with its tries; or nothing. -/
def kC (b : Bool) (l : List (Int × Int)) : List AV := [Bv b, bif b then triesV l else .r (.v (.slice none 0 0))]
def knC (W : WT) : List (List AV) := List.zipWith kC W.seen W.out

theorem knC_len {f : FnT} {W : WT} (h : Wiv f W) : (knC W).length = f.code.length := by
  unfold knC; rw [List.length_zipWith, h.seen, h.out, Nat.min_self]
theorem knC_at {f : FnT} {W : WT} (h : Wiv f W) {n : Nat} (hn : n < f.code.length) : (knC W).getD n [] = kC (W.seen.getD n false) (W.out.getD n []) := by
  have h1 : n < W.seen.length := by rw [h.seen]; exact hn
  have h2 : n < W.out.length := by rw [h.out]; exact hn
  simp only [knC, List.getD, List.getElem?_zipWith, List.getElem?_eq_getElem h1, List.getElem?_eq_getElem h2, Option.getD_some]
theorem knC_set (W : WT) (n : Nat) (b : Bool) (l : List (Int × Int)) (t t' : List Int) (q q' : Bool) : (knC ⟨W.seen, W.out, t, q⟩).set n (kC b l) = knC ⟨W.seen.set n b, W.out.set n l, t', q'⟩ := by
  unfold knC
  apply List.ext_getElem?
  intro j
  simp only [List.getElem?_set, List.getElem?_zipWith, List.length_zipWith]
  by_cases e : n = j
  · subst e
    by_cases h1 : n < W.seen.length <;> by_cases h2 : n < W.out.length <;> simp [h1, h2, Nat.lt_min]
  · simp [e]
theorem knC_none (f : FnT) : knC (W0 f) = List.replicate f.code.length [Bv false, .r (.v (.slice none 0 0))] := by
  unfold knC W0
  rw [List.zipWith_replicate, Nat.min_self]; rfl

end Go.Proofs.YtjbhpoolghfhiaaDoor
