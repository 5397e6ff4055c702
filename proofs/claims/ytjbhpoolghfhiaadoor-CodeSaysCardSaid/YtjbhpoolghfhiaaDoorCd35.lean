/- The document's passes end where the walk ends. No condition: plain lemmas. -/
import Derived.Test.YtjbhpoolghfhiaaDoorCd34
namespace Go.Proofs.YtjbhpoolghfhiaaDoor
set_option linter.unusedVariables false
set_option linter.unusedSimpArgs false
set_option maxHeartbeats 10000000
open Go

def knowF (f : FnT) : Nat → WT → WT
  | 0, W => W
  | k + 1, W => if W.bad = true ∨ W.todo = [] then W else knowF f k (passF f f.code.length (freshW W))
def nuW (W : WT) : Nat := 2 * cntF W.seen + (if W.todo = [] then 0 else 1)

theorem know_stop {f : FnT} {W : WT} (h : W.bad = true ∨ W.todo = []) : ∀ k, knowF f k W = W
  | 0 => rfl
  | k + 1 => by unfold knowF; rw [if_pos h]
theorem fresh_to {f : FnT} {W : WT} {t : Int} {l : List (Int × Int)} : To f (freshW W) t l ↔ To f W t l := ⟨fun ⟨a, b, c, d, e⟩ => ⟨a, b, c, d, e⟩, fun ⟨a, b, c, d, e⟩ => ⟨a, b, c, d, e⟩⟩
theorem fresh_iv {f : FnT} {W : WT} (h : Wiv f W) : Wiv f (freshW W) := ⟨h.seen, h.out, by have := h.todo; simp only [freshW, List.length_nil]; omega, (fun t ht => by simp [freshW] at ht), h.outs⟩
theorem pass_mu {f : FnT} (hk : Cok f) : ∀ (n : Nat) (W : WT), Wiv f W → muW (passF f n W) ≤ muW W
  | 0, W, h => Nat.le_refl _
  | n + 1, W, h => by
    have ih := pass_mu hk n W h
    have iv := pass_iv hk n W h
    unfold passF
    split
    · exact ih
    · split
      · exact Nat.le_trans (from_iv iv hk (by omega)).2 ih
      · exact ih
theorem pass_to {f : FnT} (hk : Cok f) {t : Int} {l : List (Int × Int)} : ∀ (n : Nat) (W : WT), Wiv f W → To f W t l → To f (passF f n W) t l
  | 0, W, _, h => h
  | n + 1, W, hi, h => by
    have ih := pass_to hk n W hi h
    have iv := pass_iv hk n W hi
    unfold passF
    split
    · exact ih
    · split
      · exact (from_fr iv hk (by omega)).keeps _ _ ih
      · exact ih
theorem pass_nu {f : FnT} (hk : Cok f) {W : WT} (hi : Wiv f W) (ht : W.todo ≠ []) : nuW (passF f f.code.length (freshW W)) < nuW W := by
  have h := pass_mu hk f.code.length _ (fresh_iv hi)
  have e : muW (freshW W) = 2 * cntF W.seen := by simp [muW, freshW]
  rw [e] at h
  unfold nuW
  rw [if_neg ht]
  unfold muW at h
  split
  · omega
  · rename_i h1
    have := List.length_pos_iff.2 h1
    omega

theorem know_in {f : FnT} (hk : Cok f) {V : WT} (hV : Clo f V) : ∀ (k : Nat) (W : WT), Wiv f W → Inn f W V → Inn f (knowF f k W) V
  | 0, W, _, h => h
  | k + 1, W, hi, h => by
    unfold knowF
    split
    · exact h
    · exact know_in hk hV k _ (pass_iv hk _ _ (fresh_iv hi)) (pass_in hk hV _ _ (fresh_iv hi) ⟨h.1, fun t l hT => h.2 t l (fresh_to.1 hT)⟩)
theorem know_iv {f : FnT} (hk : Cok f) : ∀ (k : Nat) (W : WT), Wiv f W → Wiv f (knowF f k W)
  | 0, W, h => h
  | k + 1, W, h => by
    unfold knowF
    split
    · exact h
    · exact know_iv hk k _ (pass_iv hk _ _ (fresh_iv h))
theorem know_clo {f : FnT} (hk : Cok f) : ∀ (k : Nat) (W : WT), Wiv f W → To f W 0 [] → W.todo ≠ [] → nuW W ≤ k → (knowF f k W).bad = true ∨ Clo f (knowF f k W)
  | 0, W, _, _, ht, hn => by unfold nuW at hn; rw [if_neg ht] at hn; omega
  | k + 1, W, hi, h0, ht, hn => by
    by_cases hb : W.bad = true
    · left; rw [know_stop (.inl hb)]; exact hb
    have e : knowF f (k + 1) W = knowF f k (passF f f.code.length (freshW W)) := by
      show (if W.bad = true ∨ W.todo = [] then W else _) = _
      rw [if_neg (fun h => h.elim hb ht)]
    rw [e]
    have hf := fresh_iv hi
    have hp := pass_iv hk f.code.length _ hf
    have hT := pass_to hk f.code.length _ hf (fresh_to.2 h0)
    by_cases hpb : (passF f f.code.length (freshW W)).bad = true
    · left; rw [know_stop (.inl hpb)]; exact hpb
    by_cases hpt : (passF f f.code.length (freshW W)).todo = []
    · right
      rw [know_stop (.inr hpt)]
      have := pass_clo hk hf (fresh_to.2 h0) (by simpa using hpb) hpt
      rw [(pass_same hk _ _ hf (by simpa using hpb) hpt).1]; exact this
    · exact know_clo hk k _ hp hT hpt (by have := pass_nu hk hi ht; omega)

/-- What the document's passes end with. -/
def docW (f : FnT) : WT := knowF f (2 * f.code.length + 2) (comeF f 0 [] (W0 f))

theorem doc_start {f : FnT} (h0 : 0 < f.code.length) : comeF f 0 [] (W0 f) = ⟨(W0 f).seen.set 0 true, (W0 f).out.set 0 [], [0], false⟩ := by
  unfold comeF
  rw [if_neg (by simp only [List.length_nil]; omega), if_pos (by simp [W0, List.getD, List.getElem?_replicate, h0])]
  rfl
theorem doc_clo {f : FnT} (hk : Cok f) (h0 : 0 < f.code.length) : (docW f).bad = true ∨ Clo f (docW f) := by
  have hi := (come_iv (n := 0) (l := []) (W0_iv f).1 (Int.le_refl 0))
  refine know_clo hk _ _ hi.1 (come_to (W0_iv f).1 (Int.le_refl 0) (by rw [doc_start h0])) (by rw [doc_start h0]; simp) ?_
  have h1 := hi.2
  rw [(W0_iv f).2] at h1
  unfold muW at h1
  unfold nuW
  split <;> omega
/-- They fail as the walk fails; and come to the same with the same tries. -/
theorem doc_walk {f : FnT} (hk : Cok f) (h0 : 0 < f.code.length) : (docW f).bad = (walkF f).bad ∧ ((walkF f).bad = false → ∀ t l, To f (docW f) t l ↔ To f (walkF f) t l) := by
  cases hb : (walkF f).bad with
  | false =>
    have hV := walk_clo hk hb h0
    have hi := (come_iv (n := 0) (l := []) (W0_iv f).1 (Int.le_refl 0)).1
    have hin : Inn f (docW f) (walkF f) := know_in hk hV _ _ hi (come_in (W0_iv f).1 ⟨rfl, fun t l hT => by
      have := hT.seen
      simp [W0, List.getD, List.getElem?_replicate] at this
      exfalso; split at this <;> cases this⟩ hV.1)
    refine ⟨hin.1, fun _ t l => ⟨hin.2 t l, ?_⟩⟩
    rcases doc_clo hk h0 with h | h
    · rw [hin.1] at h; cases h
    · exact (walkInn hk h).2 t l
  | true =>
    refine ⟨?_, fun h => by cases h⟩
    rcases doc_clo hk h0 with h | h
    · exact h
    · have := (walkInn hk h).1
      rw [hb] at this; cases this

end Go.Proofs.YtjbhpoolghfhiaaDoor
