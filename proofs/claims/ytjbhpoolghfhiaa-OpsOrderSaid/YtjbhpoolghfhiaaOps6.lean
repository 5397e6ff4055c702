/- Plain facts of the machine's whole numbers: sums, products, quotients. No condition: plain arithmetic. -/
import Derived.Test.YtjbhpoolghfhiaaOps2
namespace Go.Proofs.Ytjbhpoolghfhiaa
set_option linter.unusedVariables false
set_option linter.unusedSimpArgs false
set_option maxHeartbeats 10000000
open Go

theorem right2 (a : Int) : rightF 2 a = decide (-2147483648 ≤ a ∧ a ≤ 2147483647) := by simp [rightF]

theorem bin_l (op a l m : Int) (h : rightF 2 a = false) (ho : op ≠ 8) : binaryF op 2 a l m = (0, 0, 0) := by
  simp [binaryF, takK, takN, h, ho]
theorem bin_r (op k n b : Int) (h : rightF 2 b = false) (ho : op ≠ 8) : binaryF op k n 2 b = (0, 0, 0) := by
  simp [binaryF, takK, takN, h, ho]
theorem bin_nil (op l m : Int) (ho : op ≠ 8) : binaryF op 0 0 l m = (0, 0, 0) := by
  simp [binaryF, takK, takN, ho]
theorem bin_nil' (op k n : Int) (ho : op ≠ 8) : binaryF op k n 0 0 = (0, 0, 0) := by
  simp [binaryF, takK, takN, ho]
theorem bin_whole (op a b : Int) (ha : rightF 2 a = true) (hb : rightF 2 b = true) (ho : op ≠ 8) : binaryF op 2 a 2 b = wholesF op a b := by
  simp [binaryF, takK, takN, ha, hb, ho]

theorem whole_ok (n : Int) : wholeF n = (2, n, -1) ∧ rightF 2 n = true ∨ wholeF n = (0, 0, 1) := by
  unfold wholeF
  split
  · rename_i h; left; exact ⟨rfl, by rw [right2]; simpa using h⟩
  · right; rfl
theorem whole_in (n : Int) (h : rightF 2 n = true) : wholeF n = (2, n, -1) := by
  rw [right2, decide_eq_true_eq] at h
  simp [wholeF, h]
theorem whole_thr (n : Int) (h : (wholeF n).2.2 = -1) : rightF 2 n = true ∧ wholeF n = (2, n, -1) := by
  rcases whole_ok n with ⟨h1, h2⟩ | h1
  · exact ⟨h2, h1⟩
  · rw [h1] at h; simp at h

theorem tdiv_abs (a b : Int) : (a.tdiv b).natAbs ≤ a.natAbs := by
  rw [Int.natAbs_tdiv]; exact Nat.div_le_self _ _
theorem tmod_abs (a b : Int) : (a.tmod b).natAbs = a.natAbs % b.natAbs := Int.natAbs_tmod a b

theorem tmod_sign (a b : Int) : (0 ≤ a → 0 ≤ a.tmod b) ∧ (a ≤ 0 → a.tmod b ≤ 0) := by
  refine ⟨fun h => Int.tmod_nonneg b h, fun h => ?_⟩
  have := Int.tmod_nonneg b (show 0 ≤ -a by omega)
  rw [Int.neg_tmod] at this
  omega

/-- Euclid's law of the machine's quotients. -/
theorem euclid (a b : Int) (ha : rightF 2 a = true) (hb : rightF 2 b = true) (he : (binaryF 6 2 a 2 b).2.2 = -1) :
    binaryF 6 2 a 2 b = (2, a.tdiv b, -1) ∧ binaryF 7 2 a 2 b = (2, a.tmod b, -1) ∧ binaryF 5 2 (a.tdiv b) 2 b = (2, b * a.tdiv b, -1) ∧ binaryF 3 2 (b * a.tdiv b) 2 (a.tmod b) = (2, a, -1) ∧
    b ≠ 0 ∧ (a.tmod b).natAbs < b.natAbs := by
  have h0 : b ≠ 0 := by
    rintro rfl
    rw [bin_whole _ _ _ ha hb (by decide)] at he
    simp [wholesF] at he
  rw [bin_whole _ _ _ ha hb (by decide)] at he
  have ha' := ha
  have hb' := hb
  rw [right2, decide_eq_true_eq] at ha' hb'
  have hd := tdiv_abs a b
  have hm := tmod_abs a b
  have hl : a.natAbs % b.natAbs < b.natAbs := Nat.mod_lt _ (by omega)
  have hl' : a.natAbs % b.natAbs ≤ a.natAbs := Nat.mod_le _ _
  have hs := tmod_sign a b
  have hsum := Int.mul_tdiv_add_tmod a b
  simp only [wholesF, h0, if_true, if_false, reduceCtorEq, show ¬ (6 : Int) = 3 from by decide, show ¬ (6 : Int) = 4 from by decide, show ¬ (6 : Int) = 5 from by decide, true_or] at he
  rw [wrap_id _ (by omega) (by omega)] at he
  obtain ⟨hq, hw⟩ := whole_thr _ he
  have hr : rightF 2 (a.tmod b) = true := by rw [right2, decide_eq_true_eq]; omega
  have hp : -2147483648 ≤ b * a.tdiv b ∧ b * a.tdiv b ≤ 2147483647 := by
    rcases Int.le_total 0 a with h | h
    · have := hs.1 h; omega
    · have := hs.2 h; omega
  have hp' : rightF 2 (b * a.tdiv b) = true := by rw [right2, decide_eq_true_eq]; exact hp
  refine ⟨?_, ?_, ?_, ?_, h0, by omega⟩
  · rw [bin_whole _ _ _ ha hb (by decide)]
    simp only [wholesF, h0, if_true, if_false, reduceCtorEq, show ¬ (6 : Int) = 3 from by decide, show ¬ (6 : Int) = 4 from by decide, show ¬ (6 : Int) = 5 from by decide, true_or]
    rw [wrap_id _ (by omega) (by omega)]; exact hw
  · rw [bin_whole _ _ _ ha hb (by decide)]
    simp only [wholesF, h0, if_true, if_false, reduceCtorEq, show ¬ (7 : Int) = 3 from by decide, show ¬ (7 : Int) = 4 from by decide, show ¬ (7 : Int) = 5 from by decide, show ¬ (7 : Int) = 6 from by decide, or_true]
    exact whole_in _ hr
  · rw [bin_whole _ _ _ hq hb (by decide)]
    simp only [wholesF, if_true, if_false, show ¬ (5 : Int) = 3 from by decide, show ¬ (5 : Int) = 4 from by decide]
    rw [Int.mul_comm, wrap_id _ (by omega) (by omega)]; exact whole_in _ hp'
  · rw [bin_whole _ _ _ hp' hr (by decide)]
    simp only [wholesF, if_true]
    rw [hsum, wrap_id _ (by omega) (by omega)]; exact whole_in _ ha

theorem bin_div_none (a b : Int) (h : ¬ (binaryF 6 2 a 2 b).2.2 = -1) : (binaryF 7 2 a 2 b).2.2 = (binaryF 6 2 a 2 b).2.2 ∨ (binaryF 6 2 a 2 b).2.2 = 1 := by
  cases ha : rightF 2 a with
  | false => left; rw [bin_l _ _ _ _ ha (by decide), bin_l _ _ _ _ ha (by decide)]
  | true =>
    cases hb : rightF 2 b with
    | false => left; rw [bin_r _ _ _ _ hb (by decide), bin_r _ _ _ _ hb (by decide)]
    | true =>
      rw [bin_whole _ _ _ ha hb (by decide), bin_whole _ _ _ ha hb (by decide)] at *
      by_cases h0 : b = 0
      · left; subst h0; simp [wholesF]
      · right
        simp only [wholesF, h0, if_true, if_false, reduceCtorEq, show ¬ (6 : Int) = 3 from by decide, show ¬ (6 : Int) = 4 from by decide, show ¬ (6 : Int) = 5 from by decide, true_or] at h ⊢
        rcases whole_ok (IntKind.i64.wrap (a.tdiv b)) with ⟨h1, h2⟩ | h1
        · rw [h1] at h; simp at h
        · rw [h1]

end Go.Proofs.Ytjbhpoolghfhiaa
