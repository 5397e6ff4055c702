/- The plain laws of sums and products. No condition: plain arithmetic. -/
import Derived.Test.YtjbhpoolghfhiaaOps6
namespace Go.Proofs.Ytjbhpoolghfhiaa
set_option linter.unusedVariables false
set_option linter.unusedSimpArgs false
set_option maxHeartbeats 10000000
open Go

theorem mul_in (a b : Int) (ha : rightF 2 a = true) (hb : rightF 2 b = true) : -9223372036854775808 ≤ a * b ∧ a * b ≤ 9223372036854775807 := by
  rw [right2, decide_eq_true_eq] at ha hb
  have h : (a * b).natAbs ≤ 2147483648 * 2147483648 := by
    rw [Int.natAbs_mul]; exact Nat.mul_le_mul (by omega) (by omega)
  omega

theorem bin_add (a b : Int) (ha : rightF 2 a = true) (hb : rightF 2 b = true) : binaryF 3 2 a 2 b = wholeF (a + b) := by
  rw [bin_whole _ _ _ ha hb (by decide)]
  rw [right2, decide_eq_true_eq] at ha hb
  simp only [wholesF, if_true]
  rw [wrap_id _ (by omega) (by omega)]
theorem bin_mul (a b : Int) (ha : rightF 2 a = true) (hb : rightF 2 b = true) : binaryF 5 2 a 2 b = wholeF (a * b) := by
  rw [bin_whole _ _ _ ha hb (by decide)]
  have := mul_in a b ha hb
  simp only [wholesF, if_true, if_false, show ¬ (5 : Int) = 3 from by decide, show ¬ (5 : Int) = 4 from by decide]
  rw [wrap_id _ this.1 this.2]

theorem ring_add (a b c : Int) (ha : rightF 2 a = true) (hb : rightF 2 b = true) (hc : rightF 2 c = true) : binaryF 3 2 b 2 a = binaryF 3 2 a 2 b ∧
    ((binaryF 3 2 a 2 b).2.2 = -1 → (binaryF 3 2 b 2 c).2.2 = -1 → binaryF 3 (binaryF 3 2 a 2 b).1 (binaryF 3 2 a 2 b).2.1 2 c = binaryF 3 2 a (binaryF 3 2 b 2 c).1 (binaryF 3 2 b 2 c).2.1) := by
  rw [bin_add _ _ ha hb, bin_add _ _ hb ha, bin_add _ _ hb hc, Int.add_comm b a]
  refine ⟨rfl, fun h1 h2 => ?_⟩
  obtain ⟨r1, e1⟩ := whole_thr _ h1
  obtain ⟨r2, e2⟩ := whole_thr _ h2
  rw [e1, e2]
  show binaryF 3 2 (a + b) 2 c = binaryF 3 2 a 2 (b + c)
  rw [bin_add _ _ r1 hc, bin_add _ _ ha r2, Int.add_assoc]

theorem ring_mul (a b c : Int) (ha : rightF 2 a = true) (hb : rightF 2 b = true) (hc : rightF 2 c = true) : binaryF 5 2 b 2 a = binaryF 5 2 a 2 b ∧
    ((binaryF 5 2 a 2 b).2.2 = -1 → (binaryF 5 2 b 2 c).2.2 = -1 → binaryF 5 (binaryF 5 2 a 2 b).1 (binaryF 5 2 a 2 b).2.1 2 c = binaryF 5 2 a (binaryF 5 2 b 2 c).1 (binaryF 5 2 b 2 c).2.1) := by
  rw [bin_mul _ _ ha hb, bin_mul _ _ hb ha, bin_mul _ _ hb hc, Int.mul_comm b a]
  refine ⟨rfl, fun h1 h2 => ?_⟩
  obtain ⟨r1, e1⟩ := whole_thr _ h1
  obtain ⟨r2, e2⟩ := whole_thr _ h2
  rw [e1, e2]
  show binaryF 5 2 (a * b) 2 c = binaryF 5 2 a 2 (b * c)
  rw [bin_mul _ _ r1 hc, bin_mul _ _ ha r2, Int.mul_assoc]

theorem ring_both (a b c : Int) (ha : rightF 2 a = true) (hb : rightF 2 b = true) (hc : rightF 2 c = true) (h1 : (binaryF 3 2 b 2 c).2.2 = -1) (h2 : (binaryF 5 2 a 2 b).2.2 = -1) (h3 : (binaryF 5 2 a 2 c).2.2 = -1) :
    binaryF 5 2 a (binaryF 3 2 b 2 c).1 (binaryF 3 2 b 2 c).2.1 = binaryF 3 (binaryF 5 2 a 2 b).1 (binaryF 5 2 a 2 b).2.1 (binaryF 5 2 a 2 c).1 (binaryF 5 2 a 2 c).2.1 := by
  rw [bin_add _ _ hb hc] at h1 ⊢
  rw [bin_mul _ _ ha hb] at h2 ⊢
  rw [bin_mul _ _ ha hc] at h3 ⊢
  obtain ⟨r1, e1⟩ := whole_thr _ h1
  obtain ⟨r2, e2⟩ := whole_thr _ h2
  obtain ⟨r3, e3⟩ := whole_thr _ h3
  rw [e1, e2, e3]
  show binaryF 5 2 a 2 (b + c) = binaryF 3 2 (a * b) 2 (a * c)
  rw [bin_mul _ _ ha r1, bin_add _ _ r2 r3, Int.mul_add]

end Go.Proofs.Ytjbhpoolghfhiaa
