/- The plain law of the machine's order: less, more and same shut each other out. No condition: plain arithmetic. -/
import Derived.Test.YtjbhpoolghfhiaaOps6
namespace Go.Proofs.Ytjbhpoolghfhiaa
set_option linter.unusedVariables false
set_option linter.unusedSimpArgs false
set_option maxHeartbeats 10000000
open Go

theorem datum_swap : ∀ x y : Ieee.Datum, y.order x = (x.order y).map Ordering.swap
  | .nan .., y => by cases y <;> rfl
  | .infinity s, .nan .. => rfl
  | .infinity s, .infinity t => congrArg some Std.OrientedCmp.eq_swap
  | .infinity s, .number t n j => by cases s <;> rfl
  | .number s m i, .nan .. => rfl
  | .number s m i, .infinity t => by cases t <;> rfl
  | .number s m i, .number t n j => by
    show some (compare (Ieee.signed t n (j - min j i).toNat) (Ieee.signed s m (i - min j i).toNat)) = some (compare (Ieee.signed s m (i - min i j).toNat) (Ieee.signed t n (j - min i j).toNat)).swap
    rw [Int.min_comm j i]
    exact congrArg some Std.OrientedCmp.eq_swap

theorem fOrd_swap (x y : Nat) : fOrd y x = (fOrd x y).map Ordering.swap := datum_swap _ _

theorem truth_bool (b : Bool) : truthF 1 (if b = true then 1 else 0) = b := by cases b <;> rfl

/-- Two that are held against each other. -/
theorem order_law (k n l m : Int) :
    (¬ (binaryF 9 k n l m).2.2 = -1 → (binaryF 9 l m k n).2.2 = (binaryF 9 k n l m).2.2 ∧ (binaryF 10 k n l m).2.2 = (binaryF 9 k n l m).2.2) ∧
    ((binaryF 9 k n l m).2.2 = -1 → ∃ x y z : Bool, binaryF 9 k n l m = boolF x ∧ binaryF 9 l m k n = boolF y ∧ binaryF 8 k n l m = boolF z ∧ binaryF 10 k n l m = boolF (x || z) ∧
      !(x && y) ∧ !(x && z) ∧ !(y && z) ∧ (k = 2 → (x || y || z) = true)) := by
  by_cases h3 : takK k n = 3 ∧ takK l m = 3
  · have hk : k ≠ 2 := by rintro rfl; have := h3.1; unfold takK at this; split at this <;> simp at this
    have e1 : ∀ op, binaryF op k n l m = floatsF op (fl (takN k n)) (fl (takN l m)) := fun op => by simp [binaryF, h3]
    have e2 : ∀ op, binaryF op l m k n = floatsF op (fl (takN l m)) (fl (takN k n)) := fun op => by simp [binaryF, h3]
    simp only [e1, e2]
    generalize fl (takN k n) = x
    generalize fl (takN l m) = y
    have hs := fOrd_swap x y
    refine ⟨fun h => by simp [floatsF, ordFF, boolF] at h, fun _ => ⟨fOrd x y == some .lt, fOrd y x == some .lt, fOrd x y == some .eq, by simp [floatsF, ordFF], by simp [floatsF, ordFF], by simp [floatsF], by simp [floatsF, ordFF], ?_⟩⟩
    rw [hs]
    cases fOrd x y with
    | none => simp [hk]
    | some o => cases o <;> simp [hk, Ordering.swap]
  · by_cases h2 : takK k n = 2 ∧ takK l m = 2
    · have h3' : ¬ (takK l m = 3 ∧ takK k n = 3) := fun h => h3 ⟨h.2, h.1⟩
      have e1 : ∀ op, binaryF op k n l m = if op = 8 then boolF (decide (takN k n = takN l m)) else wholesF op (takN k n) (takN l m) := fun op => by simp [binaryF, h2]
      have e2 : binaryF 9 l m k n = wholesF 9 (takN l m) (takN k n) := by simp [binaryF, h2]
      simp only [e1, e2]
      generalize takN k n = x
      generalize takN l m = y
      refine ⟨fun h => by simp [wholesF, ordIF, boolF] at h, fun _ => ⟨decide (x < y), decide (y < x), decide (x = y), by simp [wholesF, ordIF], by simp [wholesF, ordIF], by simp, ?_, ?_⟩⟩
      · simp only [show ¬ (10 : Int) = 8 from by decide, if_false, wholesF, ordIF, show ¬ (10 : Int) = 3 from by decide, show ¬ (10 : Int) = 4 from by decide, show ¬ (10 : Int) = 5 from by decide, show ¬ ((10 : Int) = 6 ∨ (10 : Int) = 7) from by decide, show ¬ (10 : Int) = 9 from by decide, if_true]
        congr 1
        by_cases h : x ≤ y <;> simp [h] <;> omega
      · rcases Int.lt_trichotomy x y with h | h | h
        · simp [h, Int.not_lt.2 (Int.le_of_lt h), Int.ne_of_lt h]
        · subst h; simp
        · simp [h, Int.not_lt.2 (Int.le_of_lt h), Int.ne_of_gt h]
    · have h3' : ¬ (takK l m = 3 ∧ takK k n = 3) := fun h => h3 ⟨h.2, h.1⟩
      have h2' : ¬ (takK l m = 2 ∧ takK k n = 2) := fun h => h2 ⟨h.2, h.1⟩
      have e1 : binaryF 9 k n l m = (0, 0, 0) := by simp only [binaryF, if_neg h3, if_neg h2, show ¬ (9 : Int) = 8 from by decide, if_false]
      have e2 : binaryF 9 l m k n = (0, 0, 0) := by simp only [binaryF, if_neg h3', if_neg h2', show ¬ (9 : Int) = 8 from by decide, if_false]
      have e3 : binaryF 10 k n l m = (0, 0, 0) := by simp only [binaryF, if_neg h3, if_neg h2, show ¬ (10 : Int) = 8 from by decide, if_false]
      rw [e1, e2, e3]
      exact ⟨fun _ => ⟨rfl, rfl⟩, fun h => by simp at h⟩

end Go.Proofs.Ytjbhpoolghfhiaa
