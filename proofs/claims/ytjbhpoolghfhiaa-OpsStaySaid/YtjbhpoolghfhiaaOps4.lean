/- The plain laws of the reckoning: what is told is a value. No condition: plain arithmetic. -/
import Derived.Test.YtjbhpoolghfhiaaOps2
import Derived.Laws.FloatBits
namespace Go.Proofs.Ytjbhpoolghfhiaa
set_option linter.unusedVariables false
set_option linter.unusedSimpArgs false
open Go

/-- A value is right; what throws tells nothing. -/
def Good (x : Int × Int × Int) : Prop := rightF x.1 x.2.1 = true ∧ (x.2.2 = -1 ∨ x.1 = 0 ∧ x.2.1 = 0)

theorem good_bool (b : Bool) : Good (boolF b) := by
  cases b <;> exact ⟨rfl, .inl rfl⟩
theorem good_none (t : Int) : Good (0, 0, t) := ⟨rfl, .inr ⟨rfl, rfl⟩⟩
theorem good_whole (n : Int) : Good (wholeF n) := by
  unfold wholeF
  split
  · rename_i h
    exact ⟨by simp [rightF, h], .inl rfl⟩
  · exact good_none _

theorem fl_lt (n : Int) : fl n < 2 ^ 64 := by
  simp only [fl, IntKind.wrap, IntKind.bits, IntKind.signed, Bool.false_and, Bool.false_eq_true, if_false]
  omega

theorem fl_wrap (b : Nat) (h : b < 2 ^ 64) : fl (IntKind.i64.wrap b) = b := by
  simp only [fl, IntKind.wrap, IntKind.bits, IntKind.signed, Bool.false_and, Bool.false_eq_true, if_false, Bool.true_and, decide_eq_true_eq]
  split <;> omega

theorem good_float (b : Nat) (h : b < 2 ^ 64) : Good (3, ofN b, -1) := by
  refine ⟨?_, .inl rfl⟩
  unfold ofN
  split
  · rename_i hn
    simp [rightF, fl_wrap b h, hn]
  · simp [rightF]

theorem good_op (op : BinOp) (a b : Nat) : Good (3, ofV (floatAV op a b), -1) := by
  unfold floatAV
  split
  · rename_i r hr
    refine good_float r ?_
    unfold floatRes at hr
    split at hr
    · exact FloatKind.f64.format.add_lt hr
    · exact FloatKind.f64.format.sub_lt hr
    · exact FloatKind.f64.format.mul_lt hr
    · exact FloatKind.f64.format.div_lt hr
    · cases hr
  · exact ⟨by simp [rightF, ofV], .inl rfl⟩

theorem good_ordI (op a b : Int) : Good (ordIF op a b) := by
  unfold ordIF
  split
  · exact good_bool _
  · split
    · exact good_bool _
    · exact good_none _
theorem good_ordF (op : Int) (a b : Nat) : Good (ordFF op a b) := by
  unfold ordFF
  split
  · exact good_bool _
  · split
    · exact good_bool _
    · exact good_none _
theorem good_wholes (op a b : Int) : Good (wholesF op a b) := by
  unfold wholesF
  repeat' (first | exact good_whole _ | exact good_none _ | exact good_ordI _ _ _ | split)
theorem good_floats (op : Int) (a b : Nat) : Good (floatsF op a b) := by
  unfold floatsF
  repeat' (first | exact good_op _ _ _ | exact good_bool _ | exact good_ordF _ _ _ | split)

theorem neg_lt (b : Nat) (h : b < 2 ^ 64) : Op.negFloat .f64 b < 2 ^ 64 := Nat.xor_lt_two_pow h (by decide)

theorem good_unary (op k n : Int) : Good (unaryF op k n) := by
  unfold unaryF
  repeat' (first | exact good_bool _ | exact good_whole _ | exact good_none _ | exact good_float _ (neg_lt _ (fl_lt _)) | split)
theorem good_binary (op k n l m : Int) : Good (binaryF op k n l m) := by
  unfold binaryF
  repeat' (first | exact good_floats _ _ _ | exact good_bool _ | exact good_wholes _ _ _ | exact good_none _ | split)

end Go.Proofs.Ytjbhpoolghfhiaa
