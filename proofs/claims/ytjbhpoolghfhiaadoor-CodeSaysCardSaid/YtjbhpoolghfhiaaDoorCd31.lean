/- The document's orderRight tells what the program's order tells. No condition: plain lemmas, a contract. -/
import Derived.Test.YtjbhpoolghfhiaaDoorCd30
namespace Go.Proofs.YtjbhpoolghfhiaaDoor
set_option linter.unusedVariables false
set_option linter.unusedSimpArgs false
set_option maxHeartbeats 10000000
open Go
set_option maxRecDepth 10000



def dB (op : Int) (j : Nat) : Int := ((dformF op).data.toList.getD j 0).toNat
/-- What the document's letter tells of a number. -/
def dnam (p : ProgT) (f : FnT) (d x : Int) : Bool := decide (0 ≤ x ∧ x ≤ mostF p f d - 1) && !(decide (d = 102) && decide (x = 0))
def pairB (c d : Int) : Bool := decide (c = d ∧ (c = 114 ∨ c = 107 ∨ c = 116 ∨ c = 117 ∨ c = 102 ∨ c = 108 ∨ c = 110)) || decide (c = 45 ∧ d = 46) || decide (c = 97 ∧ d = 112)
theorem pair_names (p : ProgT) (f : FnT) {c d x : Int} (h : pairB c d = true) : namesF p f c x = dnam p f d x := by
  simp only [pairB, Bool.or_eq_true, decide_eq_true_eq] at h
  rw [Bool.eq_iff_iff]
  unfold dnam
  rcases h with (⟨rfl, rfl | rfl | rfl | rfl | rfl | rfl | rfl⟩ | ⟨rfl, rfl⟩) | ⟨rfl, rfl⟩
  all_goals simp [namesF, wiF_iff, mostF, wiF]
  all_goals omega
theorem pair_forms {op : Int} (h : ¬ (op < 1 ∨ 39 ≤ op)) : pairB (fB op 0) (dB op 0) = true ∧ pairB (fB op 2) (dB op 2) = true ∧ (op ≠ 27 → pairB (fB op 1) (dB op 1) = true) := by
  rcases ors h with rfl | rfl | rfl | rfl | rfl | rfl | rfl | rfl | rfl | rfl | rfl | rfl | rfl | rfl | rfl | rfl | rfl | rfl | rfl | rfl | rfl | rfl | rfl | rfl | rfl | rfl | rfl | rfl | rfl | rfl | rfl | rfl | rfl | rfl | rfl | rfl | rfl | rfl <;> exact ⟨rfl, rfl, fun h => by first | rfl | exact absurd rfl h⟩
theorem dcau_eq {f : FnT} (hr : 0 ≤ f.regs) (c : Int) : dcau f c = cauF f c := by
  rw [Bool.eq_iff_iff]
  unfold dcau cauF wiF
  simp
  omega

/-- What the document tells of an order. -/
def dorderF (p : ProgT) (f : FnT) (n : Int) (i : InsT) : Bool :=
  if (decide (dformF i.op = ⟨#[]⟩) || !decide (0 ≤ i.line ∧ i.line ≤ 2000)) = true then false else
  if (dnam p f (dB i.op 0) i.a && dnam p f (dB i.op 1) i.b && dnam p f (dB i.op 2) i.c) = false then false else
  if i.op = 14 then decide (i.a ≤ n) else if i.op = 19 then decide (i.b + i.c ≤ f.regs) else if i.op = 27 then decide (i.b + i.c < f.regs) else if i.op = 32 then f.gen else
  if i.op = 26 then !((p.fns.getD i.b.toNat fn0).caught.any (dcau f)) else true

theorem dform_none {op : Int} : decide (dformF op = ⟨#[]⟩) = decide (op < 1 ∨ 39 ≤ op) := by
  by_cases h : op < 1 ∨ 39 ≤ op
  · rw [decide_eq_true h]; unfold dformF; rw [if_pos h]; rfl
  · rw [decide_eq_false h, decide_eq_false_iff_not]
    intro e
    have := dformF_size h
    rw [e] at this; cases this

theorem dorder_eq (p : ProgT) (f : FnT) (n : Int) (i : InsT) (hr : 0 ≤ f.regs) : dorderF p f n i = orderF p f n i := by
  unfold dorderF orderF
  rw [dform_none]
  by_cases h : i.op < 1 ∨ 39 ≤ i.op
  · rw [decide_eq_true h, if_pos h]; rfl
  · rw [decide_eq_false h, if_neg h]
    obtain ⟨h0, h2, h1⟩ := pair_forms h
    have e0 := pair_names p f (x := i.a) h0
    have e2 := pair_names p f (x := i.c) h2
    have hc : (p.fns.getD i.b.toNat fn0).caught.any (dcau f) = (p.fns.getD i.b.toNat fn0).caught.any (cauF f) := by
      congr 1; exact funext (dcau_eq hr)
    have hl : wiF i.line 0 2000 = decide (0 ≤ i.line ∧ i.line ≤ 2000) := rfl
    unfold orderN caughtF
    rw [hc, e0, e2, hl]
    by_cases h27 : i.op = 27
    · have q1 : fB i.op 1 = 99 := by rw [h27]; rfl
      have q2 : dB i.op 1 = 114 := by rw [h27]; rfl
      have q3 : dB i.op 2 = 110 := by rw [h27]; rfl
      have w1 : namesF p f 99 i.b = decide (0 ≤ i.b ∧ i.b ≤ f.regs) := by simp [namesF, wiF]
      have w2 : dnam p f 114 i.b = decide (0 ≤ i.b ∧ i.b ≤ f.regs - 1) := by simp [dnam, mostF]
      have w3 : dnam p f 110 i.c = decide (0 ≤ i.c ∧ i.c ≤ f.regs) := by simp [dnam, mostF]
      rw [q1, q2, q3, h27, w1, w2, w3]
      generalize dnam p f (dB 27 0) i.a = A
      generalize decide (0 ≤ i.line ∧ i.line ≤ 2000) = L
      cases L <;> cases A
      · rfl
      · rfl
      · simp
      · simp only [Bool.not_true, Bool.or_false, Bool.true_and, Bool.false_eq_true, if_false]
        rw [Bool.eq_iff_iff]
        by_cases g1 : 0 ≤ i.b ∧ i.b ≤ f.regs - 1
        · by_cases g2 : 0 ≤ i.c ∧ i.c ≤ f.regs
          · have g3 : 0 ≤ i.b ∧ i.b ≤ f.regs := by omega
            simp [g1, g2, g3, wiF]
            omega
          · simp [g2]
        · by_cases g3 : 0 ≤ i.b ∧ i.b ≤ f.regs
          · by_cases g2 : 0 ≤ i.c ∧ i.c ≤ f.regs
            · simp [g1, g2, g3, wiF]
              omega
            · simp [g2]
          · simp [g1, g3]
    · rw [← pair_names p f (x := i.b) (h1 h27)]
      generalize dnam p f (dB i.op 0) i.a = A
      generalize dnam p f (dB i.op 2) i.c = B
      generalize namesF p f (fB i.op 1) i.b = D
      generalize decide (0 ≤ i.line ∧ i.line ≤ 2000) = L
      cases L <;> cases A <;> cases B <;> cases D <;> simp [h27]
      by_cases h26 : i.op = 26
      · simp [h26]
      · simp [h26]

end Go.Proofs.YtjbhpoolghfhiaaDoor
