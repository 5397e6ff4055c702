/- Loops, round by round; joins. No condition: plain lemmas. -/
import Derived.Test.YtjbhpoolghfhiaaDoorAv21
import Derived.LoopN
namespace Go.Proofs.YtjbhpoolghfhiaaDoor
set_option linter.unusedVariables false
set_option linter.unusedSimpArgs false
set_option maxHeartbeats 10000000
open Go

/-- A loop that ends within so many rounds. -/
def LoopN (C : Ctx) (c : Code) (K : Exit → St → Prop) : Nat → St → Prop
  | 0, _ => False
  | n + 1, s => lwp C c s (thenK (LoopN C c K n) K)

theorem LoopN_ok {C : Ctx} {c : Code} {K : Exit → St → Prop} {n : Nat} {st : St} (h : LoopN C c K n st) : lwp C (.loop c) st K := by
  intro e a w hs
  refine wp_loop_rounds n ?_
  induction n generalizing st a w with
  | zero => exact h.elim
  | succ n ih =>
    rw [rounds_succ]
    refine wp_mono ((h : lwp C c st _) e a w hs) ?_
    rintro x a' w' ⟨st', h1, h2⟩
    cases x with
    | normal => exact ih (st := st') h2 a' w' h1
    | _ => exact ⟨st', h1, h2⟩

section
variable {C : Ctx} {T : List (Ct C)} {r r' r'' : List It} {st st' : St} {K : Exit → St → Prop} {A : St → Prop}

theorem Rn_then {c : Code} (h : Rn C T [.c c] st (thenK A (ck C r K))) : lwp C c st (thenK A (ck C r K)) := by
  unfold Rn at h
  refine lwp_mono (h : lwp C c st (ck C [] _)) fun x s hx => ?_
  cases x <;> exact hx

theorem Rn_unroll {c : Code} (n : Nat) (h : Rn C T [.c c] st (thenK (LoopN C c (ck C r K) n) (ck C r K))) : Rn C T (.c (.loop c) :: r) st K := by
  have := LoopN_ok (n := n + 1) (Rn_then h)
  unfold Rn
  exact this
theorem LoopN_step {c : Code} {n : Nat} (h : Rn C T [.c c] st (thenK (LoopN C c (ck C r K) n) (ck C r K))) : LoopN C c (ck C r K) (n + 1) st := Rn_then h

theorem Rn_nil_then (h : A st) : Rn C T [] st (thenK A (ck C r K)) := by unfold Rn; exact h
theorem Rn_out_ck {id : Nat} (hr : toB id r' = none) (hr2 : toB id r = some r'') (h : Rn C T r'' st K) : Rn C T (.c (.exit id) :: r') st (thenK A (ck C r K)) := by
  refine Rn_out hr ?_
  show ck C r K (.exit id) st
  exact ck_exit hr2 h
theorem Rn_ret_ck (h : K .ret st) : Rn C T (.c .ret :: r') st (thenK A (ck C r K)) := by
  refine Rn_ret ?_
  show ck C r K .ret st
  exact ck_ret h
end

end Go.Proofs.YtjbhpoolghfhiaaDoor
