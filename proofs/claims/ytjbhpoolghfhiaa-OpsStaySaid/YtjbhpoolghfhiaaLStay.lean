/- OpsStay: for every operation and every two values, what Unary and Binary tell is a value, and what is thrown tells none. No condition. -/
import Derived.Test.YtjbhpoolghfhiaaRows
import Derived.Test.YtjbhpoolghfhiaaOps3
import Derived.Test.YtjbhpoolghfhiaaOps4
import Derived.Test.YtjbhpoolghfhiaaG2
namespace Go.Proofs.Ytjbhpoolghfhiaa
set_option linter.unusedVariables false
set_option linter.unusedSimpArgs false
open Go Go.ChangeShapes Go.WideShapes Go.ChangeAt Go.RowKit

theorem stay_true (op k n l m : Int) : stayF op k n l m = true := by
  have h1 := good_unary op k n
  have h2 := good_binary op k n l m
  obtain ⟨h1, h3⟩ := h1
  obtain ⟨h2, h4⟩ := h2
  simp [stayF, h1, h2, h3, h4]

theorem noKnob : ownKnob Try.prog.godebug = none := by kernel_rfl
theorem laidB : laidOutB Try.prog = true := by kernel_rfl

theorem Ro_int {P : Program} {t : Nat} {k : IntKind} {row : List RV} (h : Ro P t row) (ht : P.underlying t = some (.int k)) : ∃ n, row = [.v (.int k n)] ∧ (Lit.int k n).wf = true := by
  cases h with
  | int _ k' n h1 h2 => rw [ht] at h1; cases h1; exact ⟨n, rfl, h2⟩
  | bool _ _ h1 => rw [ht] at h1; cases h1
  | string _ _ h1 => rw [ht] at h1; cases h1
  | struct _ _ _ h1 => rw [ht] at h1; cases h1
  | slice _ _ _ h1 => rw [ht] at h1; cases h1

theorem Ro_struct {P : Program} {t : Nat} {fs : Array Field} {row : List RV} (h : Ro P t row) (ht : P.underlying t = some (.struct fs)) : ∃ rows : List (List RV), row = rows.flatten ∧ rows.length = fs.toList.length ∧ ∀ (i : Nat) (f : Field) (row : List RV), fs.toList[i]? = some f → rows[i]? = some row → Ro P f.type row := by
  cases h with
  | int _ k' n h1 h2 => rw [ht] at h1; cases h1
  | bool _ _ h1 => rw [ht] at h1; cases h1
  | string _ _ h1 => rw [ht] at h1; cases h1
  | struct _ _ rows h1 h2 h3 => rw [ht] at h1; cases h1; exact ⟨rows, rfl, h2, h3⟩
  | slice _ _ _ h1 => rw [ht] at h1; cases h1

theorem Ro_val {row : List RV} (h : Ro Try.prog 43 row) : ∃ k n, row = [.v (.int .i64 k), .v (.int .i64 n)] := by
  obtain ⟨rows, rfl, h1, h2⟩ := Ro_struct h Try.underlying43
  match rows, h1 with
  | [a, b], _ =>
    obtain ⟨k, rfl, _⟩ := Ro_int (h2 0 _ a rfl rfl) Try.underlying3
    obtain ⟨n, rfl, _⟩ := Ro_int (h2 1 _ b rfl rfl) Try.underlying3
    exact ⟨k, n, rfl⟩

set_option maxRecDepth 100000 in
theorem stay_lifted (os : Os) (started : os.Started) (H : Type) (enc : TypeId × Value → H) :
    ReturnsInHanded {} Try.checked os 10 .any (Rows.opsStaySpec.pre6 enc Try.prog Try.f10 Rows.opsStayRow.domain false) (Rows.opsStaySpec.post enc Try.prog Try.f10 false true false false) := by
  refine returnsInHanded_of_change (C := Try.checked) noKnob started (by kernel_rfl) Try.func10
    (ChangeSpec.witness6 (enc := enc) (C := Try.checked) false ⟨#[], #[.int .i64 0, .agg #[.int .i64 0, .int .i64 0], .agg #[.int .i64 0, .int .i64 0]], []⟩ 8 (by kernel_rfl) (by kernel_rfl) (by kernel_rfl) (by kernel_rfl)) ?_
  intro W base args ds gs before hval hW hcnd _
  obtain ⟨p, q, hA, hV, hpq, hfz, hnd⟩ := id hW
  obtain ⟨rows, h1, h2, h3, h4, h5⟩ := args_open (fun _ => 0) (fun _ => undef) hA (by kernel_rfl) (fun j t v ht hv => hval j t v (by simpa using ht) (by simpa using hv))
  rw [Try.params10] at h1 h2 h3 h4 h5
  match rows, h1 with
  | [ra, rb, rc], _ =>
    obtain ⟨op, rfl, _⟩ := Ro_int (h4 0 _ ra rfl rfl) Try.underlying3
    obtain ⟨k, n, rfl⟩ := Ro_val (h4 1 _ rb rfl rfl)
    obtain ⟨l, m, rfl⟩ := Ro_val (h4 2 _ rc rfl rfl)
    refine law_end (C := Cx) (avs := [Iv op, VV k n, VV l m]) laidB (by kernel_rfl) rfl (by kernel_rfl) Try.underlying4 ?_ hW ?_ trivial (Nat.zero_le _) ⟨by simpa using h2, fun j x y hx hy => ?_⟩ rfl ?_
    · intro ds hds
      have : ds.length = 3 := hds
      match ds, this with
      | [a, b, c], _ => rfl
    · exact h3
    · match j with
      | 0 => simp at hx; subst hx; exact h5 0 _ _ y rfl rfl (by simpa using hy)
      | 1 => simp at hx; subst hx; exact h5 1 _ _ y rfl rfl (by simpa using hy)
      | 2 => simp at hx; subst hx; exact h5 2 _ _ y rfl rfl (by simpa using hy)
      | j + 3 => simp at hx
    · have := stay_c op k n l m
      rw [stay_true] at this
      exact this

theorem opsStay_holds : Rows.OpsStaySaid :=
  OpenClaim.holds_of_wide 10 Try.f10 rfl rfl rfl rfl rfl rfl rfl ⟨rfl, rfl, rfl, rfl, rfl⟩ rfl rfl rfl rfl rfl (by kernel_rfl) Try.func10 (by kernel_rfl)
    (of_decide_eq_true (by kernel_rfl)) (by unfold Func.isWrapper; first | (rw [if_pos (by decide +kernel)]; kernel_rfl) | (rw [if_neg (by decide +kernel)]; exact ⟨rfl, rfl⟩))
    (fun os started H enc _ => stay_lifted os started H enc)

end Go.Proofs.Ytjbhpoolghfhiaa
