/- What every statement of this claim needs to be closed: the program's own facts, arguments told by their types. No condition: closed facts and plain lemmas. -/
import Derived.Test.YtjbhpoolghfhiaaDoorRows
import Derived.Test.YtjbhpoolghfhiaaDoorG2
namespace Go.Proofs.YtjbhpoolghfhiaaDoor
set_option linter.unusedVariables false
set_option linter.unusedSimpArgs false
set_option maxHeartbeats 10000000
open Go Go.ChangeShapes Go.WideShapes Go.ChangeAt Go.RowKit

theorem noKnob : ownKnob Tryd.prog.godebug = none := by kernel_rfl
theorem laidB : laidOutB Tryd.prog = true := by kernel_rfl

theorem Ro_int {P : Program} {t : Nat} {k : IntKind} {row : List RV} (h : Ro P t row) (ht : P.underlying t = some (.int k)) : ∃ n, row = [.v (.int k n)] ∧ (Lit.int k n).wf = true := by
  cases h with
  | int _ k' n h1 h2 => rw [ht] at h1; cases h1; exact ⟨n, rfl, h2⟩
  | bool _ _ h1 => rw [ht] at h1; cases h1
  | string _ _ h1 => rw [ht] at h1; cases h1
  | struct _ _ _ h1 => rw [ht] at h1; cases h1
  | slice _ _ _ h1 => rw [ht] at h1; cases h1

theorem Ro_struct {P : Program} {t : Nat} {fs : Array Field} {row : List RV} (h : Ro P t row) (ht : P.underlying t = some (.struct fs)) : ∃ rows : List (List RV), row = rows.flatten ∧ rows.length = fs.toList.length ∧ ∀ (i : Nat) (f : Field) (row : List RV), fs.toList[i]? = some f → rows[i]? = some row → Ro P f.type row := by
  cases h with
  | int _ k' n h1 h2 => rw [ht] at h1; cases h1
  | bool _ _ h1 => rw [ht] at h1; cases h1
  | string _ _ h1 => rw [ht] at h1; cases h1
  | struct _ _ rows h1 h2 h3 => rw [ht] at h1; cases h1; exact ⟨rows, rfl, h2, h3⟩
  | slice _ _ _ h1 => rw [ht] at h1; cases h1

theorem Ro_val {row : List RV} (h : Ro Tryd.prog 23 row) : ∃ k n, row = [.v (.int .i64 k), .v (.int .i64 n)] := by
  obtain ⟨rows, rfl, h1, h2⟩ := Ro_struct h Tryd.underlying23
  match rows, h1 with
  | [a, b], _ =>
    obtain ⟨k, rfl, _⟩ := Ro_int (h2 0 _ a rfl rfl) Tryd.underlying3
    obtain ⟨n, rfl, _⟩ := Ro_int (h2 1 _ b rfl rfl) Tryd.underlying3
    exact ⟨k, n, rfl⟩

theorem Ro_slice {P : Program} {t e : Nat} {row : List RV} (h : Ro P t row) (ht : P.underlying t = some (.slice e)) : ∃ rows : List (List RV), row = [.rs (P.cellsOf e) rows] ∧ rows.length ≤ maxLen ∧ ∀ r ∈ rows, Ro P e r := by
  cases h with
  | int _ k' n h1 h2 => rw [ht] at h1; cases h1
  | bool _ _ h1 => rw [ht] at h1; cases h1
  | string _ _ h1 => rw [ht] at h1; cases h1
  | struct _ _ _ h1 => rw [ht] at h1; cases h1
  | slice _ e' rows h1 h2 h3 => rw [ht] at h1; cases h1; exact ⟨rows, rfl, h2, h3⟩

theorem rows_all {α : Type} {f : α → List RV} {p : α → Prop} : ∀ {rows : List (List RV)}, (∀ r ∈ rows, ∃ x, r = f x ∧ p x) → ∃ l : List α, rows = l.map f ∧ ∀ x ∈ l, p x
  | [], _ => ⟨[], rfl, fun x hx => by simp at hx⟩
  | r :: rows, h => by
    obtain ⟨x, rfl, hx⟩ := h r (List.mem_cons_self ..)
    obtain ⟨l, rfl, hl⟩ := rows_all (rows := rows) fun r hr => h r (List.mem_cons_of_mem _ hr)
    exact ⟨x :: l, rfl, fun y hy => (List.mem_cons.1 hy).elim (fun h => h ▸ hx) (hl y)⟩

end Go.Proofs.YtjbhpoolghfhiaaDoor
