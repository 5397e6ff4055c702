/- Arguments that are programs. No condition: plain lemmas. -/
import Derived.Test.YtjbhpoolghfhiaaDoorGD
import Derived.Test.YtjbhpoolghfhiaaDoorCd15
namespace Go.Proofs.YtjbhpoolghfhiaaDoor
set_option linter.unusedVariables false
set_option linter.unusedSimpArgs false
set_option maxHeartbeats 10000000
open Go Go.ChangeShapes Go.WideShapes Go.ChangeAt Go.RowKit

theorem Ro_bool {P : Program} {t : Nat} {row : List RV} (h : Ro P t row) (ht : P.underlying t = some .bool) : ∃ b, row = [.v (.bool b)] := by
  cases h with
  | int _ k' n h1 h2 => rw [ht] at h1; cases h1
  | bool _ b h1 => exact ⟨b, rfl⟩
  | string _ _ h1 => rw [ht] at h1; cases h1
  | struct _ _ _ h1 => rw [ht] at h1; cases h1
  | slice _ _ _ h1 => rw [ht] at h1; cases h1
theorem Ro_str {P : Program} {t : Nat} {row : List RV} (h : Ro P t row) (ht : P.underlying t = some .string) : ∃ s : ByteArray, row = [.v (.string s)] ∧ s.size ≤ maxLen := by
  cases h with
  | int _ k' n h1 h2 => rw [ht] at h1; cases h1
  | bool _ b h1 => rw [ht] at h1; cases h1
  | string _ s h1 h2 => exact ⟨s, rfl, h2⟩
  | struct _ _ _ h1 => rw [ht] at h1; cases h1
  | slice _ _ _ h1 => rw [ht] at h1; cases h1

theorem c_int : Tryd.prog.cellsOf 3 = 1 := by kernel_rfl
theorem c_str : Tryd.prog.cellsOf 9 = 1 := by kernel_rfl
theorem c_val : Tryd.prog.cellsOf 23 = 2 := by kernel_rfl
theorem c_ins : Tryd.prog.cellsOf 43 = 5 := by kernel_rfl
theorem c_fn : Tryd.prog.cellsOf 47 = 5 := by kernel_rfl
theorem maxLen_le : maxLen ≤ 9223372036854775807 := by decide

theorem Ro_ints {row : List RV} (h : Ro Tryd.prog 44 row) : ∃ l : List Int, row = [.rs 1 (l.map intR)] ∧ l.length ≤ 9223372036854775807 := by
  obtain ⟨rows, rfl, hm, h2⟩ := Ro_slice h Tryd.underlying44
  obtain ⟨l, rfl, _⟩ := rows_all (f := intR) (p := fun _ => True) fun r hr => by
    obtain ⟨n, h1, hn⟩ := Ro_int (h2 r hr) Tryd.underlying3
    exact ⟨n, h1, trivial⟩
  refine ⟨l, by rw [c_int], ?_⟩
  have := maxLen_le
  simp at hm; omega
theorem Ro_ins {row : List RV} (h : Ro Tryd.prog 43 row) : ∃ i : InsT, row = insR i := by
  obtain ⟨rows, rfl, h1, h2⟩ := Ro_struct h Tryd.underlying43
  match rows, h1 with
  | [a, b, c, d, e], _ =>
    obtain ⟨x1, rfl, _⟩ := Ro_int (h2 0 _ a rfl rfl) Tryd.underlying3
    obtain ⟨x2, rfl, _⟩ := Ro_int (h2 1 _ b rfl rfl) Tryd.underlying3
    obtain ⟨x3, rfl, _⟩ := Ro_int (h2 2 _ c rfl rfl) Tryd.underlying3
    obtain ⟨x4, rfl, _⟩ := Ro_int (h2 3 _ d rfl rfl) Tryd.underlying3
    obtain ⟨x5, rfl, _⟩ := Ro_int (h2 4 _ e rfl rfl) Tryd.underlying3
    exact ⟨⟨x1, x2, x3, x4, x5⟩, rfl⟩
theorem Ro_fn {row : List RV} (h : Ro Tryd.prog 47 row) : ∃ f : FnT, row = fnR f ∧ f.code.length ≤ 9223372036854775807 ∧ f.caught.length ≤ 9223372036854775807 := by
  obtain ⟨rows, rfl, h1, h2⟩ := Ro_struct h Tryd.underlying47
  match rows, h1 with
  | [a, b, c, d, e], _ =>
    obtain ⟨x1, rfl, _⟩ := Ro_int (h2 0 _ a rfl rfl) Tryd.underlying3
    obtain ⟨x2, rfl, _⟩ := Ro_int (h2 1 _ b rfl rfl) Tryd.underlying3
    obtain ⟨x3, rfl⟩ := Ro_bool (h2 2 _ c rfl rfl) Tryd.underlying4
    obtain ⟨x4, rfl, h4⟩ := Ro_ints (h2 3 _ d rfl rfl)
    obtain ⟨rs, rfl, hm, h5⟩ := Ro_slice (h2 4 _ e rfl rfl) Tryd.underlying45
    obtain ⟨x5, rfl, _⟩ := rows_all (f := insR) (p := fun _ => True) fun r hr => by
      obtain ⟨i, hi⟩ := Ro_ins (h5 r hr)
      exact ⟨i, hi, trivial⟩
    refine ⟨⟨x1, x2, x3, x4, x5⟩, by rw [c_ins]; rfl, ?_, h4⟩
    have := maxLen_le
    simp at hm; show x5.length ≤ _; omega
theorem Ro_prog {row : List RV} (h : Ro Tryd.prog 35 row) : ∃ p : ProgT, row = progR p ∧ Pwf p := by
  obtain ⟨rows, rfl, h1, h2⟩ := Ro_struct h Tryd.underlying35
  match rows, h1 with
  | [a, b, c], _ =>
    obtain ⟨r1, rfl, m1, h3⟩ := Ro_slice (h2 0 _ a rfl rfl) Tryd.underlying32
    obtain ⟨r2, rfl, m2, h4⟩ := Ro_slice (h2 1 _ b rfl rfl) Tryd.underlying33
    obtain ⟨r3, rfl, m3, h5⟩ := Ro_slice (h2 2 _ c rfl rfl) Tryd.underlying29
    obtain ⟨x1, rfl, q1⟩ := rows_all (f := fnR) (p := fun f => f.code.length ≤ 9223372036854775807 ∧ f.caught.length ≤ 9223372036854775807) fun r hr => Ro_fn (h3 r hr)
    obtain ⟨x2, rfl, _⟩ := rows_all (f := valR) (p := fun _ => True) fun r hr => by
      obtain ⟨k, n, hv⟩ := Ro_val (h4 r hr)
      exact ⟨(k, n), hv, trivial⟩
    obtain ⟨x3, rfl, _⟩ := rows_all (f := strR) (p := fun _ => True) fun r hr => by
      obtain ⟨s, hs, _⟩ := Ro_str (h5 r hr) Tryd.underlying9
      exact ⟨s, hs, trivial⟩
    have := maxLen_le
    simp at m1 m2 m3
    refine ⟨⟨x1, x2, x3⟩, by rw [c_fn, c_val, c_str]; rfl, ⟨⟨?_, ?_, ?_⟩, q1⟩⟩
    · show x1.length ≤ _; omega
    · show x2.length ≤ _; omega
    · show x3.length ≤ _; omega

end Go.Proofs.YtjbhpoolghfhiaaDoor
