/- The plain law of shapes that are asked again. No condition: plain lemmas. -/
import Derived.Test.YtjbhpoolghfhiaaSh10
namespace Go.Proofs.Ytjbhpoolghfhiaa
set_option linter.unusedVariables false
set_option linter.unusedSimpArgs false
set_option maxHeartbeats 10000000
open Go

/-- Name by name. -/
noncomputable def steps (l : List (Int × Int)) (a : Int) : List Int → Option (List (Int × Int) × Int)
  | [] => some (l, a)
  | x :: xs => if (withF l a x).2.2 = 0 then steps (withF l a x).1 (withF l a x).2.1 xs else none

theorem steps_app : ∀ (xs ys : List Int) (l : List (Int × Int)) (a : Int), steps l a (xs ++ ys) = (steps l a xs).bind fun p => steps p.1 p.2 ys
  | [], ys, l, a => rfl
  | x :: xs, ys, l, a => by
    show (if (withF l a x).2.2 = 0 then steps _ _ (xs ++ ys) else none) = (if (withF l a x).2.2 = 0 then steps _ _ xs else none).bind _
    split
    · exact steps_app xs ys _ _
    · rfl

theorem with_pre {l m : List (Int × Int)} {a x k : Int} (h : withF l a x = (m, k, 0)) : ∃ t, m = l ++ t := by
  obtain ⟨_, _, _, _, _, ⟨rfl, _⟩ | ⟨rfl, _⟩⟩ := with_ok h
  · exact ⟨[], by simp⟩
  · exact ⟨_, rfl⟩

theorem steps_facts : ∀ (xs : List Int) {l A : List (Int × Int)} {a b : Int}, checkF l = 0 → 0 ≤ a → a < l.length → steps l a xs = some (A, b) →
    checkF A = 0 ∧ 0 ≤ b ∧ b < A.length ∧ (∃ t, A = l ++ t) ∧ namesF A b = namesF l a ++ xs
  | [], l, A, a, b, hc, ha, hl, h => by
    cases h
    exact ⟨hc, ha, hl, ⟨[], by simp⟩, by simp⟩
  | x :: xs, l, A, a, b, hc, ha, hl, h => by
    obtain ⟨⟨m, k, e⟩, hW⟩ : ∃ y, withF l a x = y := ⟨_, rfl⟩
    unfold steps at h
    rw [hW] at h
    dsimp only at h
    by_cases he : e = 0
    · subst he
      rw [if_pos rfl] at h
      obtain ⟨g1, g2, g3, _, _⟩ := grows hW
      have hk : 0 ≤ k ∧ k < m.length := by
        obtain ⟨_, _, _, _, _, ⟨rfl, h1, rfl⟩ | ⟨rfl, rfl, _⟩⟩ := with_ok hW
        · have := (List.getElem?_eq_some_iff.1 (idx_at h1)).1
          omega
        · simp; omega
      obtain ⟨q1, q2, q3, ⟨t, q4⟩, q5⟩ := steps_facts xs g2 hk.1 hk.2 h
      obtain ⟨t', h4⟩ := with_pre hW
      refine ⟨q1, q2, q3, ⟨t' ++ t, by rw [q4, h4, List.append_assoc]⟩, ?_⟩
      rw [q5, g3, List.append_assoc]; rfl
    · rw [if_neg he] at h; cases h

/-- Asked again, of a longer list. -/
theorem again {l m A : List (Int × Int)} {a x k : Int} (h : withF l a x = (m, k, 0)) (hA : checkF A = 0) {t : List (Int × Int)} (ht : A = m ++ t) : withF A a x = (A, k, 0) := by
  obtain ⟨hc, ha, hal, hx, hno, hm⟩ := with_ok h
  have hg := good_ups hc a
  have hu := fun s => (good_ups hc s).1
  have hgA := good_ups hA a
  obtain ⟨t', hm'⟩ := with_pre h
  have hAl : A = l ++ (t' ++ t) := by rw [ht, hm', List.append_assoc]
  have hk : 0 ≤ k ∧ m[k.toNat]? = some (a, x) := by
    rcases hm with ⟨rfl, h1, rfl⟩ | ⟨rfl, rfl, _⟩
    · exact ⟨h1, idx_at h1⟩
    · exact ⟨by omega, by simp⟩
  have hkA : A[k.toNat]? = some (a, x) := by rw [ht, List.getElem?_append_left (List.getElem?_eq_some_iff.1 hk.2).1]; exact hk.2
  have hk0 : k.toNat ≠ 0 := by
    intro h0
    have := hgA.2.2.1
    rw [h0, this] at hkA
    have := Option.some.inj hkA
    simp at this
    omega
  obtain ⟨j, hj⟩ : ∃ j, k.toNat = j + 1 := ⟨k.toNat - 1, by omega⟩
  have hidx : idxF A (a, x) = k := by
    rw [idx_hit (i := k.toNat) hkA fun i hi hx2 => ?_]
    · omega
    · rw [hj] at hkA hi
      have ho := (hgA.2.2.2 j _ hkA).2.2.2.1
      cases i with
      | zero =>
        rw [hgA.2.2.1] at hx2
        have := Option.some.inj hx2
        simp at this
        omega
      | succ i =>
        refine ho (List.mem_of_getElem? (i := i) ?_)
        rw [List.getElem?_take, if_pos (by omega), List.getElem?_drop, Nat.add_comm]; exact hx2
  unfold withF
  have hlA : l.length ≤ A.length := by rw [hAl]; simp
  rw [if_neg (by simpa using hA), if_neg (by omega), if_neg (by rw [hAl, namesL_pre l _ hu a hal]; exact hno), if_pos (by rw [hidx]; exact hk.1), hidx]

theorem steps_len {l A : List (Int × Int)} {a b : Int} {xs : List Int} (hc : checkF l = 0) (ha : 0 ≤ a) (hl : a < l.length) (h : steps l a xs = some (A, b)) (i : Nat) (x : Int) (hx : xs[i]? = some x) :
    ∃ B c m k, steps l a (xs.take i) = some (B, c) ∧ withF B c x = (m, k, 0) ∧ steps l a (xs.take (i + 1)) = some (m, k) ∧ ∃ t, A = m ++ t := by
  have hi := (List.getElem?_eq_some_iff.1 hx).1
  have e1 : xs = xs.take (i + 1) ++ xs.drop (i + 1) := (List.take_append_drop _ _).symm
  have e2 : xs.take (i + 1) = xs.take i ++ [x] := by rw [List.take_add_one, hx]; rfl
  rw [e1, steps_app] at h
  cases h1 : steps l a (xs.take (i + 1)) with
  | none => rw [h1] at h; cases h
  | some p =>
    obtain ⟨m, k⟩ := p
    rw [h1] at h
    have h2 := h1
    rw [e2, steps_app] at h2
    cases h3 : steps l a (xs.take i) with
    | none => rw [h3] at h2; cases h2
    | some q =>
      obtain ⟨B, c⟩ := q
      rw [h3] at h2
      have h4 : steps B c [x] = some (m, k) := h2
      unfold steps at h4
      obtain ⟨⟨m', k', e⟩, hW⟩ : ∃ y, withF B c x = y := ⟨_, rfl⟩
      rw [hW] at h4
      dsimp only at h4
      by_cases he : e = 0
      · subst he
        rw [if_pos rfl] at h4
        unfold steps at h4
        cases h4
        obtain ⟨f1, f2, f3, _, _⟩ := steps_facts _ hc ha hl h1
        obtain ⟨_, _, _, ht, _⟩ := steps_facts _ f1 f2 f3 (show steps m k (xs.drop (i + 1)) = some (A, b) from h)
        exact ⟨B, c, m, k, rfl, hW, rfl, ht⟩
      · rw [if_neg he] at h4; cases h4

end Go.Proofs.Ytjbhpoolghfhiaa
