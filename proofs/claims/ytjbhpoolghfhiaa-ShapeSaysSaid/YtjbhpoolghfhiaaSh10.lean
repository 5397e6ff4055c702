/- The plain law of shapes that grow. No condition: plain lemmas. -/
import Derived.Test.YtjbhpoolghfhiaaSh9
namespace Go.Proofs.Ytjbhpoolghfhiaa
set_option linter.unusedVariables false
set_option linter.unusedSimpArgs false
set_option maxHeartbeats 10000000
open Go

theorem with_bad {l : List (Int × Int)} {a n : Int} (h : ¬ (withF l a n).2.2 = 0) : (withF l a n).1 = [] := by
  unfold withF at h ⊢
  repeat' split <;> simp_all

theorem with_ok {l m : List (Int × Int)} {a n k : Int} (h : withF l a n = (m, k, 0)) : checkF l = 0 ∧ 0 ≤ a ∧ a < l.length ∧ 0 ≤ n ∧ n ∉ namesL l a ∧
    ((m = l ∧ 0 ≤ idxF l (a, n) ∧ k = idxF l (a, n)) ∨ (m = l ++ [(a, n)] ∧ k = l.length ∧ ¬ 0 ≤ idxF l (a, n) ∧ l.length < 100)) := by
  unfold withF at h
  split at h
  · rename_i hc; simp at h; exact absurd h.2.2 hc
  · rename_i hc
    split at h
    · simp at h
    · rename_i h1
      split at h
      · simp at h
      · rename_i h2
        split at h
        · rename_i h3
          simp only [Prod.mk.injEq, and_true] at h
          exact ⟨by simpa using hc, by omega, by omega, by omega, h2, .inl ⟨h.1.symm, h3, h.2.symm⟩⟩
        · rename_i h3
          split at h
          · simp at h
          · rename_i h4
            simp only [Prod.mk.injEq, and_true] at h
            have := (good_ups (by simpa using hc) a).2.1
            exact ⟨by simpa using hc, by omega, by omega, by omega, h2, .inr ⟨h.1.symm, h.2.symm, h3, by omega⟩⟩

theorem namesR_pre (l t : List (Int × Int)) (hu : ∀ s, Ups l s) : ∀ (n : Nat) (s : Int), s < l.length → namesR (l ++ t) n s = namesR l n s
  | 0, _, _ => rfl
  | n + 1, s, hs => by
    show (if 0 < s then (match (l ++ t)[s.toNat]? with | some p => p.2 :: namesR (l ++ t) n p.1 | none => []) else []) = (if 0 < s then (match l[s.toNat]? with | some p => p.2 :: namesR l n p.1 | none => []) else [])
    by_cases h0 : 0 < s
    · rw [if_pos h0, if_pos h0, List.getElem?_append_left (by omega)]
      cases hp : l[s.toNat]? with
      | none => rfl
      | some p =>
        have := hu s _ p hp (by omega) (by omega)
        exact congrArg (p.2 :: ·) (namesR_pre l t hu n p.1 (by omega))
    · rw [if_neg h0, if_neg h0]

theorem namesL_pre (l t : List (Int × Int)) (hu : ∀ s, Ups l s) (s : Int) (hs : s < l.length) : namesL (l ++ t) s = namesL l s := by
  unfold namesL
  rw [namesR_pre l t hu _ s hs, namesR_fuel l hu (l ++ t).length l.length s (by rw [List.length_append]; omega) (by omega)]

theorem good_more {l : List (Int × Int)} {a n : Int} (hc : checkF l = 0) (ha : 0 ≤ a) (hal : a < l.length) (hn : 0 ≤ n) (hno : n ∉ namesL l a) (hidx : ¬ 0 ≤ idxF l (a, n)) (h100 : l.length < 100) : checkF (l ++ [(a, n)]) = 0 := by
  obtain ⟨_, _, hr, hg⟩ := good_ups hc a
  have hu := fun s => (good_ups hc s).1
  have hpos : 0 < l.length := by omega
  have h1 : ¬ 100 < (l ++ [(a, n)]).length := by rw [List.length_append, List.length_singleton]; omega
  have h2 : (l ++ [(a, n)])[0]? = some (-1, -1) := by rw [List.getElem?_append_left hpos]; exact hr
  suffices hgood : good (l ++ [(a, n)]) by rw [checkF, if_neg h1, if_pos ⟨h2, hgood⟩]
  intro k p hp
  have hk := (List.getElem?_eq_some_iff.1 hp).1
  simp at hk
  have hd : (l ++ [(a, n)]).drop 1 = l.drop 1 ++ [(a, n)] := List.drop_append_of_le_length (by omega)
  have ht : ((l ++ [(a, n)]).drop 1).take k = (l.drop 1).take k := by rw [hd, List.take_append_of_le_length (by simp; omega)]
  by_cases hkl : k + 1 < l.length
  · rw [List.getElem?_append_left hkl] at hp
    obtain ⟨h1, h2, h3, h4, h5⟩ := hg k p hp
    refine ⟨h1, h2, h3, by rw [ht]; exact h4, ?_⟩
    rw [namesL_pre l _ hu p.1 (by omega)]; exact h5
  · have he : k + 1 = l.length := by omega
    rw [List.getElem?_append_right (by omega), he] at hp
    simp at hp
    subst hp
    refine ⟨ha, by show a ≤ k; omega, hn, ?_, ?_⟩
    · rw [ht]
      intro h
      exact hidx (idx_mem.2 (List.mem_of_mem_drop (List.mem_of_mem_take h)))
    · show n ∉ namesL (l ++ [(a, n)]) a
      rw [namesL_pre l _ hu a hal]; exact hno

theorem idx_at {α : Type} [DecidableEq α] {x : α} : ∀ {l : List α}, 0 ≤ idxF l x → l[(idxF l x).toNat]? = some x
  | [], h => by simp [idxF] at h
  | y :: l, h => by
    unfold idxF at h ⊢
    by_cases h1 : x = y
    · simp [h1]
    · rw [if_neg h1] at h ⊢
      by_cases h2 : idxF l x < 0
      · rw [if_pos h2] at h; simp at h
      · rw [if_neg h2, show (idxF l x + 1).toNat = (idxF l x).toNat + 1 by omega, List.getElem?_cons_succ]
        exact idx_at (by omega)

theorem idx_more {α : Type} [DecidableEq α] {x : α} {l : List α} (h : ¬ 0 ≤ idxF l x) : idxF (l ++ [x]) x = l.length := by
  refine idx_hit (i := l.length) (by simp) fun j hj hx => h (idx_mem.2 ?_)
  rw [List.getElem?_append_left hj] at hx
  exact List.mem_of_getElem? hx

/-- What a shape with a name more has. -/
theorem grows {l m : List (Int × Int)} {a n k : Int} (h : withF l a n = (m, k, 0)) : withF m a n = (m, k, 0) ∧ checkF m = 0 ∧ namesF m k = namesF l a ++ [n] ∧ (∀ o : Int, 0 ≤ o → o < l.length → namesF m o = namesF l o) ∧ l.length ≤ m.length := by
  obtain ⟨hc, ha, hal, hn, hno, hm⟩ := with_ok h
  have hl := good_ups hc a
  have hu := fun s => (good_ups hc s).1
  have hNl : namesF l a = namesL l a := by rw [namesF, if_pos ⟨hc, ha, hal⟩]
  have up : ∀ (l : List (Int × Int)) (k : Int), checkF l = 0 → 0 ≤ k → l[k.toNat]? = some (a, n) → 0 ≤ a → namesF l k = namesL l a ++ [n] := fun l k hc hk hp ha => by
    have hg := good_ups hc a
    have hlt := (List.getElem?_eq_some_iff.1 hp).1
    have hk0 : k ≠ 0 := by
      rintro rfl
      have h2 := hg.2.2.1
      rw [show ((0 : Int).toNat) = 0 from rfl, h2] at hp
      have := Option.some.inj hp
      simp at this
      omega
    obtain ⟨j, rfl⟩ : ∃ j : Nat, k = (j : Int) + 1 := ⟨k.toNat - 1, by omega⟩
    rw [namesF, if_pos ⟨hc, hk, by omega⟩]
    exact namesL_up (fun s => (good_ups hc s).1) (by rw [← hp]; congr 1)
  rcases hm with ⟨rfl, h1, rfl⟩ | ⟨rfl, rfl, h1, h2⟩
  · exact ⟨h, hc, by rw [hNl]; exact up m _ hc h1 (idx_at h1) ha, fun o _ _ => rfl, Nat.le_refl _⟩
  · have hc2 := good_more hc ha hal hn hno h1 h2
    have hlen : (l ++ [(a, n)]).length = l.length + 1 := by simp
    have hidx : idxF (l ++ [(a, n)]) (a, n) = l.length := idx_more h1
    have hNm : namesL (l ++ [(a, n)]) a = namesL l a := namesL_pre l _ hu a hal
    refine ⟨?_, hc2, ?_, fun o h0 ho => ?_, by simp⟩
    · unfold withF
      rw [if_neg (by simpa using hc2), if_neg (by rw [hlen]; omega), if_neg (by rw [hNm]; exact hno), if_pos (by rw [hidx]; omega), hidx]
    · rw [hNl, ← hNm]
      exact up _ _ hc2 (by omega) (by simp) ha
    · rw [namesF, namesF, if_pos ⟨hc2, h0, by rw [hlen]; omega⟩, if_pos ⟨hc, h0, ho⟩]
      exact namesL_pre l _ hu o ho

theorem Wf_more {l : List (Int × Int)} {a n : Int} (hw : Wf l) (ha : WfI a) (hn : WfI n) : Wf (l ++ [(a, n)]) := fun p hp => by
  rcases List.mem_append.1 hp with h | h
  · exact hw p h
  · simp at h; subst h; exact ⟨ha, hn⟩

theorem with_wf {l m : List (Int × Int)} {a n k : Int} (h : withF l a n = (m, k, 0)) (hw : Wf l) (ha : WfI a) (hn : WfI n) : Wf m := by
  obtain ⟨_, _, _, _, _, ⟨rfl, _⟩ | ⟨rfl, _⟩⟩ := with_ok h
  · exact hw
  · exact Wf_more hw ha hn

end Go.Proofs.Ytjbhpoolghfhiaa
