/- The walk lies in whatever is closed; what the document's steps come to. No condition: plain lemmas. -/
import Derived.Test.YtjbhpoolghfhiaaDoorCd21
namespace Go.Proofs.YtjbhpoolghfhiaaDoor
set_option linter.unusedVariables false
set_option linter.unusedSimpArgs false
set_option maxHeartbeats 10000000
open Go

/-- What is come to in one way is come to in the other, with the same tries. -/
def Inn (f : FnT) (W V : WT) : Prop := W.bad = false ∧ ∀ t l, To f W t l → To f V t l

theorem come_in {f : FnT} {n : Int} {l : List (Int × Int)} {W V : WT} (hi : Wiv f W) (h : Inn f W V) (ht : To f V n l) : Inn f (comeF f n l W) V := by
  obtain ⟨h1, h2⟩ := h
  have s1 := hi.seen
  have s2 := hi.out
  have t1 := ht.lo; have t2 := ht.hi; have t3 := ht.few
  unfold comeF
  rw [if_neg (by omega)]
  split
  · refine ⟨h1, fun t l' hT => ?_⟩
    obtain ⟨a1, a2, a3, a4, a5⟩ := hT
    by_cases e : n.toNat = t.toNat
    · have e' : n = t := by omega
      subst e'
      have : (W.out.set n.toNat l).getD n.toNat [] = l := getD_set_self (by omega)
      dsimp only at a5
      rw [this] at a5; subst a5; exact ht
    · dsimp only at a4 a5
      rw [getD_set_ne e] at a4 a5
      exact h2 t l' ⟨a1, a2, a3, a4, a5⟩
  · rename_i hs
    have hs' : W.seen.getD n.toNat false = true := by simpa using hs
    have hx := seen_to hi hs'
    have e : ((n.toNat : Nat) : Int) = n := by omega
    rw [e] at hx
    have := (h2 _ _ hx).out
    rw [ht.out] at this
    rw [if_pos this.symm]
    exact ⟨h1, h2⟩

/-- All that is come to leads on to what is come to. -/
def Clo (f : FnT) (V : WT) : Prop := To f V 0 [] ∧ ∀ t l, To f V t l → closed f V t l

theorem from_in {f : FnT} {n : Int} {W V : WT} (hi : Wiv f W) (h : Inn f W V) (hc : closed f V n (W.out.getD n.toNat [])) : Inn f (fromF f n W) V := by
  unfold closed at hc
  unfold fromF
  dsimp only at hc ⊢
  split at hc
  · rename_i e; rw [if_pos e]; exact h
  rename_i e; rw [if_neg e]
  split at hc
  · rename_i e; rw [if_pos e]; exact come_in hi h hc
  rename_i e; rw [if_neg e]
  split at hc
  · rename_i e; rw [if_pos e]
    exact come_in (come_iv hi hc.1.lo).1 (come_in hi h hc.1) hc.2
  rename_i e; rw [if_neg e]
  split at hc
  · rename_i e; rw [if_pos e]
    exact come_in (come_iv hi hc.1.lo).1 (come_in hi h hc.1) hc.2
  rename_i e; rw [if_neg e]
  split at hc
  · rename_i e; rw [if_pos e, if_neg hc.1]; exact come_in hi h hc.2
  · rename_i e; rw [if_neg e]; exact come_in hi h hc

theorem runInn {f : FnT} (hk : Cok f) {V : WT} (hV : Clo f V) : ∀ (k : Nat) (W : WT), Wiv f W → Wts W → Inn f W V → Inn f (runW f k W) V
  | 0, W, _, _, h => h
  | k + 1, W, hi, ht, h => by
    show Inn f (if goesW W = true then runW f k (stepW f W) else W) V
    split
    · rename_i hg
      have h0 : 0 < W.todo.length := by simp [goesW] at hg; exact hg.1
      obtain ⟨q1, q2, q3, q4⟩ := pop_iv hi h0
      have hs := ht _ (last_mem h0)
      have hT := seen_to hi hs
      have e : (((lastT W).toNat : Nat) : Int) = lastT W := by omega
      rw [e] at hT
      have hP : Inn f (popW W) V := ⟨h.1, fun t l ⟨a, b, c, d, e⟩ => h.2 t l ⟨a, b, c, d, e⟩⟩
      exact runInn hk hV k _ (step_iv hi hk hg).1 (step_ts hi hk hg ht) (from_in q1 hP (hV.2 _ _ (h.2 _ _ hT)))
    · exact h

/-- The walk lies in whatever is closed. -/
theorem walkInn {f : FnT} (hk : Cok f) {V : WT} (hV : Clo f V) : Inn f (walkF f) V := by
  unfold walkF
  refine runInn hk hV _ _ (walk_start hk).1 (come_ts (W0_iv f).1 (Int.le_refl 0) fun t ht => by cases ht) (come_in (W0_iv f).1 ⟨rfl, fun t l hT => ?_⟩ hV.1)
  have := hT.seen
  simp [W0, List.getD, List.getElem?_replicate] at this
  exfalso; split at this <;> cases this

theorem run_to {f : FnT} (hk : Cok f) {t : Int} {l : List (Int × Int)} : ∀ (k : Nat) (W : WT), Wiv f W → To f W t l → To f (runW f k W) t l
  | 0, W, _, h => h
  | k + 1, W, hi, h => by
    show To f (if goesW W = true then runW f k (stepW f W) else W) t l
    split
    · rename_i hg
      have h0 : 0 < W.todo.length := by simp [goesW] at hg; exact hg.1
      obtain ⟨q1, q2, q3, q4⟩ := pop_iv hi h0
      obtain ⟨a, b, c, d, e⟩ := h
      exact run_to hk k _ (step_iv hi hk hg).1 ((from_fr q1 hk q3).keeps _ _ ⟨a, b, c, d, e⟩)
    · exact h

/-- Such a walk is closed. -/
theorem walk_clo {f : FnT} (hk : Cok f) (hb : (walkF f).bad = false) (h0 : 0 < f.code.length) : Clo f (walkF f) := by
  have iv := walk_iv hk
  refine ⟨?_, fun t l hT => ?_⟩
  · refine run_to hk _ _ (walk_start hk).1 (come_to (W0_iv f).1 (Int.le_refl 0) ?_)
    unfold comeF
    rw [if_neg (by simp only [List.length_nil]; omega), if_pos (by simp [W0, List.getD, List.getElem?_replicate, h0])]
    rfl
  · have e : ((t.toNat : Nat) : Int) = t := by have := hT.lo; omega
    have := walk_closed hk hb (k := t.toNat) hT.seen
    rw [e] at this
    rw [← hT.out]; exact this

end Go.Proofs.YtjbhpoolghfhiaaDoor
