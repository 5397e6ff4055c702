/- The document's passes over all orders, told by the same steps as the walk: they end where the walk ends. No condition: plain lemmas. -/
import Derived.Test.YtjbhpoolghfhiaaDoorCd33
namespace Go.Proofs.YtjbhpoolghfhiaaDoor
set_option linter.unusedVariables false
set_option linter.unusedSimpArgs false
set_option maxHeartbeats 10000000
open Go

/-- The first n orders of a pass; what was not yet come to stands in 'todo'. -/
def passF (f : FnT) : Nat → WT → WT
  | 0, W => W
  | n + 1, W => if (passF f n W).bad = true then passF f n W else if (passF f n W).seen.getD n false = true then fromF f n (passF f n W) else passF f n W
def freshW (W : WT) : WT := ⟨W.seen, W.out, [], W.bad⟩

theorem come_same {f : FnT} {n : Int} {l : List (Int × Int)} {W : WT} (hb : (comeF f n l W).bad = false) (ht : (comeF f n l W).todo = []) : comeF f n l W = W := by
  unfold comeF at hb ht ⊢
  split at hb
  · cases hb
  · rename_i h1
    rw [if_neg h1] at ht ⊢
    split at hb
    · rename_i h2
      rw [if_pos h2] at ht; simp at ht
    · rename_i h2
      rw [if_neg h2] at ht ⊢
      split at hb
      · rename_i h3; rw [if_pos h3]
      · cases hb
theorem come_todo0 {f : FnT} {n : Int} {l : List (Int × Int)} {W : WT} (ht : (comeF f n l W).todo = []) : W.todo = [] := by
  cases h : W.todo with
  | nil => rfl
  | cons t ts =>
    have := come_sub (f := f) (n := n) (l := l) (W := W) (t := t) (by rw [h]; exact List.mem_cons_self ..)
    rw [ht] at this; cases this
theorem come_bad0 {f : FnT} {n : Int} {l : List (Int × Int)} {W : WT} (hb : (comeF f n l W).bad = false) : W.bad = false := by
  cases h : W.bad with
  | false => rfl
  | true => rw [come_bad h] at hb; cases hb
theorem from_same {f : FnT} {n : Int} {W : WT} (hb : (fromF f n W).bad = false) (ht : (fromF f n W).todo = []) : fromF f n W = W := by
  unfold fromF at hb ht ⊢
  dsimp only at hb ht ⊢
  split at hb
  · rename_i e; rw [if_pos e]
  rename_i e; rw [if_neg e] at ht ⊢
  split at hb
  · rename_i e; rw [if_pos e] at ht ⊢; exact come_same hb ht
  rename_i e; rw [if_neg e] at ht ⊢
  split at hb
  · rename_i e; rw [if_pos e] at ht ⊢
    have h1 := come_same hb ht
    rw [h1] at hb ht ⊢
    exact come_same hb ht
  rename_i e; rw [if_neg e] at ht ⊢
  split at hb
  · rename_i e; rw [if_pos e] at ht ⊢
    have h1 := come_same hb ht
    rw [h1] at hb ht ⊢
    exact come_same hb ht
  rename_i e; rw [if_neg e] at ht ⊢
  split at hb
  · rename_i e; rw [if_pos e] at ht ⊢
    split at hb
    · cases hb
    · rename_i e; rw [if_neg e] at ht ⊢; exact come_same hb ht
  · rename_i e; rw [if_neg e] at ht ⊢; exact come_same hb ht

theorem pass_iv {f : FnT} (hk : Cok f) : ∀ (n : Nat) (W : WT), Wiv f W → Wiv f (passF f n W)
  | 0, W, h => h
  | n + 1, W, h => by
    have ih := pass_iv hk n W h
    unfold passF
    split
    · exact ih
    · split
      · exact (from_iv ih hk (by omega)).1
      · exact ih
theorem pass_in {f : FnT} (hk : Cok f) {V : WT} (hV : Clo f V) : ∀ (n : Nat) (W : WT), Wiv f W → Inn f W V → Inn f (passF f n W) V
  | 0, W, _, h => h
  | n + 1, W, hi, h => by
    have ih := pass_in hk hV n W hi h
    have iv := pass_iv hk n W hi
    unfold passF
    split
    · exact ih
    · split
      · rename_i hs
        exact from_in iv ih (hV.2 _ _ (ih.2 _ _ (seen_to iv hs)))
      · exact ih
/-- A pass that comes to nothing new. -/
theorem pass_same {f : FnT} (hk : Cok f) : ∀ (n : Nat) (W : WT), Wiv f W → (passF f n W).bad = false → (passF f n W).todo = [] → passF f n W = W ∧ ∀ k, k < n → W.seen.getD k false = true → fromF f k W = W
  | 0, W, _, _, _ => ⟨rfl, fun k hk => by omega⟩
  | n + 1, W, hi, hb, ht => by
    have iv := pass_iv hk n W hi
    have e : passF f (n + 1) W = if (passF f n W).bad = true then passF f n W else if (passF f n W).seen.getD n false = true then fromF f n (passF f n W) else passF f n W := rfl
    rw [e] at hb ht ⊢
    split at hb
    · rename_i h; rw [h] at hb; cases hb
    rename_i h1
    rw [if_neg h1] at ht ⊢
    split at hb
    · rename_i h2
      rw [if_pos h2] at ht ⊢
      have h3 := from_same hb ht
      rw [h3] at hb ht ⊢
      obtain ⟨i1, i2⟩ := pass_same hk n W hi hb ht
      refine ⟨i1, fun k hk' hs => ?_⟩
      rcases Nat.lt_succ_iff_lt_or_eq.1 hk' with h | h
      · exact i2 k h hs
      · subst h; rw [i1] at h3; exact h3
    · rename_i h2
      rw [if_neg h2] at ht ⊢
      obtain ⟨i1, i2⟩ := pass_same hk n W hi hb ht
      refine ⟨i1, fun k hk' hs => ?_⟩
      rcases Nat.lt_succ_iff_lt_or_eq.1 hk' with h | h
      · exact i2 k h hs
      · subst h; rw [i1] at h2; exact (h2 hs).elim
/-- Such a pass ends closed. -/
theorem pass_clo {f : FnT} (hk : Cok f) {W : WT} (hi : Wiv f W) (h0 : To f W 0 []) (hb : (passF f f.code.length W).bad = false) (ht : (passF f f.code.length W).todo = []) : Clo f W := by
  obtain ⟨e1, e2⟩ := pass_same hk _ W hi hb ht
  rw [e1] at hb
  refine ⟨h0, fun t l hT => ?_⟩
  have e : ((t.toNat : Nat) : Int) = t := by have := hT.lo; omega
  have h3 := e2 t.toNat (by have := hT.hi; have := hT.lo; omega) hT.seen
  have h4 := (from_fr hi hk (n := (t.toNat : Nat)) (by omega)).closed (by rw [h3]; exact hb)
  rw [h3, e] at h4
  rw [← hT.out]; exact h4

end Go.Proofs.YtjbhpoolghfhiaaDoor
