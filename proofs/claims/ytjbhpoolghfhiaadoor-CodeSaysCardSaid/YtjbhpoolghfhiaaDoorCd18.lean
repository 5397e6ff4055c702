/- The walk ends closed: each order that is come to leads to others, with the tries that it leaves. No condition: plain lemmas. -/
import Derived.Test.YtjbhpoolghfhiaaDoorCd17
namespace Go.Proofs.YtjbhpoolghfhiaaDoor
set_option linter.unusedVariables false
set_option linter.unusedSimpArgs false
set_option maxHeartbeats 10000000
open Go

/-- An order is come to, with just such tries. -/
structure To (f : FnT) (W : WT) (t : Int) (l : List (Int × Int)) : Prop where
  lo : 0 ≤ t
  hi : t < f.code.length
  few : l.length ≤ 20
  seen : W.seen.getD t.toNat false = true
  out : W.out.getD t.toNat [] = l

theorem getD_set_self {α : Type} {l : List α} {i : Nat} {x d : α} (h : i < l.length) : (l.set i x).getD i d = x := by
  simp [List.getD, List.getElem?_set, h]
theorem getD_set_ne {α : Type} {l : List α} {i j : Nat} {x d : α} (h : i ≠ j) : (l.set i x).getD j d = l.getD j d := by
  simp [List.getD, List.getElem?_set, h]

theorem come_bad {f : FnT} {n : Int} {l : List (Int × Int)} {W : WT} (h : W.bad = true) : (comeF f n l W).bad = true := by
  unfold comeF; split
  · rfl
  · split
    · exact h
    · split
      · exact h
      · rfl
theorem come_to {f : FnT} {n : Int} {l : List (Int × Int)} {W : WT} (hi : Wiv f W) (hn : 0 ≤ n) (h : (comeF f n l W).bad = false) : To f (comeF f n l W) n l := by
  unfold comeF at h ⊢
  split at h
  · cases h
  · rename_i hb
    rw [if_neg hb]
    have h1 := hi.seen
    have h2 := hi.out
    split at h
    · rename_i hs
      rw [if_pos hs]
      exact ⟨hn, by omega, by omega, getD_set_self (by omega), getD_set_self (by omega)⟩
    · rename_i hs
      rw [if_neg hs]
      split at h
      · rename_i ho
        rw [if_pos ho]
        exact ⟨hn, by omega, by omega, by simpa using hs, ho⟩
      · cases h
theorem come_keeps {f : FnT} {n t : Int} {l l' : List (Int × Int)} {W : WT} (h : To f W t l') : To f (comeF f n l W) t l' := by
  obtain ⟨h1, h2, h3, h4, h5⟩ := h
  unfold comeF
  split
  · exact ⟨h1, h2, h3, h4, h5⟩
  · split
    · rename_i hs
      have hne : n.toNat ≠ t.toNat := fun e => by rw [e, h4] at hs; cases hs
      exact ⟨h1, h2, h3, by rw [getD_set_ne hne]; exact h4, by rw [getD_set_ne hne]; exact h5⟩
    · split
      · exact ⟨h1, h2, h3, h4, h5⟩
      · exact ⟨h1, h2, h3, h4, h5⟩
theorem come_seen {f : FnT} {n : Int} {l : List (Int × Int)} {W : WT} (hn : 0 ≤ n) {k : Nat} (h : (comeF f n l W).seen.getD k false = true) : W.seen.getD k false = true ∨ (k : Int) ∈ (comeF f n l W).todo := by
  unfold comeF at h ⊢
  split at h
  · exact .inl h
  · rename_i hb
    rw [if_neg hb]
    split at h
    · rename_i hs
      rw [if_pos hs]
      by_cases hk : n.toNat = k
      · subst hk
        right; simp; right; omega
      · left; dsimp only at h; rwa [getD_set_ne hk] at h
    · rename_i hs
      rw [if_neg hs]
      left
      split at h <;> exact h
theorem come_sub {f : FnT} {n : Int} {l : List (Int × Int)} {W : WT} {t : Int} (h : t ∈ W.todo) : t ∈ (comeF f n l W).todo := by
  unfold comeF; split
  · exact h
  · split
    · exact List.mem_append_left _ h
    · split <;> exact h

/-- What an order leads to is come to. -/
def closed (f : FnT) (W : WT) (n : Int) (l : List (Int × Int)) : Prop :=
  let i := f.code.getD n.toNat ins0
  if i.op = 28 ∨ i.op = 29 then True else if i.op = 13 ∨ i.op = 14 then To f W i.a l else
  if i.op = 15 then To f W i.b l ∧ To f W (n + 1) l else if i.op = 30 then To f W i.b l ∧ To f W (n + 1) (l ++ [(i.a, i.b)]) else
  if i.op = 31 then l ≠ [] ∧ To f W (n + 1) (l.take (l.length - 1)) else To f W (n + 1) l

theorem closed_keeps {f : FnT} {W W' : WT} {n : Int} {l : List (Int × Int)} (h : closed f W n l) (hk : ∀ t l', To f W t l' → To f W' t l') : closed f W' n l := by
  unfold closed at h ⊢
  dsimp only at h ⊢
  split
  · trivial
  · rename_i h1
    rw [if_neg h1] at h
    split
    · rename_i h2; rw [if_pos h2] at h; exact hk _ _ h
    · rename_i h2
      rw [if_neg h2] at h
      split
      · rename_i h3; rw [if_pos h3] at h; exact ⟨hk _ _ h.1, hk _ _ h.2⟩
      · rename_i h3
        rw [if_neg h3] at h
        split
        · rename_i h4; rw [if_pos h4] at h; exact ⟨hk _ _ h.1, hk _ _ h.2⟩
        · rename_i h4
          rw [if_neg h4] at h
          split
          · rename_i h5; rw [if_pos h5] at h; exact ⟨h.1, hk _ _ h.2⟩
          · rename_i h5; rw [if_neg h5] at h; exact hk _ _ h

/-- What going on from an order does to the walk. -/
structure Fr (f : FnT) (n : Int) (W : WT) : Prop where
  bad : W.bad = true → (fromF f n W).bad = true
  keeps : ∀ t l, To f W t l → To f (fromF f n W) t l
  seen : ∀ k : Nat, (fromF f n W).seen.getD k false = true → W.seen.getD k false = true ∨ (k : Int) ∈ (fromF f n W).todo
  sub : ∀ t, t ∈ W.todo → t ∈ (fromF f n W).todo
  closed : (fromF f n W).bad = false → Go.Proofs.YtjbhpoolghfhiaaDoor.closed f (fromF f n W) n (W.out.getD n.toNat [])

theorem from_fr {f : FnT} {n : Int} {W : WT} (h : Wiv f W) (hc : Cok f) (hn : 0 ≤ n) : Fr f n W := by
  have hi : f.code.getD n.toNat ins0 = ins0 ∨ f.code.getD n.toNat ins0 ∈ f.code := by
    cases hg : f.code[n.toNat]? with
    | none => left; simp [List.getD, hg]
    | some i => right; simp only [List.getD, hg, Option.getD_some]; exact List.mem_of_getElem? hg
  have hA : (f.code.getD n.toNat ins0).op = 13 ∨ (f.code.getD n.toNat ins0).op = 14 → 0 ≤ (f.code.getD n.toNat ins0).a := fun ho => hi.elim (fun h => by rw [h] at ho; rcases ho with ho | ho <;> cases ho) (fun h => hc.a _ h ho)
  have hB : (f.code.getD n.toNat ins0).op = 15 ∨ (f.code.getD n.toNat ins0).op = 30 → 0 ≤ (f.code.getD n.toNat ins0).b := fun ho => hi.elim (fun h => by rw [h] at ho; rcases ho with ho | ho <;> cases ho) (fun h => hc.b _ h ho)
  have one : ∀ (t : Int) (l : List (Int × Int)), 0 ≤ t → fromF f n W = comeF f t l W → (closed f (comeF f t l W) n (W.out.getD n.toNat []) ↔ To f (comeF f t l W) t l) → Fr f n W := fun t l ht he hcl => by
    refine ⟨fun hb => by rw [he]; exact come_bad hb, fun t' l' hT => by rw [he]; exact come_keeps hT, fun k hk => by rw [he] at hk ⊢; exact come_seen ht hk, fun t' ht' => by rw [he]; exact come_sub ht', fun hb => ?_⟩
    rw [he] at hb ⊢
    exact hcl.2 (come_to h ht hb)
  have two : ∀ (t t2 : Int) (l l2 : List (Int × Int)), 0 ≤ t → 0 ≤ t2 → fromF f n W = comeF f t2 l2 (comeF f t l W) → (closed f (comeF f t2 l2 (comeF f t l W)) n (W.out.getD n.toNat []) ↔ To f (comeF f t2 l2 (comeF f t l W)) t l ∧ To f (comeF f t2 l2 (comeF f t l W)) t2 l2) → Fr f n W := fun t t2 l l2 ht ht2 he hcl => by
    have h2 := (come_iv (n := t) (l := l) h ht).1
    refine ⟨fun hb => by rw [he]; exact come_bad (come_bad hb), fun t' l' hT => by rw [he]; exact come_keeps (come_keeps hT), fun k hk => ?_, fun t' ht' => by rw [he]; exact come_sub (come_sub ht'), fun hb => ?_⟩
    · rw [he] at hk ⊢
      rcases come_seen ht2 hk with hk | hk
      · rcases come_seen ht hk with hk | hk
        · exact .inl hk
        · exact .inr (come_sub hk)
      · exact .inr hk
    · rw [he] at hb ⊢
      have hb1 : (comeF f t l W).bad = false := by
        cases hx : (comeF f t l W).bad with
        | false => rfl
        | true => rw [come_bad hx] at hb; cases hb
      exact hcl.2 ⟨come_keeps (come_to h ht hb1), come_to h2 ht2 hb⟩
  by_cases h1 : (f.code.getD n.toNat ins0).op = 28 ∨ (f.code.getD n.toNat ins0).op = 29
  · have he : fromF f n W = W := by unfold fromF; dsimp only; rw [if_pos h1]
    refine ⟨fun hb => by rw [he]; exact hb, fun t l hT => by rw [he]; exact hT, fun k hk => by rw [he] at hk; exact .inl hk, fun t ht => by rw [he]; exact ht, fun _ => ?_⟩
    unfold closed; dsimp only; rw [if_pos h1]; trivial
  by_cases h2 : (f.code.getD n.toNat ins0).op = 13 ∨ (f.code.getD n.toNat ins0).op = 14
  · exact one (f.code.getD n.toNat ins0).a (W.out.getD n.toNat []) (hA h2) (by unfold fromF; dsimp only; rw [if_neg h1, if_pos h2]) (by unfold closed; dsimp only; rw [if_neg h1, if_pos h2])
  by_cases h3 : (f.code.getD n.toNat ins0).op = 15
  · exact two (f.code.getD n.toNat ins0).b (n + 1) (W.out.getD n.toNat []) (W.out.getD n.toNat []) (hB (.inl h3)) (by omega) (by unfold fromF; dsimp only; rw [if_neg h1, if_neg h2, if_pos h3]) (by unfold closed; dsimp only; rw [if_neg h1, if_neg h2, if_pos h3])
  by_cases h4 : (f.code.getD n.toNat ins0).op = 30
  · exact two (f.code.getD n.toNat ins0).b (n + 1) (W.out.getD n.toNat []) (W.out.getD n.toNat [] ++ [((f.code.getD n.toNat ins0).a, (f.code.getD n.toNat ins0).b)]) (hB (.inr h4)) (by omega) (by unfold fromF; dsimp only; rw [if_neg h1, if_neg h2, if_neg h3, if_pos h4]) (by unfold closed; dsimp only; rw [if_neg h1, if_neg h2, if_neg h3, if_pos h4])
  by_cases h5 : (f.code.getD n.toNat ins0).op = 31
  · by_cases hl : W.out.getD n.toNat [] = []
    · have he : fromF f n W = { W with bad := true } := by unfold fromF; dsimp only; rw [if_neg h1, if_neg h2, if_neg h3, if_neg h4, if_pos h5, if_pos hl]
      exact ⟨fun _ => by rw [he], fun t l hT => by rw [he]; exact ⟨hT.lo, hT.hi, hT.few, hT.seen, hT.out⟩, fun k hk => by rw [he] at hk; exact .inl hk, fun t ht => by rw [he]; exact ht, fun hb => by rw [he] at hb; cases hb⟩
    · exact one (n + 1) ((W.out.getD n.toNat []).take ((W.out.getD n.toNat []).length - 1)) (by omega) (by unfold fromF; dsimp only; rw [if_neg h1, if_neg h2, if_neg h3, if_neg h4, if_pos h5, if_neg hl]) (by unfold closed; dsimp only; rw [if_neg h1, if_neg h2, if_neg h3, if_neg h4, if_pos h5]; exact ⟨fun x => x.2, fun x => ⟨hl, x⟩⟩)
  · exact one (n + 1) (W.out.getD n.toNat []) (by omega) (by unfold fromF; dsimp only; rw [if_neg h1, if_neg h2, if_neg h3, if_neg h4, if_neg h5]) (by unfold closed; dsimp only; rw [if_neg h1, if_neg h2, if_neg h3, if_neg h4, if_neg h5])

/-- Whatever was come to, and is not to be gone on from any more, is closed. -/
def Wcl (f : FnT) (W : WT) : Prop := W.bad = true ∨ ∀ k : Nat, W.seen.getD k false = true → (k : Int) ∈ W.todo ∨ closed f W k (W.out.getD k [])

theorem seen_to {f : FnT} {W : WT} (h : Wiv f W) {k : Nat} (hk : W.seen.getD k false = true) : To f W k (W.out.getD k []) := by
  have hlt : k < W.seen.length := by
    rcases Nat.lt_or_ge k W.seen.length with h | h
    · exact h
    · simp [List.getD, List.getElem?_eq_none h] at hk
  have h1 := h.seen
  have h2 := h.out
  refine ⟨by omega, by omega, ?_, hk, rfl⟩
  have hx : W.out[k]? = some (W.out[k]'(by omega)) := List.getElem?_eq_getElem (by omega)
  simp only [List.getD, hx, Option.getD_some]
  exact h.outs _ (List.mem_of_getElem? hx)

theorem step_cl {f : FnT} {W : WT} (h : Wiv f W) (hc : Cok f) (hg : goesW W = true) (hW : Wcl f W) : Wcl f (stepW f W) := by
  have h0 : 0 < W.todo.length := by simp [goesW] at hg; exact hg.1
  obtain ⟨q1, q2, q3, q4⟩ := pop_iv h h0
  have fr := from_fr (n := lastT W) q1 hc q3
  cases hb : (stepW f W).bad with
  | true => exact .inl hb
  | false =>
    right
    have hb1 : W.bad = false := by
      cases hx : W.bad with
      | false => rfl
      | true => have := fr.bad hx; unfold stepW at hb; rw [this] at hb; cases hb
    rcases hW with hW | hW
    · rw [hW] at hb1; cases hb1
    intro k hk
    rcases fr.seen k hk with hk1 | hk1
    · have hk2 : W.seen.getD k false = true := hk1
      have hT := seen_to q1 hk1
      have hT2 := fr.keeps _ _ hT
      have ho : (stepW f W).out.getD k [] = W.out.getD k [] := hT2.out
      rw [ho]
      rcases hW k hk2 with hin | hcl
      · by_cases he : (k : Int) = lastT W
        · right
          have := fr.closed hb
          rw [← he] at this
          unfold stepW
          rw [← he]
          exact this
        · left
          refine fr.sub _ ?_
          show (k : Int) ∈ W.todo.take (W.todo.length - 1)
          obtain ⟨j, hj⟩ := List.mem_iff_getElem?.1 hin
          have hjl := (List.getElem?_eq_some_iff.1 hj).1
          have hjn : j ≠ W.todo.length - 1 := fun e => by
            subst e
            exact he (by unfold lastT; simp [List.getD, hj])
          exact List.mem_iff_getElem?.2 ⟨j, by rw [List.getElem?_take, if_pos (by omega), hj]⟩
      · right
        exact closed_keeps hcl fun t l hT => fr.keeps t l ⟨hT.lo, hT.hi, hT.few, hT.seen, hT.out⟩
    · exact .inl hk1
theorem run_cl {f : FnT} (hc : Cok f) : ∀ (k : Nat) (W : WT), Wiv f W → Wcl f W → Wcl f (runW f k W)
  | 0, W, _, h => h
  | k + 1, W, hi, h => by
    show Wcl f (if goesW W = true then runW f k (stepW f W) else W)
    split
    · rename_i hg; exact run_cl hc k _ (step_iv hi hc hg).1 (step_cl hi hc hg h)
    · exact h
theorem run_ends {f : FnT} (hc : Cok f) : ∀ (k : Nat) (W : WT), Wiv f W → muW W ≤ k → goesW (runW f k W) = false
  | 0, W, _, h => by
    have : W.todo.length = 0 := by unfold muW at h; omega
    simp [runW, goesW, this]
  | k + 1, W, hi, h => by
    show goesW (if goesW W = true then runW f k (stepW f W) else W) = false
    split
    · rename_i hg
      obtain ⟨q1, q2⟩ := step_iv hi hc hg
      exact run_ends hc k _ q1 (by omega)
    · rename_i hg; simpa using hg

/-- At the walk's end, if nothing is wrong, each order that is come to is closed. -/
theorem walk_closed {f : FnT} (hc : Cok f) (hb : (walkF f).bad = false) {k : Nat} (hk : (walkF f).seen.getD k false = true) : closed f (walkF f) k ((walkF f).out.getD k []) := by
  obtain ⟨i0, m0⟩ := W0_iv f
  obtain ⟨q1, q2⟩ := come_iv (n := 0) (l := []) i0 (Int.le_refl 0)
  have c0 : Wcl f (comeF f 0 [] (W0 f)) := by
    right; intro k hk
    rcases come_seen (Int.le_refl 0) hk with hk | hk
    · exfalso
      have : (W0 f).seen.getD k false = false := by
        show (List.replicate f.code.length false).getD k false = false
        simp only [List.getD, List.getElem?_replicate]
        split <;> rfl
      rw [this] at hk; cases hk
    · exact .inl hk
  have he := run_ends hc (2 * f.code.length) _ q1 (by omega)
  rcases run_cl hc (2 * f.code.length) _ q1 c0 with h | h
  · have : (walkF f).bad = true := h
    rw [this] at hb; cases hb
  · rcases h k hk with h | h
    · exfalso
      have hg : goesW (walkF f) = false := he
      have hm : (k : Int) ∈ (walkF f).todo := h
      have : 0 < (walkF f).todo.length := List.length_pos_of_mem hm
      simp [goesW, hb] at hg
      rw [hg] at hm; cases hm
    · exact h

end Go.Proofs.YtjbhpoolghfhiaaDoor
