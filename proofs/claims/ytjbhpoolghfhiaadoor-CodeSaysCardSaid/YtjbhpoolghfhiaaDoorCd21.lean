/- An order that no way leads to: the walk is the same whatever stands there. No condition: plain lemmas. -/
import Derived.Test.YtjbhpoolghfhiaaDoorCd18
namespace Go.Proofs.YtjbhpoolghfhiaaDoor
set_option linter.unusedVariables false
set_option linter.unusedSimpArgs false
set_option maxHeartbeats 10000000
open Go

def endI : InsT := ⟨31, 0, 0, 0, 0⟩
def deadF (f : FnT) (k : Nat) : FnT := ⟨f.params, f.regs, f.gen, f.caught, f.code.set k endI⟩

theorem dead_len (f : FnT) (k : Nat) : (deadF f k).code.length = f.code.length := by simp [deadF]
theorem come_dead (f : FnT) (k : Nat) (n : Int) (l : List (Int × Int)) (W : WT) : comeF (deadF f k) n l W = comeF f n l W := by
  unfold comeF; rw [dead_len]
theorem from_dead (f : FnT) (k : Nat) (n : Int) (W : WT) (h : n.toNat ≠ k) : fromF (deadF f k) n W = fromF f n W := by
  have e : (deadF f k).code.getD n.toNat ins0 = f.code.getD n.toNat ins0 := by
    show (f.code.set k endI).getD n.toNat ins0 = _
    exact getD_set_ne (Ne.symm h)
  unfold fromF
  rw [e]
  simp only [come_dead]

/-- What is to be gone on from was come to. -/
def Wts (W : WT) : Prop := ∀ t ∈ W.todo, W.seen.getD t.toNat false = true
theorem come_ts {f : FnT} {n : Int} {l : List (Int × Int)} {W : WT} (hi : Wiv f W) (hn : 0 ≤ n) (h : Wts W) : Wts (comeF f n l W) := by
  intro t ht
  unfold comeF at ht ⊢
  split at ht
  · rename_i hb; rw [if_pos hb]; exact h t ht
  · rename_i hb
    rw [if_neg hb]
    have h1 := hi.seen
    split at ht
    · rename_i hs
      rw [if_pos hs]
      rcases List.mem_append.1 ht with ht | ht
      · have hne : n.toNat ≠ t.toNat := fun e => by have := h t ht; rw [← e, hs] at this; cases this
        dsimp only; rw [getD_set_ne hne]; exact h t ht
      · simp at ht; subst ht
        exact getD_set_self (by omega)
    · rename_i hs
      rw [if_neg hs]
      split at ht
      · rename_i ho; rw [if_pos ho]; exact h t ht
      · rename_i ho; rw [if_neg ho]; exact h t ht
theorem from_ts {f : FnT} {n : Int} {W : WT} (hi : Wiv f W) (hc : Cok f) (hn : 0 ≤ n) (h : Wts W) : Wts (fromF f n W) := by
  have hx : f.code.getD n.toNat ins0 = ins0 ∨ f.code.getD n.toNat ins0 ∈ f.code := by
    cases hg : f.code[n.toNat]? with
    | none => left; simp [List.getD, hg]
    | some i => right; simp only [List.getD, hg, Option.getD_some]; exact List.mem_of_getElem? hg
  unfold fromF
  generalize f.code.getD n.toNat ins0 = i at hx
  generalize W.out.getD n.toNat [] = l
  have hA : i.op = 13 ∨ i.op = 14 → 0 ≤ i.a := fun ho => hx.elim (fun h => by rw [h] at ho; rcases ho with ho | ho <;> cases ho) (fun h => hc.a i h ho)
  have hB : i.op = 15 ∨ i.op = 30 → 0 ≤ i.b := fun ho => hx.elim (fun h => by rw [h] at ho; rcases ho with ho | ho <;> cases ho) (fun h => hc.b i h ho)
  dsimp only
  split
  · exact h
  · split
    · rename_i ho; exact come_ts hi (hA ho) h
    · split
      · rename_i ho; exact come_ts (come_iv hi (hB (.inl ho))).1 (by omega) (come_ts hi (hB (.inl ho)) h)
      · split
        · rename_i ho; exact come_ts (come_iv hi (hB (.inr ho))).1 (by omega) (come_ts hi (hB (.inr ho)) h)
        · split
          · split
            · exact h
            · exact come_ts hi (by omega) h
          · exact come_ts hi (by omega) h

theorem last_mem {W : WT} (h0 : 0 < W.todo.length) : lastT W ∈ W.todo := by
  unfold lastT
  have hlt : W.todo.length - 1 < W.todo.length := by omega
  simp only [List.getD, List.getElem?_eq_getElem hlt, Option.getD_some]
  exact List.getElem_mem hlt
theorem step_ts {f : FnT} {W : WT} (hi : Wiv f W) (hc : Cok f) (hg : goesW W = true) (h : Wts W) : Wts (stepW f W) := by
  have h0 : 0 < W.todo.length := by simp [goesW] at hg; exact hg.1
  obtain ⟨q1, q2, q3, q4⟩ := pop_iv hi h0
  exact from_ts q1 hc q3 fun t ht => h t (List.mem_of_mem_take ht)

theorem step_seen {f : FnT} {W : WT} (hi : Wiv f W) (hc : Cok f) (hg : goesW W = true) {k : Nat} (h : W.seen.getD k false = true) : (stepW f W).seen.getD k false = true := by
  have h0 : 0 < W.todo.length := by simp [goesW] at hg; exact hg.1
  obtain ⟨q1, q2, q3, q4⟩ := pop_iv hi h0
  exact ((from_fr q1 hc q3).keeps _ _ (seen_to q1 h)).seen
theorem run_seen {f : FnT} (hc : Cok f) {k : Nat} : ∀ (j : Nat) (W : WT), Wiv f W → W.seen.getD k false = true → (runW f j W).seen.getD k false = true
  | 0, W, _, h => h
  | j + 1, W, hi, h => by
    show (if goesW W = true then runW f j (stepW f W) else W).seen.getD k false = true
    split
    · rename_i hg; exact run_seen hc j _ (step_iv hi hc hg).1 (step_seen hi hc hg h)
    · exact h

theorem run_dead {f : FnT} (hc : Cok f) {k : Nat} : ∀ (j : Nat) (W : WT), Wiv f W → Wts W → (runW f j W).seen.getD k false = false → runW (deadF f k) j W = runW f j W
  | 0, W, _, _, _ => rfl
  | j + 1, W, hi, ht, hs => by
    show (if goesW W = true then runW (deadF f k) j (stepW (deadF f k) W) else W) = if goesW W = true then runW f j (stepW f W) else W
    have hs' : (if goesW W = true then runW f j (stepW f W) else W).seen.getD k false = false := hs
    by_cases hg : goesW W = true
    · rw [if_pos hg] at hs' ⊢
      rw [if_pos hg]
      have h0 : 0 < W.todo.length := by simp [goesW] at hg; exact hg.1
      obtain ⟨q1, q2⟩ := step_iv hi hc hg
      have hne : (lastT W).toNat ≠ k := fun e => by
        have h1 := ht _ (last_mem h0)
        rw [e] at h1
        have := run_seen hc j _ q1 (step_seen hi hc hg h1)
        rw [hs'] at this; cases this
      have he : stepW (deadF f k) W = stepW f W := from_dead f k _ _ hne
      rw [he]
      exact run_dead hc j _ q1 (step_ts hi hc hg ht) hs'
    · rw [if_neg hg, if_neg hg]
theorem walk_dead {f : FnT} (hc : Cok f) {k : Nat} (hs : (walkF f).seen.getD k false = false) : walkF (deadF f k) = walkF f := by
  have e0 : W0 (deadF f k) = W0 f := by unfold W0; rw [dead_len]
  unfold walkF
  rw [e0, dead_len, come_dead]
  refine run_dead hc _ _ (walk_start hc).1 (come_ts (W0_iv f).1 (Int.le_refl 0) fun t ht => ?_) hs
  cases ht

theorem end_right (p : ProgT) (f : FnT) (n : Int) : orderF p f n endI = true := by
  unfold orderF orderN namesF
  rfl

section
variable {f0 : FnT} {rest : List FnT} {cs : List (Int × Int)} {ts : List ByteArray} {k : Nat}

theorem dead_caught (b : Int) : ((deadF f0 k :: rest).getD b.toNat fn0).caught = ((f0 :: rest).getD b.toNat fn0).caught := by
  cases b.toNat <;> rfl
theorem dead_names (f : FnT) (c n : Int) : namesF ⟨deadF f0 k :: rest, cs, ts⟩ f c n = namesF ⟨f0 :: rest, cs, ts⟩ f c n := rfl
theorem dead_names' (p : ProgT) (c n : Int) : namesF p (deadF f0 k) c n = namesF p f0 c n := by
  unfold namesF; rw [dead_len]; rfl
theorem dead_order (f : FnT) (n : Int) (i : InsT) : orderF ⟨deadF f0 k :: rest, cs, ts⟩ f n i = orderF ⟨f0 :: rest, cs, ts⟩ f n i := by
  have e : caughtF f ((deadF f0 k :: rest).getD i.b.toNat fn0) = caughtF f ((f0 :: rest).getD i.b.toNat fn0) := by unfold caughtF; rw [dead_caught]
  unfold orderF orderN
  simp only [dead_names, e]
theorem dead_order' (p : ProgT) (n : Int) (i : InsT) : orderF p (deadF f0 k) n i = orderF p f0 n i := by
  unfold orderF orderN
  simp only [dead_names']
  rfl
theorem dead_orders (f : FnT) : ordersF ⟨deadF f0 k :: rest, cs, ts⟩ f = ordersF ⟨f0 :: rest, cs, ts⟩ f := by
  unfold ordersF; simp only [dead_order]
theorem dead_orders' (p : ProgT) (h : ordersF p f0 = true) : ordersF p (deadF f0 k) = true := by
  unfold ordersF at h ⊢
  rw [dead_len]
  refine List.all_eq_true.2 fun j hj => ?_
  have h1 := List.all_eq_true.1 h j hj
  rw [dead_order']
  by_cases e : k = j
  · subst e
    have : (deadF f0 k).code.getD k ins0 = endI := getD_set_self (List.mem_range.1 hj)
    rw [this]; exact end_right _ _ _
  · have : (deadF f0 k).code.getD j ins0 = f0.code.getD j ins0 := getD_set_ne e
    rw [this]; exact h1

/-- With another order where no way leads to a program is as right as it was. -/
theorem check_dead (hw : Pwf ⟨f0 :: rest, cs, ts⟩) (hc : checkF ⟨f0 :: rest, cs, ts⟩ = 0) (hs : (walkF f0).seen.getD k false = false) : checkF ⟨deadF f0 k :: rest, cs, ts⟩ = 0 := by
  obtain ⟨hp, hf, hcok, hb⟩ := check_fn hw hc (List.mem_cons_self ..)
  unfold checkF at hc ⊢
  have eL : largeF ⟨deadF f0 k :: rest, cs, ts⟩ = largeF ⟨f0 :: rest, cs, ts⟩ := by
    unfold largeF
    simp only [List.length_cons, List.any_cons]
    have : bigF (deadF f0 k) = bigF f0 := by unfold bigF; rw [dead_len]; rfl
    rw [this]
  have eT : tablesF ⟨deadF f0 k :: rest, cs, ts⟩ = tablesF ⟨f0 :: rest, cs, ts⟩ := rfl
  have e1 : firstF ⟨deadF f0 k :: rest, cs, ts⟩ = firstF ⟨f0 :: rest, cs, ts⟩ := rfl
  rw [eL, eT, e1]
  split at hc
  · cases hc
  · rename_i h1
    rw [if_neg h1]
    split at hc
    · cases hc
    · rename_i h2
      rw [if_neg h2]
      split at hc
      · cases hc
      · rename_i h3
        rw [if_neg h3]
        split at hc
        · cases hc
        · rename_i h4
          refine if_neg fun h5 => h4 ?_
          obtain ⟨f, hm, hn⟩ := List.any_eq_true.1 h5
          rcases List.mem_cons.1 hm with rfl | hm
          · exfalso
            have : functionF ⟨deadF f0 k :: rest, cs, ts⟩ (deadF f0 k) = true := by
              unfold functionF at hf ⊢
              split at hf
              · cases hf
              · rename_i q1
                rw [if_neg (show ¬ ((deadF f0 k).params < 0 ∨ (deadF f0 k).regs < 1 ∨ (deadF f0 k).regs < (deadF f0 k).params) from q1)]
                split at hf
                · cases hf
                · rename_i q2
                  have h6 : ordersF ⟨deadF f0 k :: rest, cs, ts⟩ (deadF f0 k) = true := dead_orders' _ (by rw [dead_orders]; simpa using q2)
                  rw [if_neg (by rw [h6]; simp), walk_dead hcok hs]
                  exact hf
            rw [this] at hn; cases hn
          · refine List.any_eq_true.2 ⟨f, List.mem_cons_of_mem _ hm, ?_⟩
            rw [← hn]
            unfold functionF
            rw [dead_orders]

end

end Go.Proofs.YtjbhpoolghfhiaaDoor
