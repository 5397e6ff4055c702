/- The walk through all orders, told plainly: it comes to an end; going on, as its caller meets it. No condition: plain lemmas, a contract. -/
import Derived.Test.YtjbhpoolghfhiaaDoorCd9
namespace Go.Proofs.YtjbhpoolghfhiaaDoor
set_option linter.unusedVariables false
set_option linter.unusedSimpArgs false
set_option maxHeartbeats 10000000
open Go
set_option maxRecDepth 10000



def cntF : List Bool → Nat
  | [] => 0
  | b :: l => (if b = true then 0 else 1) + cntF l
theorem cntF_set : ∀ {l : List Bool} {k : Nat}, l[k]? = some false → cntF (l.set k true) + 1 = cntF l
  | b :: l, 0, h => by simp at h; subst h; simp [cntF]; omega
  | b :: l, k + 1, h => by
    have := cntF_set (l := l) (k := k) (by simpa using h)
    simp only [List.set_cons_succ, cntF]; omega
theorem cntF_rep : ∀ n : Nat, cntF (List.replicate n false) = n
  | 0 => rfl
  | n + 1 => by simp only [List.replicate_succ, cntF, cntF_rep n]; simp; omega
def muW (W : WT) : Nat := 2 * cntF W.seen + W.todo.length

structure Cok (f : FnT) : Prop where
  len : f.code.length ≤ 600
  a : ∀ i ∈ f.code, i.op = 13 ∨ i.op = 14 → 0 ≤ i.a
  b : ∀ i ∈ f.code, i.op = 15 ∨ i.op = 30 → 0 ≤ i.b

/-- What is always so on the walk. -/
structure Wiv (f : FnT) (W : WT) : Prop where
  seen : W.seen.length = f.code.length
  out : W.out.length = f.code.length
  todo : W.todo.length + cntF W.seen ≤ f.code.length
  inr : ∀ t ∈ W.todo, 0 ≤ t ∧ t < f.code.length
  outs : ∀ x ∈ W.out, x.length ≤ 20

theorem Wiv.ok {f : FnT} {W : WT} (h : Wiv f W) (hc : f.code.length ≤ 600) : Wok f W := ⟨hc, h.seen, h.out, by have := h.todo; omega, fun x hx => by have := h.outs x hx; omega⟩

theorem come_iv {f : FnT} {n : Int} {l : List (Int × Int)} {W : WT} (h : Wiv f W) (hn : 0 ≤ n) : Wiv f (comeF f n l W) ∧ muW (comeF f n l W) ≤ muW W := by
  obtain ⟨h1, h2, h3, h4, h5⟩ := h
  unfold comeF
  split
  · exact ⟨⟨h1, h2, h3, h4, h5⟩, Nat.le_refl _⟩
  · rename_i hb
    split
    · rename_i hs
      have hk : n.toNat < W.seen.length := by omega
      have hs' : W.seen[n.toNat]? = some false := by
        rw [List.getElem?_eq_getElem hk]
        have : W.seen.getD n.toNat false = W.seen[n.toNat] := by simp [List.getD, List.getElem?_eq_getElem hk]
        rw [← this, hs]
      have hc := cntF_set hs'
      refine ⟨⟨by simpa using h1, by simpa using h2, ?_, ?_, ?_⟩, ?_⟩
      · simp only [List.length_append, List.length_singleton]; omega
      · intro t ht
        rcases List.mem_append.1 ht with ht | ht
        · exact h4 t ht
        · simp at ht; subst ht; omega
      · intro x hx
        rcases List.mem_or_eq_of_mem_set hx with hx | rfl
        · exact h5 x hx
        · omega
      · simp only [muW, List.length_append, List.length_singleton]; omega
    · split
      · exact ⟨⟨h1, h2, h3, h4, h5⟩, Nat.le_refl _⟩
      · exact ⟨⟨h1, h2, h3, h4, h5⟩, Nat.le_refl _⟩

theorem from_iv {f : FnT} {n : Int} {W : WT} (h : Wiv f W) (hc : Cok f) (hn : 0 ≤ n) : Wiv f (fromF f n W) ∧ muW (fromF f n W) ≤ muW W := by
  have hi : f.code.getD n.toNat ins0 = ins0 ∨ f.code.getD n.toNat ins0 ∈ f.code := by
    cases hg : f.code[n.toNat]? with
    | none => left; simp [List.getD, hg]
    | some i => right; simp only [List.getD, hg, Option.getD_some]; exact List.mem_of_getElem? hg
  unfold fromF
  generalize f.code.getD n.toNat ins0 = i at hi
  generalize W.out.getD n.toNat [] = l
  have hA : i.op = 13 ∨ i.op = 14 → 0 ≤ i.a := fun ho => hi.elim (fun h => by rw [h] at ho; rcases ho with ho | ho <;> cases ho) (fun h => hc.a i h ho)
  have hB : i.op = 15 ∨ i.op = 30 → 0 ≤ i.b := fun ho => hi.elim (fun h => by rw [h] at ho; rcases ho with ho | ho <;> cases ho) (fun h => hc.b i h ho)
  dsimp only
  split
  · exact ⟨h, Nat.le_refl _⟩
  · split
    · rename_i ho; exact come_iv h (hA ho)
    · split
      · rename_i ho
        obtain ⟨q1, q2⟩ := come_iv (n := i.b) (l := l) h (hB (.inl ho))
        obtain ⟨q3, q4⟩ := come_iv (n := n + 1) (l := l) q1 (by omega)
        exact ⟨q3, by omega⟩
      · split
        · rename_i ho
          obtain ⟨q1, q2⟩ := come_iv (n := i.b) (l := l) h (hB (.inr ho))
          obtain ⟨q3, q4⟩ := come_iv (n := n + 1) (l := l ++ [(i.a, i.b)]) q1 (by omega)
          exact ⟨q3, by omega⟩
        · split
          · split
            · exact ⟨⟨h.seen, h.out, h.todo, h.inr, h.outs⟩, Nat.le_refl _⟩
            · exact come_iv h (by omega)
          · exact come_iv h (by omega)

/-- The order that is gone on from next. -/
def lastT (W : WT) : Int := W.todo.getD (W.todo.length - 1) 0
def popW (W : WT) : WT := { W with todo := W.todo.take (W.todo.length - 1) }
def stepW (f : FnT) (W : WT) : WT := fromF f (lastT W) (popW W)
def goesW (W : WT) : Bool := decide (0 < W.todo.length) && !W.bad
def runW (f : FnT) : Nat → WT → WT
  | 0, W => W
  | k + 1, W => if goesW W = true then runW f k (stepW f W) else W
def W0 (f : FnT) : WT := ⟨List.replicate f.code.length false, List.replicate f.code.length [], [], false⟩
/-- What the walk ends with. -/
def walkF (f : FnT) : WT := runW f (2 * f.code.length) (comeF f 0 [] (W0 f))

theorem pop_iv {f : FnT} {W : WT} (h : Wiv f W) (h0 : 0 < W.todo.length) : Wiv f (popW W) ∧ muW (popW W) + 1 = muW W ∧ 0 ≤ lastT W ∧ lastT W < f.code.length := by
  have hm : lastT W ∈ W.todo := by
    unfold lastT
    have hlt : W.todo.length - 1 < W.todo.length := by omega
    simp only [List.getD, List.getElem?_eq_getElem hlt, Option.getD_some]
    exact List.getElem_mem hlt
  refine ⟨⟨h.seen, h.out, ?_, fun t ht => h.inr t (List.mem_of_mem_take ht), h.outs⟩, ?_, (h.inr _ hm).1, (h.inr _ hm).2⟩
  · have := h.todo
    simp only [popW, List.length_take]; omega
  · simp only [popW, muW, List.length_take]; omega

theorem step_iv {f : FnT} {W : WT} (h : Wiv f W) (hc : Cok f) (hg : goesW W = true) : Wiv f (stepW f W) ∧ muW (stepW f W) < muW W := by
  have h0 : 0 < W.todo.length := by simp [goesW] at hg; exact hg.1
  obtain ⟨q1, q2, q3, q4⟩ := pop_iv h h0
  obtain ⟨q5, q6⟩ := from_iv (n := lastT W) q1 hc q3
  exact ⟨q5, by unfold stepW; omega⟩

theorem runW_more {f : FnT} (hc : Cok f) : ∀ (k : Nat) (W : WT), Wiv f W → muW W ≤ k → runW f (k + 1) W = runW f k W
  | 0, W, _, hm => by
    have : goesW W = false := by
      have : W.todo.length = 0 := by unfold muW at hm; omega
      simp [goesW, this]
    simp [runW, this]
  | k + 1, W, hi, hm => by
    by_cases hg : goesW W = true
    · obtain ⟨q1, q2⟩ := step_iv hi hc hg
      have := runW_more hc k (stepW f W) q1 (by omega)
      show (if goesW W = true then runW f (k + 1) (stepW f W) else W) = if goesW W = true then runW f k (stepW f W) else W
      rw [if_pos hg, if_pos hg, this]
    · show (if goesW W = true then runW f (k + 1) (stepW f W) else W) = if goesW W = true then runW f k (stepW f W) else W
      rw [if_neg hg, if_neg hg]
theorem runW_stays {f : FnT} (hc : Cok f) {W : WT} (hi : Wiv f W) : ∀ (j : Nat), runW f (muW W + j) W = runW f (muW W) W
  | 0 => rfl
  | j + 1 => by rw [← runW_stays hc hi j]; exact runW_more hc _ W hi (Nat.le_add_right _ _)
theorem runW_at {f : FnT} (hc : Cok f) {W : WT} (hi : Wiv f W) {k : Nat} (h : muW W ≤ k) : runW f k W = runW f (muW W) W := by
  have := runW_stays hc hi (k - muW W)
  rwa [show muW W + (k - muW W) = k by omega] at this

theorem W0_iv (f : FnT) : Wiv f (W0 f) ∧ muW (W0 f) = 2 * f.code.length := by
  refine ⟨⟨by simp [W0], by simp [W0], by simp [W0, cntF_rep], fun t ht => by simp [W0] at ht, fun x hx => ?_⟩, by simp [muW, W0, cntF_rep]⟩
  have := List.eq_of_mem_replicate hx
  subst this; simp
theorem walk_start {f : FnT} (hc : Cok f) : Wiv f (comeF f 0 [] (W0 f)) ∧ runW f (muW (comeF f 0 [] (W0 f))) (comeF f 0 [] (W0 f)) = walkF f := by
  obtain ⟨q1, q2⟩ := come_iv (n := 0) (l := []) (W0_iv f).1 (Int.le_refl 0)
  refine ⟨q1, ?_⟩
  have := (W0_iv f).2
  exact (runW_at hc q1 (by omega)).symm
theorem walk_step {f : FnT} (hc : Cok f) {W : WT} (hi : Wiv f W) (hg : goesW W = true) (h : runW f (muW W) W = walkF f) : runW f (muW (stepW f W)) (stepW f W) = walkF f := by
  obtain ⟨q1, q2⟩ := step_iv hi hc hg
  rw [← h]
  have : runW f (muW W) W = runW f (muW W - 1 + 1) W := by rw [show muW W - 1 + 1 = muW W by omega]
  rw [this]
  show _ = if goesW W = true then runW f (muW W - 1) (stepW f W) else W
  rw [if_pos hg]
  exact (runW_at hc q1 (by omega)).symm
theorem walk_end {f : FnT} {W : WT} (hg : goesW W = false) (h : runW f (muW W) W = walkF f) : W = walkF f := by
  rw [← h]
  cases muW W with
  | zero => rfl
  | succ k => show W = if goesW W = true then _ else W; rw [if_neg (by rw [hg]; simp)]

structure Wpre (f : FnT) (n : Int) (W : WT) : Prop where
  lo : 0 ≤ n
  hi : n < f.code.length
  code : Cok f
  iv : Wiv f W

def sp_from (st : St) (_ : Nat) (args : List AV) (K : AV → List Loc → List (Loc × Cont) → Prop) : Prop := match args with
  | [a, .r (.v (.int .i64 n))] => spW (fun F W => Wpre F n W) (fun F W => fromF F n W) 2 st a (K (.tup []))
  | _ => False
theorem sp_from_ok (st : St) (d : Nat) (args : List AV) (K : AV → List Loc → List (Loc × Cont) → Prop) (h : sp_from st d args K) : ∃ r ls outs, CallR Cx 61 st args r ls outs ∧ K r ls outs := by
  unfold sp_from at h
  split at h
  · rename_i a n
    obtain ⟨ls, outs, h1, h2⟩ := spW_ok (f := 61) (args := [Iv n]) (fun F W hp => by
      obtain ⟨p1, p2, p3, p4⟩ := hp
      obtain ⟨k, rfl⟩ : ∃ k : Nat, n = k := ⟨n.toNat, by omega⟩
      have hi : F.code[k]? = some (F.code[k]'(by omega)) := List.getElem?_eq_getElem (by omega)
      have hm := List.mem_of_getElem? hi
      have := p4.todo
      have := p3.len
      refine from_c F k W (p4.ok p3.len) (by omega) _ hi (p3.a _ hm) (p3.b _ hm) ?_
      cases ho : W.out[k]? with
      | none => simp [List.getD, ho]
      | some x => simp only [List.getD, ho, Option.getD_some]; exact p4.outs x (List.mem_of_getElem? ho)) rfl h
    exact ⟨_, ls, outs, h1, h2⟩
  · exact h.elim
noncomputable def ct_from : Ct Cx := .res 61 sp_from en61 sp_from_ok
@[go_sem] theorem ct_from_g : ct_from.g = 61 := rfl
@[go_sem] theorem ct_from_run (c : Call) (fop : Operand) (caps : List RV) (o : Oper) (st : St) (K : List Loc → List (Loc × Cont) → Prop) : ct_from.run c fop caps o st K = callG sp_from c fop caps o st K := rfl
attribute [go_sem] sp_from

end Go.Proofs.YtjbhpoolghfhiaaDoor
