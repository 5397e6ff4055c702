/- What the document's TriesKnown answers is what the walk comes to. No condition: plain lemmas, a contract. -/
import Derived.Test.YtjbhpoolghfhiaaDoorCd42
import Derived.Test.YtjbhpoolghfhiaaDoorCd17
namespace Go.Proofs.YtjbhpoolghfhiaaDoor
set_option linter.unusedVariables false
set_option linter.unusedSimpArgs false
set_option maxHeartbeats 10000000
open Go
set_option maxRecDepth 10000


/-- What was not come to has no tries. -/
def Wun (W : WT) : Prop := ∀ k, W.seen.getD k false = false → W.out.getD k [] = []
theorem come_un {f : FnT} {n : Int} {l : List (Int × Int)} {W : WT} (hi : Wiv f W) (hn : 0 ≤ n) (h : Wun W) : Wun (comeF f n l W) := by
  intro k hk
  unfold comeF at hk ⊢
  split at hk
  · rename_i h1; rw [if_pos h1]; exact h k hk
  · rename_i h1
    rw [if_neg h1]
    split at hk
    · rename_i h2
      rw [if_pos h2]
      by_cases e : n.toNat = k
      · subst e
        have : n.toNat < W.seen.length := by rw [hi.seen]; omega
        rw [getD_set_self this] at hk; cases hk
      · dsimp only at hk ⊢
        rw [getD_set_ne e] at hk ⊢
        exact h k hk
    · rename_i h2
      rw [if_neg h2]
      split at hk
      · rename_i h3; rw [if_pos h3]; exact h k hk
      · rename_i h3; rw [if_neg h3]; exact h k hk
theorem from_un {f : FnT} {n : Int} {W : WT} (hi : Wiv f W) (hc : Cok f) (hn : 0 ≤ n) (h : Wun W) : Wun (fromF f n W) := by
  have hx : f.code.getD n.toNat ins0 = ins0 ∨ f.code.getD n.toNat ins0 ∈ f.code := by
    cases hg : f.code[n.toNat]? with
    | none => left; simp [List.getD, hg]
    | some i => right; simp only [List.getD, hg, Option.getD_some]; exact List.mem_of_getElem? hg
  unfold fromF
  generalize f.code.getD n.toNat ins0 = i at hx
  generalize W.out.getD n.toNat [] = l
  have hA : i.op = 13 ∨ i.op = 14 → 0 ≤ i.a := fun ho => hx.elim (fun h => by rw [h] at ho; rcases ho with ho | ho <;> cases ho) (fun h => hc.a i h ho)
  have hB : i.op = 15 ∨ i.op = 30 → 0 ≤ i.b := fun ho => hx.elim (fun h => by rw [h] at ho; rcases ho with ho | ho <;> cases ho) (fun h => hc.b i h ho)
  dsimp only
  split
  · exact h
  · split
    · rename_i ho; exact come_un hi (hA ho) h
    · split
      · rename_i ho; exact come_un (come_iv hi (hB (.inl ho))).1 (by omega) (come_un hi (hB (.inl ho)) h)
      · split
        · rename_i ho; exact come_un (come_iv hi (hB (.inr ho))).1 (by omega) (come_un hi (hB (.inr ho)) h)
        · split
          · split
            · exact h
            · exact come_un hi (by omega) h
          · exact come_un hi (by omega) h
theorem W0_un (f : FnT) : Wun (W0 f) := fun k _ => by
  simp [W0, List.getD, List.getElem?_replicate]; split <;> rfl
theorem run_un {f : FnT} (hc : Cok f) : ∀ (j : Nat) (W : WT), Wiv f W → Wun W → Wun (runW f j W)
  | 0, W, _, h => h
  | j + 1, W, hi, h => by
    show Wun (if goesW W = true then runW f j (stepW f W) else W)
    split
    · rename_i hg
      have h0 : 0 < W.todo.length := by simp [goesW] at hg; exact hg.1
      obtain ⟨q1, q2, q3, q4⟩ := pop_iv hi h0
      exact run_un hc j _ (step_iv hi hc hg).1 (from_un q1 hc q3 h)
    · exact h
theorem walk_un {f : FnT} (hc : Cok f) : Wun (walkF f) := run_un hc _ _ (walk_start hc).1 (come_un (W0_iv f).1 (Int.le_refl 0) (W0_un f))

/-- The rows of what is known; nil told as no tries. -/
def kn2R (W : WT) : List (List RV) := List.zipWith (fun b l => [RV.v (.bool b), RV.rs 2 ((bif b then l else []).map tryR)]) W.seen W.out
theorem kn2_D (W : WT) : NilD (.rs 2 (knR W)) (.rs 2 (kn2R W)) := by
  refine .rs 2 _ _ (by simp [knR, kn2R]) (fun i row row' h1 h2 => ?_) fun i j row row' x y h1 h2 h3 h4 => ?_
  · simp only [knR, kn2R, List.getElem?_zipWith] at h1 h2
    cases hs : W.seen[i]? <;> cases ho : W.out[i]? <;> simp [hs, ho] at h1 h2
    subst h1; subst h2; rfl
  · simp only [knR, kn2R, List.getElem?_zipWith] at h1 h2
    cases hs : W.seen[i]? <;> cases ho : W.out[i]? <;> simp [hs, ho] at h1 h2
    rename_i b l
    subst h1; subst h2
    match j with
    | 0 => simp at h3 h4; subst h3; subst h4; exact .same _
    | 1 =>
      simp at h3 h4; subst h3; subst h4
      cases b with
      | true => exact .same _
      | false => exact .nil 2
    | j + 2 => simp at h3
theorem known2_c (f : FnT) (hk : Cok f) (hb : (walkF f).bad = false) : FC Cx 27 [fnA f] [] (.tup [.r (.rs 2 (kn2R (docW f))), Bv true]) [] := by
  have h := known_all_c f hk
  rw [docR_ok (by rw [doc_bad hk]; exact hb)] at h
  refine FC_res h fun cur g w N v hv => ?_
  cases hv with
  | tup _ us hs hu =>
    refine .tup _ us hs fun j y u hy hju => ?_
    match j with
    | 0 =>
      simp at hy; subst hy
      have := hu 0 _ u rfl hju
      cases this with | r this => exact .r (RR.nilD (kn2_D _) this)
    | 1 => simp at hy; subst hy; exact hu 1 _ u rfl hju
    | j + 2 => simp at hy

theorem to_iff {f : FnT} {W : WT} (hi : Wiv f W) {k : Nat} (hk : k < f.code.length) {l : List (Int × Int)} : To f W k l ↔ W.seen.getD k false = true ∧ W.out.getD k [] = l := by
  constructor
  · rintro ⟨_, _, _, h4, h5⟩
    exact ⟨by simpa using h4, by simpa using h5⟩
  · rintro ⟨h1, h2⟩
    have := seen_to hi h1
    rwa [h2] at this
theorem doc_iv {f : FnT} (hk : Cok f) (h0 : 0 < f.code.length) : Wiv f (docW f) := know_iv hk _ _ (come_iv (n := 0) (l := []) (W0_iv f).1 (Int.le_refl 0)).1
/-- Row by row, what is known is what the walk has. -/
theorem kn2_at {f : FnT} (hk : Cok f) (hb : (walkF f).bad = false) {k : Nat} (hlt : k < f.code.length) : (kn2R (docW f)).getD k [] = [.v (.bool ((walkF f).seen.getD k false)), .rs 2 (((walkF f).out.getD k []).map tryR)] := by
  have h0 : 0 < f.code.length := by omega
  have d := doc_iv hk h0
  have w := walk_iv hk
  have hT := fun l => (doc_walk hk h0).2 hb k l
  have hT' := fun l => ((to_iff d hlt (l := l)).symm.trans (hT l)).trans (to_iff w hlt)
  have un := walk_un hk
  have h1 : k < (docW f).seen.length := by rw [d.seen]; exact hlt
  have h2 : k < (docW f).out.length := by rw [d.out]; exact hlt
  have e : (kn2R (docW f)).getD k [] = [RV.v (.bool ((docW f).seen.getD k false)), RV.rs 2 ((bif (docW f).seen.getD k false then (docW f).out.getD k [] else []).map tryR)] := by
    simp only [kn2R, List.getD, List.getElem?_zipWith, List.getElem?_eq_getElem h1, List.getElem?_eq_getElem h2, Option.getD_some]
  rw [e]
  cases hs : (walkF f).seen.getD k false with
  | true =>
    obtain ⟨h3, h4⟩ := (hT' _).2 ⟨hs, rfl⟩
    rw [h3, h4]; rfl
  | false =>
    have h3 : (docW f).seen.getD k false = false := by
      cases h3 : (docW f).seen.getD k false with
      | false => rfl
      | true =>
        have := ((hT' _).1 ⟨h3, rfl⟩).1
        rw [hs] at this; cases this
    rw [h3, un k hs]; rfl
theorem kn2_len {f : FnT} (hk : Cok f) (h0 : 0 < f.code.length) : (kn2R (docW f)).length = f.code.length := by
  have d := doc_iv hk h0
  unfold kn2R; rw [List.length_zipWith, d.seen, d.out, Nat.min_self]
theorem walk_pos {f : FnT} (hb : (walkF f).bad = false) : 0 < f.code.length := by
  rcases Nat.eq_zero_or_pos f.code.length with h | h
  · obtain ⟨pa, rg, ge, us, code⟩ := f
    have : code = [] := List.length_eq_zero_iff.1 h
    subst this
    exact absurd hb (by show ¬ (true = false); simp)
  · exact h

theorem known2'_c (pa rg : Int) (ge : Bool) (us vs : List (List RV)) (h : (us = (intsOf us).map intR ∧ vs = (inssOf vs).map insR) ∧ Cok ⟨pa, rg, ge, intsOf us, inssOf vs⟩ ∧ (walkF ⟨pa, rg, ge, intsOf us, inssOf vs⟩).bad = false) : FC Cx 27 [.agg [Iv pa, Iv rg, Bv ge, .r (.rs 1 us), .r (.rs 5 vs)]] [] (.tup [.r (.rs 2 (kn2R (docW ⟨pa, rg, ge, intsOf us, inssOf vs⟩))), Bv true]) [] := by
  have := known2_c ⟨pa, rg, ge, intsOf us, inssOf vs⟩ h.2.1 h.2.2
  rwa [fn_at h.1] at this
/-- How calls of this function are met. -/
def sp_known2' (args : List AV) (K : AV → Prop) : Prop := match args with
  | [.agg [.r (.v (.int .i64 pa)), .r (.v (.int .i64 rg)), .r (.v (.bool ge)), .r (.rs 1 us), .r (.rs 5 vs)]] => ((us = (intsOf us).map intR ∧ vs = (inssOf vs).map insR) ∧ Cok ⟨pa, rg, ge, intsOf us, inssOf vs⟩ ∧ (walkF ⟨pa, rg, ge, intsOf us, inssOf vs⟩).bad = false) ∧ K (.tup [.r (.rs 2 (kn2R (docW ⟨pa, rg, ge, intsOf us, inssOf vs⟩))), Bv true])
  | _ => False
theorem sp_known2'_ok (args : List AV) (K : AV → Prop) (h : sp_known2' args K) : ∃ r, CallOk Cx 27 args r ∧ K r := by
  unfold sp_known2' at h
  split at h
  · exact ⟨_, CallOk_of (known2'_c _ _ _ _ _ h.1) en27 rfl rfl, h.2⟩
  · exact h.elim
noncomputable def ct_known2' : Ct Cx := .pure 27 sp_known2' sp_known2'_ok
@[go_sem] theorem ct_known2'_g : ct_known2'.g = 27 := rfl
@[go_sem] theorem ct_known2'_run (c : Call) (fop : Operand) (caps : List RV) (o : Oper) (st : St) (K : List Loc → List (Loc × Cont) → Prop) : ct_known2'.run c fop caps o st K = callT Cx sp_known2' c fop caps o st K := rfl
@[go_sem] theorem sp_known2'_eq (args : List AV) (K : AV → Prop) : sp_known2' args K = (match args with
    | [.agg [.r (.v (.int .i64 pa)), .r (.v (.int .i64 rg)), .r (.v (.bool ge)), .r (.rs 1 us), .r (.rs 5 vs)]] => ((us = (intsOf us).map intR ∧ vs = (inssOf vs).map insR) ∧ Cok ⟨pa, rg, ge, intsOf us, inssOf vs⟩ ∧ (walkF ⟨pa, rg, ge, intsOf us, inssOf vs⟩).bad = false) ∧ K (.tup [.r (.rs 2 (kn2R (docW ⟨pa, rg, ge, intsOf us, inssOf vs⟩))), Bv true])
    | _ => False) := rfl
theorem fault'_c (xs ys zs : List (List RV)) (h : (xs = (fnsOf xs).map fnR ∧ ys = (valsOf ys).map valR ∧ zs = (strsOf zs).map strR) ∧ Pwf ⟨fnsOf xs, valsOf ys, strsOf zs⟩) : FC Cx 25 [.agg [.r (.rs 5 xs), .r (.rs 2 ys), .r (.rs 1 zs)]] [] (Iv (checkF ⟨fnsOf xs, valsOf ys, strsOf zs⟩)) [] := by
  have := fault_c ⟨fnsOf xs, valsOf ys, strsOf zs⟩ h.2
  rwa [prog_at h.1] at this
/-- How calls of this function are met. -/
def sp_fault' (args : List AV) (K : AV → Prop) : Prop := match args with
  | [.agg [.r (.rs 5 xs), .r (.rs 2 ys), .r (.rs 1 zs)]] => ((xs = (fnsOf xs).map fnR ∧ ys = (valsOf ys).map valR ∧ zs = (strsOf zs).map strR) ∧ Pwf ⟨fnsOf xs, valsOf ys, strsOf zs⟩) ∧ K (Iv (checkF ⟨fnsOf xs, valsOf ys, strsOf zs⟩))
  | _ => False
theorem sp_fault'_ok (args : List AV) (K : AV → Prop) (h : sp_fault' args K) : ∃ r, CallOk Cx 25 args r ∧ K r := by
  unfold sp_fault' at h
  split at h
  · exact ⟨_, CallOk_of (fault'_c _ _ _ h.1) en25 rfl rfl, h.2⟩
  · exact h.elim
noncomputable def ct_fault' : Ct Cx := .pure 25 sp_fault' sp_fault'_ok
@[go_sem] theorem ct_fault'_g : ct_fault'.g = 25 := rfl
@[go_sem] theorem ct_fault'_run (c : Call) (fop : Operand) (caps : List RV) (o : Oper) (st : St) (K : List Loc → List (Loc × Cont) → Prop) : ct_fault'.run c fop caps o st K = callT Cx sp_fault' c fop caps o st K := rfl
@[go_sem] theorem sp_fault'_eq (args : List AV) (K : AV → Prop) : sp_fault' args K = (match args with
    | [.agg [.r (.rs 5 xs), .r (.rs 2 ys), .r (.rs 1 zs)]] => ((xs = (fnsOf xs).map fnR ∧ ys = (valsOf ys).map valR ∧ zs = (strsOf zs).map strR) ∧ Pwf ⟨fnsOf xs, valsOf ys, strsOf zs⟩) ∧ K (Iv (checkF ⟨fnsOf xs, valsOf ys, strsOf zs⟩))
    | _ => False) := rfl

end Go.Proofs.YtjbhpoolghfhiaaDoor
