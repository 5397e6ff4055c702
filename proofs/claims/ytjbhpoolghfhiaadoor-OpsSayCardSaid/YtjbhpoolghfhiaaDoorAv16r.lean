/- Calls that are handed resources, or that hand some back. No condition: plain lemmas. -/
import Derived.Test.YtjbhpoolghfhiaaDoorAv16
namespace Go.Proofs.YtjbhpoolghfhiaaDoor
set_option linter.unusedVariables false
set_option linter.unusedSimpArgs false
set_option maxHeartbeats 10000000
open Go

/-- The version that a resource has behind a call. -/
def backV (δ : Nat → Nat) (σ : Nat → Nat) (rs1 : List (Nat × Nat × Res)) (st : St) (k : Nat) : Nat := if domR rs1 k = true then (lookR k rs1).1 + δ k else st.cur (σ k) + 1

/-- The resources behind a call. -/
def backR (σ δ : Nat → Nat) (rs1 : List (Nat × Nat × Res)) (st : St) : List Nat → List (Nat × Nat × Res) → List (Nat × Nat × Res)
  | [], rs => rs
  | k :: l, rs => backR σ δ rs1 st l (putR (σ k) (backV δ σ rs1 st k, renRes σ δ (lookR k rs1).2) rs)

theorem backR_no {σ δ : Nat → Nat} {rs1 : List (Nat × Nat × Res)} {st : St} {j : Nat} : ∀ {l : List Nat} {rs : List (Nat × Nat × Res)}, (∀ k ∈ l, σ k ≠ j) → lookR j (backR σ δ rs1 st l rs) = lookR j rs
  | [], rs, _ => rfl
  | k :: l, rs, h => by
    unfold backR
    rw [backR_no (fun k hk => h k (List.mem_cons_of_mem _ hk)), lookR_put, if_neg]
    exact fun he => h k (List.mem_cons_self ..) he.symm

theorem backR_yes {σ δ : Nat → Nat} {rs1 : List (Nat × Nat × Res)} {st : St} : ∀ {l : List Nat} {rs : List (Nat × Nat × Res)}, (∀ j ∈ l, ∀ k ∈ l, σ j = σ k → j = k) → ∀ k ∈ l, lookR (σ k) (backR σ δ rs1 st l rs) = (backV δ σ rs1 st k, renRes σ δ (lookR k rs1).2)
  | [], rs, _, k, hk => by simp at hk
  | i :: l, rs, h, k, hk => by
    unfold backR
    by_cases hkl : k ∈ l
    · exact backR_yes (fun a ha b hb => h a (List.mem_cons_of_mem _ ha) b (List.mem_cons_of_mem _ hb)) k hkl
    · have hki : k = i := by rcases List.mem_cons.1 hk with h1 | h1; exact h1; exact absurd h1 hkl
      subst hki
      rw [backR_no (fun j hj he => hkl (by rw [h k (List.mem_cons_self ..) j (List.mem_cons_of_mem _ hj) he.symm]; exact hj)), lookR_put, if_pos rfl]

theorem upd_back {σ δ : Nat → Nat} {rs1 : List (Nat × Nat × Res)} {st0 : St} : ∀ {l : List Nat} {st : St}, st.upd (l.map fun k => (.R (σ k), .s (backV δ σ rs1 st0 k) (renRes σ δ (lookR k rs1).2))) = { st with rs := backR σ δ rs1 st0 l st.rs }
  | [], st => rfl
  | k :: l, st => by
    simp only [List.map_cons, St.upd, backR]
    rw [upd_back (l := l)]
    rfl

theorem upd_app : ∀ {l l' : List (Loc × Cont)} {st : St}, st.upd (l ++ l') = (st.upd l).upd l'
  | [], l', st => rfl
  | (x, c) :: l, l', st => by simp only [List.cons_append, St.upd]; exact upd_app

theorem blk_ren {st st' : St} {g g' : Gh} {j k : Nat} {σ δ : Nat → Nat} (h : (lookR j st.rs).2 = renRes σ δ (lookR k st'.rs).2) (hg : g j = g' k) : blk st g j = blk st' g' k := by
  simp only [blk, h, hg]
  cases (lookR k st'.rs).2 <;> rfl

open Classical in
/-- A call that is handed resources, and hands some back. -/
theorem call_res {C : Ctx} {f : Nat} {args : List AV} {rs0 rs1 : List (Nat × Nat × Res)} {r : AV} (hfc : FC C f args rs0 r rs1) {e : Env} {st : St} {g : Gh} {a : Act} {w : World} (hok : e.ok C) (hs : SR C e st g a w) (hG : C.G w) (hgs : C.gs ≤ w.heap.size)
    (σ δ : Nat → Nat) (ks : List Nat) (hks0 : ∀ k, domR rs0 k = true → k ∈ ks) (hks1 : ∀ k, domR rs1 k = true → k ∈ ks) (hinj : ∀ j ∈ ks, ∀ k ∈ ks, σ j = σ k → j = k)
    (hin0 : ∀ k, withinRes (domR rs0) (lookR k rs0).2) (h0 : ∀ k, domR rs0 k = true → lookR (σ k) st.rs = ((lookR k rs0).1 + δ k, renRes σ δ (lookR k rs0).2))
    (h1 : ∀ k ∈ ks, domR rs0 k = false → domR rs1 k = true → st.cur (σ k) < (lookR k rs1).1 + δ k) (hin1 : ∀ k, withinRes (domR rs1) (lookR k rs1).2) (hr : within (domR rs1) r = true)
    {vs : Array Value} (hvs : PW st.cur g w (e.N st g) (renL σ δ args) vs) (hargs : withinL (domR rs0) args = true) :
    Calls C.P f vs w fun x w' => ∃ v g2, x = .returned v ∧ SR C e { st with rs := backR σ δ rs1 st ks st.rs } g2 a w' ∧
      AR ({ st with rs := backR σ δ rs1 st ks st.rs } : St).cur g2 w' (e.N { st with rs := backR σ δ rs1 st ks st.rs } g2) (ren σ δ r) v := by
  let g1 : Gh := fun k => g (σ k)
  let e1 : Env := ⟨w, fun b => ∃ k, domR rs0 k = true ∧ blk st g (σ k) = some b, fun b => e.av0 b ∨ ∃ j, (∀ k, domR rs0 k = true → σ k ≠ j) ∧ blk st g j = some b, (stR rs0).cur, g1⟩
  have hb1 : ∀ k, domR rs0 k = true → blk st g (σ k) = blk (stR rs0) g1 k := fun k hk => blk_ren (σ := σ) (δ := δ) (by rw [h0 k hk]) rfl
  have hd0 : ∀ k b, blk (stR rs0) g1 k = some b → domR rs0 k = true := fun k b hb => domR_of (fun hc => by simp [blk, hc] at hb)
  have hN1 : ∀ b, e1.N (stR rs0) g1 b → e.N st g b := by
    rintro b ((h | ⟨j, _, hj⟩) | ⟨k, hk⟩)
    · exact .inl h
    · exact .inr ⟨j, hj⟩
    · exact .inr ⟨σ k, by rw [hb1 k (hd0 k b hk)]; exact hk⟩
  have hun : ∀ x v, within (domR rs0) x = true → AR st.cur g w (e.N st g) (ren σ δ x) v → AR (stR rs0).cur g1 w (e1.N (stR rs0) g1) x v := fun x v hw hv =>
    AR.unren (Nat.le_refl _) (fun b _ hn => ⟨rfl, fun h => hn (hN1 b h)⟩) (fun k hk => ⟨by simp only [St.cur]; rw [h0 k hk], rfl⟩) hv rfl hw
  have hs1 : SR C e1 (stR rs0) g1 act0 w := by
    refine ⟨rfl, rfl, fun d => .any _, fun k => ?_, fun k k' b hk hk' => ?_, fun k b hk => ?_, ⟨rfl, rfl, rfl, Nat.le_refl _, fun b _ hn => ⟨rfl, fun ⟨k, hk⟩ => hn ⟨k, hd0 k b hk, by rw [hb1 k (hd0 k b hk)]; exact hk⟩⟩⟩, fun _ => .inr ⟨rfl, rfl⟩⟩
    · by_cases hk : domR rs0 k = true
      · have q := hs.res (σ k)
        have hin := hin0 k
        rw [h0 k hk] at q
        revert q hin
        show ResR _ _ _ _ _ (renRes σ δ (lookR k rs0).2) → _ → ResR _ _ _ _ _ (lookR k rs0).2
        cases (lookR k rs0).2 with
        | gone => intro _ _; trivial
        | bx cells =>
          rintro ⟨b, C', el, q1, q2, q3, q4⟩ hin
          exact ⟨b, C', el, q1, q2, by rw [renL_len] at q3; exact q3, fun j x y hj hy => hun _ _ (withinL_get hin j x hj) (q4 j _ y (by rw [renL_get, hj]; rfl) hy)⟩
        | sl el sz rows =>
          rintro ⟨xs, q1, q2, q3⟩ hin
          refine ⟨xs, by rw [List.length_map] at q1; exact q1, fun row hrow => ?_, fun i j row x y hi hj hy => ?_⟩
          · have := q2 (renL σ δ row) (List.mem_map.2 ⟨row, hrow, rfl⟩)
            rwa [renL_len] at this
          · exact hun _ _ (withinL_get (hin row (List.mem_of_getElem? hi)) j x hj) (q3 i j (renL σ δ row) _ y (by rw [List.getElem?_map, hi]; rfl) (by rw [renL_get, hj]; rfl) hy)
        | mp f n => intro q _; exact q
      · show ResR _ _ _ _ _ (lookR k rs0).2
        rw [domR_no hk]; trivial
    · have d1 := hd0 k b hk
      have d2 := hd0 k' b hk'
      rw [← hb1 k d1] at hk
      rw [← hb1 k' d2] at hk'
      exact hinj k (hks0 k d1) k' (hks0 k' d2) (hs.uniq _ _ b hk hk')
    · have d1 := hd0 k b hk
      rw [← hb1 k d1] at hk
      obtain ⟨q1, q2, q3⟩ := hs.low _ b hk
      exact ⟨q1, q2, fun hav => hav.elim q3 fun ⟨j, hne, hj⟩ => hne k d1 (hs.uniq _ _ b hk hj)⟩
  have hok1 : e1.ok C := ⟨hG, hgs, fun b ⟨k, _, hk⟩ => ⟨(hs.low _ b hk).1, (hs.low _ b hk).2.1⟩, fun b hb => hb.elim (fun h => by have := hok.av b h; have := hs.ext.size; exact Nat.lt_of_lt_of_le ‹b < _› this) fun ⟨j, _, hj⟩ => (hs.low j b hj).2.1⟩
  refine (hfc.run e1 g1 w vs hok1 hs1 ⟨by have := hvs.1; rw [renL_len] at this; exact this, fun j x y hx hy => hun _ _ (withinL_get hargs j x hx) (hvs.2 j _ y (by rw [renL_get, hx]; rfl) hy)⟩).mono ?_
  rintro x w' ⟨v, g', rfl, hs', hv, hh⟩
  let g2 : Gh := fun j => if h : ∃ k, k ∈ ks ∧ σ k = j then g' (Classical.choose h) else g j
  have G1 : ∀ k ∈ ks, g2 (σ k) = g' k := fun k hk => by
    have h : ∃ k', k' ∈ ks ∧ σ k' = σ k := ⟨k, hk, rfl⟩
    show (if h : ∃ k', k' ∈ ks ∧ σ k' = σ k then g' (Classical.choose h) else g (σ k)) = g' k
    rw [dif_pos h]
    obtain ⟨h2, h3⟩ := Classical.choose_spec h
    rw [hinj _ h2 _ hk h3]
  have G2 : ∀ j, (∀ k ∈ ks, σ k ≠ j) → g2 j = g j := fun j hj => by
    show (if h : ∃ k', k' ∈ ks ∧ σ k' = j then g' (Classical.choose h) else g j) = g j
    rw [dif_neg]
    rintro ⟨k, hk, he⟩
    exact hj k hk he
  generalize hst2 : ({ st with rs := backR σ δ rs1 st ks st.rs } : St) = st2
  have L1 : ∀ k ∈ ks, lookR (σ k) st2.rs = (backV δ σ rs1 st k, renRes σ δ (lookR k rs1).2) := fun k hk => by rw [← hst2]; exact backR_yes hinj k hk
  have L2 : ∀ j, (∀ k ∈ ks, σ k ≠ j) → lookR j st2.rs = lookR j st.rs := fun j hj => by rw [← hst2]; exact backR_no hj
  have hd1 : ∀ k b, blk (stR rs1) g' k = some b → domR rs1 k = true := fun k b hb => domR_of (fun hc => by simp [blk, hc] at hb)
  have B1 : ∀ k ∈ ks, blk st2 g2 (σ k) = blk (stR rs1) g' k := fun k hk => blk_ren (σ := σ) (δ := δ) (by rw [L1 k hk]) (G1 k hk)
  have B2 : ∀ j, (∀ k ∈ ks, σ k ≠ j) → blk st2 g2 j = blk st g j := fun j hj => blk_of (by rw [L2 j hj]) (G2 j hj)
  have two : ∀ j, (∃ k ∈ ks, σ k = j) ∨ ∀ k ∈ ks, σ k ≠ j := fun j => by
    by_cases h : ∃ k ∈ ks, σ k = j
    · exact .inl h
    · exact .inr fun k hk he => h ⟨k, hk, he⟩
  have oth : ∀ j, (∀ k ∈ ks, σ k ≠ j) → ∀ b, blk st g j = some b → e1.av0 b := fun j hj b hb => .inr ⟨j, fun k hk => hj k (hks0 k hk), hb⟩
  have hcur : ∀ j, st.cur j < st2.cur j ∨ st.cur j = st2.cur j ∧ g j = g2 j := fun j => by
    rcases two j with ⟨k, hk, rfl⟩ | hj
    · have hv2 : st2.cur (σ k) = backV δ σ rs1 st k := by simp only [St.cur]; rw [L1 k hk]
      rw [hv2]
      unfold backV
      by_cases d1 : domR rs1 k = true
      · rw [if_pos d1]
        by_cases d0 : domR rs0 k = true
        · have hc0 : st.cur (σ k) = (lookR k rs0).1 + δ k := by simp only [St.cur]; rw [h0 k d0]
          rw [hc0]
          rcases hh k d1 with h2 | ⟨h2, h3⟩
          · left; have : (lookR k rs0).1 < (lookR k rs1).1 := h2; omega
          · right
            refine ⟨by have : (lookR k rs0).1 = (lookR k rs1).1 := h2; omega, ?_⟩
            rw [G1 k hk, h3]
        · left; exact h1 k hk (by simpa using d0) d1
      · rw [if_neg d1]; left; omega
    · right
      exact ⟨by simp only [St.cur]; rw [L2 j hj], (G2 j hj).symm⟩
  have own2 : ∀ b, own st2 g2 b → own (stR rs1) g' b ∨ ∃ j, (∀ k ∈ ks, σ k ≠ j) ∧ blk st g j = some b := by
    rintro b ⟨j, hj⟩
    rcases two j with ⟨k, hk, rfl⟩ | hn
    · rw [B1 k hk] at hj; exact .inl ⟨k, hj⟩
    · rw [B2 j hn] at hj; exact .inr ⟨j, hn, hj⟩
  have hx : Ext w (own st g) w' (own st2 g2) := by
    refine ⟨hs'.ext.os, hs'.ext.tape, hs'.ext.output, hs'.ext.size, fun b hb hn => ?_⟩
    have hno : ¬ e1.own0 b := fun ⟨k, _, hk⟩ => hn ⟨σ k, hk⟩
    obtain ⟨q1, q2⟩ := hs'.ext.block b hb hno
    exact ⟨q1, fun h => (own2 b h).elim q2 fun ⟨j, _, hj⟩ => hn ⟨j, hj⟩⟩
  have hback : ∀ x v, within (domR rs1) x = true → AR (stR rs1).cur g' w' (e1.N (stR rs1) g') x v → AR st2.cur g2 w' (e.N st2 g2) (ren σ δ x) v := fun x v hw hv =>
    hv.limit hw σ δ (Nat.le_refl _) (fun b _ hn => ⟨rfl, fun h => hn (h.elim (fun h => .inl (.inl h)) fun h => (own2 b h).elim .inr fun ⟨j, hj, hb⟩ => .inl (oth j hj b hb))⟩)
      (fun k hk => .inr ⟨by simp only [St.cur]; rw [L1 k (hks1 k hk)]; unfold backV; rw [if_pos hk], (G1 k (hks1 k hk)).symm⟩)
  have ht : st2.t = st.t := by rw [← hst2]
  have hn : st2.n = st.n := by rw [← hst2]
  refine ⟨v, g2, rfl, ⟨hs.defers, by rw [hn]; exact hs.size, fun d => by rw [ht]; exact (hs.temps d).lift hx hcur, fun j => ?_, fun j j' b hj hj' => ?_, fun j b hj => ?_, hs.ext.trans hx, hist_step hs.hist hcur⟩, hback _ _ hr hv⟩
  · rcases two j with ⟨k, hk, rfl⟩ | hj
    · rw [L1 k hk]
      show ResR _ _ _ _ _ (renRes σ δ (lookR k rs1).2)
      have q := hs'.res k
      have hin := hin1 k
      revert q hin
      show ResR _ _ _ _ _ (lookR k rs1).2 → _ → _
      cases (lookR k rs1).2 with
      | gone => intro _ _; trivial
      | bx cells =>
        rintro ⟨b, C', el, q1, q2, q3, q4⟩ hin
        refine ⟨b, C', el, by rw [G1 k hk]; exact q1, q2, by rw [renL_len]; exact q3, fun j x y hj hy => ?_⟩
        rw [renL_get] at hj
        cases hc : cells[j]? with
        | none => simp [hc] at hj
        | some z => simp [hc] at hj; subst hj; exact hback _ _ (withinL_get hin j z hc) (q4 j z y hc hy)
      | sl el sz rows =>
        rintro ⟨xs, q1, q2, q3⟩ hin
        refine ⟨xs, by rw [G1 k hk, List.length_map]; exact q1, fun row hrow => ?_, fun i j row x y hi hj hy => ?_⟩
        · obtain ⟨row0, hr0, rfl⟩ := List.mem_map.1 hrow
          rw [renL_len]; exact q2 row0 hr0
        · rw [List.getElem?_map] at hi
          cases hi0 : rows[i]? with
          | none => simp [hi0] at hi
          | some row0 =>
            simp [hi0] at hi
            subst hi
            rw [renL_get] at hj
            cases hc : row0[j]? with
            | none => simp [hc] at hj
            | some z => simp [hc] at hj; subst hj; exact hback _ _ (withinL_get (hin row0 (List.mem_of_getElem? hi0)) j z hc) (q3 i j row0 z y hi0 hc hy)
      | mp f n => intro q _; show ResR _ _ _ _ _ (.mp f n); unfold ResR at q ⊢; rw [G1 k hk]; exact q
    · rw [L2 j hj]
      refine (hs.res j).lift hx hcur (G2 j hj) fun hne b hb => ?_
      have hbj : blk st g j = some b := by
        simp only [blk]; revert hne; cases (lookR j st.rs).2 <;> intro hne <;> first | exact absurd rfl hne | exact hb
      exact (hs'.ext.block b (hs.low j b hbj).2.1 fun ⟨k, dk, hk⟩ => hj k (hks0 k dk) (hs.uniq _ _ b hk hbj)).1
  · rcases two j with ⟨k, hk, rfl⟩ | hn1 <;> rcases two j' with ⟨k', hk', rfl⟩ | hn2
    · rw [B1 k hk] at hj; rw [B1 k' hk'] at hj'
      rw [hs'.uniq k k' b hj hj']
    · rw [B1 k hk] at hj; rw [B2 j' hn2] at hj'
      exact absurd (oth j' hn2 b hj') (hs'.low k b hj).2.2
    · rw [B2 j hn1] at hj; rw [B1 k' hk'] at hj'
      exact absurd (oth j hn1 b hj) (hs'.low k' b hj').2.2
    · rw [B2 j hn1] at hj; rw [B2 j' hn2] at hj'
      exact hs.uniq j j' b hj hj'
  · rcases two j with ⟨k, hk, rfl⟩ | hn1
    · rw [B1 k hk] at hj
      obtain ⟨q1, q2, q3⟩ := hs'.low k b hj
      exact ⟨q1, q2, fun h => q3 (.inl h)⟩
    · rw [B2 j hn1] at hj
      obtain ⟨q1, q2, q3⟩ := hs.low j b hj
      exact ⟨q1, Nat.lt_of_lt_of_le q2 hs'.ext.size, q3⟩

mutual
theorem ren_none {σ δ : Nat → Nat} : ∀ {x : AV}, within none0 x = true → ren σ δ x = x
  | .r _, _ => rfl
  | .os _ _, h => by simp [within, none0] at h
  | .rf _ _ _, h => by simp [within, none0] at h
  | .re _ _ _ _ _, h => by simp [within, none0] at h
  | .agg cs, h => by simp only [ren, renL_none (show withinL none0 cs = true from h)]
  | .tup cs, h => by simp only [ren, renL_none (show withinL none0 cs = true from h)]
  | .any, _ => rfl
theorem renL_none {σ δ : Nat → Nat} : ∀ {l : List AV}, withinL none0 l = true → renL σ δ l = l
  | [], _ => rfl
  | x :: l, h => by
    simp only [withinL, Bool.and_eq_true] at h
    simp only [renL, ren_none h.1, renL_none h.2]
end

mutual
theorem within_none {ok : Nat → Bool} : ∀ {x : AV}, within none0 x = true → within ok x = true
  | .r _, _ => rfl
  | .os _ _, h => by simp [within, none0] at h
  | .rf _ _ _, h => by simp [within, none0] at h
  | .re _ _ _ _ _, h => by simp [within, none0] at h
  | .agg cs, h => withinL_none (show withinL none0 cs = true from h)
  | .tup cs, h => withinL_none (show withinL none0 cs = true from h)
  | .any, _ => rfl
theorem withinL_none {ok : Nat → Bool} : ∀ {l : List AV}, withinL none0 l = true → withinL ok l = true
  | [], _ => rfl
  | x :: l, h => by
    simp only [withinL, Bool.and_eq_true] at h ⊢
    exact ⟨within_none h.1, withinL_none h.2⟩
end

/-- A call that is handed resources, or hands some back: its result, what it looks at, what it turns. -/
structure CallR (C : Ctx) (f : Nat) (st : St) (args : List AV) (r : AV) (ls : List Loc) (outs : List (Loc × Cont)) : Prop where
  ex : ∃ (args0 : List AV) (rs0 : List (Nat × Nat × Res)) (r0 : AV) (rs1 : List (Nat × Nat × Res)) (σ δ : Nat → Nat) (ks : List Nat), FC C f args0 rs0 r0 rs1 ∧ args = renL σ δ args0 ∧ withinL (domR rs0) args0 = true ∧ r = ren σ δ r0 ∧ within (domR rs1) r0 = true ∧
    (∀ k, domR rs0 k = true → k ∈ ks) ∧ (∀ k, domR rs1 k = true → k ∈ ks) ∧ (∀ j ∈ ks, ∀ k ∈ ks, σ j = σ k → j = k) ∧ (∀ k, withinRes (domR rs0) (lookR k rs0).2) ∧ (∀ k, withinRes (domR rs1) (lookR k rs1).2) ∧
    (∀ k, domR rs0 k = true → lookR (σ k) st.rs = ((lookR k rs0).1 + δ k, renRes σ δ (lookR k rs0).2)) ∧ (∀ k ∈ ks, domR rs0 k = false → domR rs1 k = true → st.cur (σ k) < (lookR k rs1).1 + δ k) ∧
    ls = ks.map (fun k => .R (σ k)) ∧ outs = ks.map fun k => (.R (σ k), .s (backV δ σ rs1 st k) (renRes σ δ (lookR k rs1).2))

theorem LStep_res {C : Ctx} {o : Oper} {st : St} {f : Nat} {c : Call} {fop : Operand} {caps : List RV} {r : AV} {ls : List Loc} {outs : List (Loc × Cont)} (ho : o.op = .call c) (hc : c.callee = .value fop) (hf : ev st fop = .r (.fn f caps)) (he : Enters C.P f)
    (hdn : ∀ d, o.dst = some d → d < st.n) (h : CallR C f st (c.args.toList.map (ev st) ++ caps.map AV.r) r ls outs) :
    LStep C o st.n ((rd (fop :: c.args.toList) ++ ls).map fun x => (x, st.get x)) (outs ++ (match o.dst with | some d => [(.T d, .a r)] | none => [])) := by
  obtain ⟨args0, rs0, r0, rs1, σ, δ, ks, hfc, hargs, hin, rfl, hr, hk0, hk1, hinj, hi0, hi1, h0, h1, rfl, rfl⟩ := h.ex
  intro e st' a w next Q hn hS ha hnext
  obtain ⟨hG, hgs⟩ := G_of hS
  obtain ⟨heok, g, hs⟩ := hS
  replace ha := Agree_of.1 ha
  obtain ⟨vs, hv, hpw⟩ := args_ok hs ha.left hf rfl
  rw [hargs] at hpw
  have hag : ∀ k ∈ ks, lookR (σ k) st'.rs = lookR (σ k) st.rs := fun k hk => ha.right.R (List.mem_map.2 ⟨k, hk, rfl⟩)
  have hcu : ∀ k ∈ ks, st'.cur (σ k) = st.cur (σ k) := fun k hk => by simp only [St.cur]; rw [hag k hk]
  have hrun : (execOp a.eval o).run C.P w = .ok (.enter f (c.args.map a.eval ++ vs)) w := run_callv ho hc hv he
  refine upon_enter hrun ((call_res hfc heok hs hG hgs σ δ ks hk0 hk1 hinj hi0 (fun k hk => by rw [hag k (hk0 k hk)]; exact h0 k hk) (fun k hk d0 d1 => by rw [hcu k hk]; exact h1 k hk d0 d1) hi1 hr hpw hin).mono ?_)
  rintro x w' ⟨v, g2, rfl, hs2, hav⟩
  refine ⟨v, rfl, hnext _ _ ⟨heok, g2, ?_⟩⟩
  rw [upd_app]
  have he2 : (ks.map fun k => ((.R (σ k), .s (backV δ σ rs1 st k) (renRes σ δ (lookR k rs1).2)) : Loc × Cont)) = ks.map fun k => (.R (σ k), .s (backV δ σ rs1 st' k) (renRes σ δ (lookR k rs1).2)) :=
    List.map_congr_left fun k hk => by unfold backV; rw [hcu k hk]
  rw [he2, upd_back]
  cases hd : o.dst with
  | none => exact hs2
  | some d => exact hs2.put (by show d < st'.n; rw [hn]; exact hdn d hd) hav

/-- A new slice comes back. -/
theorem CallR.own {C : Ctx} {f : Nat} {st : St} {args : List AV} {r : AV} {e sz : Nat} {rows : List (List AV)} (hfc : FC C f args [] r [(0, 1, .sl e sz rows)]) (ha : withinL none0 args = true) (hrows : ∀ row ∈ rows, withinL none0 row = true) (hr : within (fun k => k == 0) r = true) (d : Nat) :
    CallR C f st args (ren (fun _ => d) (fun _ => st.cur d) r) [.R d] [(.R d, .s (1 + st.cur d) (.sl e sz rows))] := by
  have hd : ∀ k, domR [(0, 1, Res.sl e sz rows)] k = (k == 0) := fun k => by
    unfold domR lookR
    by_cases h : k = 0
    · subst h; rfl
    · simp [h, lookR]
  have hd0 : ∀ k, domR [] k = false := fun k => rfl
  have hm : rows.map (renL (fun _ => d) (fun _ => st.cur d)) = rows := by
    conv => rhs; rw [← List.map_id rows]
    exact List.map_congr_left fun row hrow => renL_none (hrows row hrow)
  refine ⟨args, [], r, [(0, 1, .sl e sz rows)], fun _ => d, fun _ => st.cur d, [0], hfc, (renL_none ha).symm, ?_, rfl, ?_, fun k hk => by simp [hd0] at hk, fun k hk => by rw [hd] at hk; simpa using hk, fun j hj k hk _ => by simp at hj hk; omega, fun k => trivial, fun k => ?_, fun k hk => by simp [hd0] at hk, fun k hk _ _ => ?_, rfl, ?_⟩
  · exact withinL_none ha
  · rw [show domR [(0, 1, Res.sl e sz rows)] = fun k => k == 0 from funext hd]; exact hr
  · unfold lookR
    split
    · exact fun row hrow => withinL_none (hrows row hrow)
    · trivial
  · simp at hk; subst hk
    show st.cur d < 1 + st.cur d
    omega
  · simp only [List.map_cons, List.map_nil, backV, hd, beq_self_eq_true, if_true]
    show [((.R d, .s (1 + st.cur d) (.sl e sz rows)) : Loc × Cont)] = [(.R d, .s (1 + st.cur d) (.sl e sz (rows.map (renL (fun _ => d) fun _ => st.cur d))))]
    rw [hm]

/-- A slice that is handed over, and turned. -/
theorem CallR.turn {C : Ctx} {f : Nat} {st : St} {args : List AV} {r : AV} {e sz k ver : Nat} {rows rows' : List (List AV)} (hfc : FC C f args [(0, 0, .sl e sz rows)] r [(0, 0, .sl e sz rows')]) (hk : lookR k st.rs = (ver, .sl e sz rows)) (ha : withinL (fun k => k == 0) args = true) (hrows : ∀ row ∈ rows, withinL none0 row = true) (hrows' : ∀ row ∈ rows', withinL none0 row = true) (hr : within (fun k => k == 0) r = true) :
    CallR C f st (renL (fun _ => k) (fun _ => ver) args) (ren (fun _ => k) (fun _ => ver) r) [.R k] [(.R k, .s ver (.sl e sz rows'))] := by
  have hd : ∀ rows k, domR [(0, 0, Res.sl e sz rows)] k = (k == 0) := fun rows k => by
    unfold domR lookR
    by_cases h : k = 0
    · subst h; rfl
    · simp [h, lookR]
  have hm : ∀ rows : List (List AV), (∀ row ∈ rows, withinL none0 row = true) → rows.map (renL (fun _ => k) (fun _ => ver)) = rows := fun rows hrows => by
    conv => rhs; rw [← List.map_id rows]
    exact List.map_congr_left fun row hrow => renL_none (hrows row hrow)
  have hw : ∀ rows : List (List AV), (∀ row ∈ rows, withinL none0 row = true) → ∀ j, withinRes (domR [(0, 0, Res.sl e sz rows)]) (lookR j [(0, 0, Res.sl e sz rows)]).2 := fun rows hrows j => by
    unfold lookR
    split
    · exact fun row hrow => withinL_none (hrows row hrow)
    · trivial
  refine ⟨args, _, r, _, fun _ => k, fun _ => ver, [0], hfc, rfl, ?_, rfl, ?_, fun k hk => by rw [hd] at hk; simpa using hk, fun k hk => by rw [hd] at hk; simpa using hk, fun j hj k hk _ => by simp at hj hk; omega, hw rows hrows, hw rows' hrows', fun j hj => ?_, fun j hj h1 _ => ?_, rfl, ?_⟩
  · rw [show domR [(0, 0, Res.sl e sz rows)] = fun k => k == 0 from funext (hd rows)]; exact ha
  · rw [show domR [(0, 0, Res.sl e sz rows')] = fun k => k == 0 from funext (hd rows')]; exact hr
  · rw [hd] at hj
    obtain rfl : j = 0 := by simpa using hj
    rw [hk]
    show (ver, Res.sl e sz rows) = (0 + ver, .sl e sz (rows.map (renL (fun _ => k) fun _ => ver)))
    rw [hm rows hrows, Nat.zero_add]
  · simp at hj; subst hj
    simp [hd] at h1
  · simp only [List.map_cons, List.map_nil, backV, hd, beq_self_eq_true, if_true]
    show [((.R k, .s ver (.sl e sz rows')) : Loc × Cont)] = [(.R k, .s (0 + ver) (.sl e sz (rows'.map (renL (fun _ => k) fun _ => ver))))]
    rw [hm rows' hrows', Nat.zero_add]

/-- A contract of a function, as calls take it. -/
structure Ct (C : Ctx) where
  g : Nat
  run : Call → Operand → List RV → Oper → St → (List Loc → List (Loc × Cont) → Prop) → Prop
  ok : ∀ {c : Call} {fop : Operand} {caps : List RV} {o : Oper} {st : St} {K : List Loc → List (Loc × Cont) → Prop}, o.op = .call c → c.callee = .value fop → ev st fop = .r (.fn g caps) → run c fop caps o st K → ∃ l outs, K l outs ∧ LStep C o st.n (l.map fun x => (x, st.get x)) outs

def Ct.pure {C : Ctx} (g : Nat) (sp : List AV → (AV → Prop) → Prop) (hok : ∀ args K, sp args K → ∃ r, CallOk C g args r ∧ K r) : Ct C where
  g := g
  run := callT C sp
  ok := callT_ok hok

/-- A call, met by a contract with resources. -/
def callG (sp : St → Nat → List AV → (AV → List Loc → List (Loc × Cont) → Prop) → Prop) (c : Call) (fop : Operand) (caps : List RV) (o : Oper) (st : St) (K : List Loc → List (Loc × Cont) → Prop) : Prop :=
  match o.dst with
  | some d => sp st d (c.args.toList.map (ev st) ++ caps.map AV.r) fun r ls outs => d < st.n ∧ K (rd (fop :: c.args.toList) ++ ls) (outs ++ [(.T d, .a r)])
  | none => sp st 0 (c.args.toList.map (ev st) ++ caps.map AV.r) fun _ ls outs => K (rd (fop :: c.args.toList) ++ ls) (outs ++ [])

def Ct.res {C : Ctx} (g : Nat) (sp : St → Nat → List AV → (AV → List Loc → List (Loc × Cont) → Prop) → Prop) (he : Enters C.P g) (hok : ∀ st d args K, sp st d args K → ∃ r ls outs, CallR C g st args r ls outs ∧ K r ls outs) : Ct C where
  g := g
  run := callG sp
  ok := by
    intro c fop caps o st K ho hc hf h
    unfold callG at h
    cases hd : o.dst with
    | none =>
      simp only [hd] at h
      obtain ⟨r, ls, outs, h1, h2⟩ := hok _ _ _ _ h
      refine ⟨_, _, h2, ?_⟩
      have := LStep_res ho hc hf he (fun d h => by rw [hd] at h; cases h) h1
      rwa [hd] at this
    | some d =>
      simp only [hd] at h
      obtain ⟨r, ls, outs, h1, h3, h2⟩ := hok _ _ _ _ h
      refine ⟨_, _, h2, ?_⟩
      have := LStep_res ho hc hf he (fun d' h => by rw [hd] at h; cases h; exact h3) h1
      rwa [hd] at this

def findC {C : Ctx} (f : Nat) : List (Ct C) → Option (Ct C)
  | [] => none
  | c :: l => if f = c.g then some c else findC f l

theorem findC_g {C : Ctx} {f : Nat} {ct : Ct C} : ∀ {l : List (Ct C)}, findC f l = some ct → ct.g = f
  | c :: l, h => by
    unfold findC at h
    split at h
    · rename_i he; simp at h; subst h; exact he.symm
    · exact findC_g h

end Go.Proofs.YtjbhpoolghfhiaaDoor
