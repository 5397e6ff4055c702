/- Calls that are handed resources, or that hand some back. No condition: plain lemmas. -/
import Derived.Test.YtjbhpoolghfhiaaDoorAvC
import Derived.WideKeyElems
import Derived.DeepKeys5
namespace Go.Proofs.YtjbhpoolghfhiaaDoor
set_option linter.unusedVariables false
set_option linter.unusedSimpArgs false
set_option maxHeartbeats 10000000
open Go

/-- The version that a resource has behind a call. -/
def backV (δ : Nat → Nat) (σ : Nat → Nat) (rs1 : List (Nat × Nat × Res)) (st : St) (k : Nat) : Nat := if domR rs1 k = true then (lookR k rs1).1 + δ k else st.cur (σ k) + 1

/-- The resources behind a call. -/
def backR (σ δ : Nat → Nat) (rs1 : List (Nat × Nat × Res)) (st : St) : List Nat → List (Nat × Nat × Res) → List (Nat × Nat × Res)
  | [], rs => rs
  | k :: l, rs => backR σ δ rs1 st l (putR (σ k) (backV δ σ rs1 st k, renRes σ δ (lookR k rs1).2) rs)

theorem backR_no {σ δ : Nat → Nat} {rs1 : List (Nat × Nat × Res)} {st : St} {j : Nat} : ∀ {l : List Nat} {rs : List (Nat × Nat × Res)}, (∀ k ∈ l, σ k ≠ j) → lookR j (backR σ δ rs1 st l rs) = lookR j rs
  | [], rs, _ => rfl
  | k :: l, rs, h => by
    unfold backR
    rw [backR_no (fun k hk => h k (List.mem_cons_of_mem _ hk)), lookR_put, if_neg]
    exact fun he => h k (List.mem_cons_self ..) he.symm

theorem backR_yes {σ δ : Nat → Nat} {rs1 : List (Nat × Nat × Res)} {st : St} : ∀ {l : List Nat} {rs : List (Nat × Nat × Res)}, (∀ j ∈ l, ∀ k ∈ l, σ j = σ k → j = k) → ∀ k ∈ l, lookR (σ k) (backR σ δ rs1 st l rs) = (backV δ σ rs1 st k, renRes σ δ (lookR k rs1).2)
  | [], rs, _, k, hk => by simp at hk
  | i :: l, rs, h, k, hk => by
    unfold backR
    by_cases hkl : k ∈ l
    · exact backR_yes (fun a ha b hb => h a (List.mem_cons_of_mem _ ha) b (List.mem_cons_of_mem _ hb)) k hkl
    · have hki : k = i := by rcases List.mem_cons.1 hk with h1 | h1; exact h1; exact absurd h1 hkl
      subst hki
      rw [backR_no (fun j hj he => hkl (by rw [h k (List.mem_cons_self ..) j (List.mem_cons_of_mem _ hj) he.symm]; exact hj)), lookR_put, if_pos rfl]

theorem upd_back {σ δ : Nat → Nat} {rs1 : List (Nat × Nat × Res)} {st0 : St} : ∀ {l : List Nat} {st : St}, st.upd (l.map fun k => (.R (σ k), .s (backV δ σ rs1 st0 k) (renRes σ δ (lookR k rs1).2))) = { st with rs := backR σ δ rs1 st0 l st.rs }
  | [], st => rfl
  | k :: l, st => by
    simp only [List.map_cons, St.upd, backR]
    rw [upd_back (l := l)]
    rfl

theorem upd_app : ∀ {l l' : List (Loc × Cont)} {st : St}, st.upd (l ++ l') = (st.upd l).upd l'
  | [], l', st => rfl
  | (x, c) :: l, l', st => by simp only [List.cons_append, St.upd]; exact upd_app

theorem blk_ren {st st' : St} {g g' : Gh} {j k : Nat} {σ δ : Nat → Nat} (h : (lookR j st.rs).2 = renRes σ δ (lookR k st'.rs).2) (hg : g j = g' k) : blk st g j = blk st' g' k := by
  simp only [blk, h, hg]
  cases (lookR k st'.rs).2 <;> rfl

open Classical in
/-- A call that is handed resources, and hands some back. -/
theorem call_res {C : Ctx} {f : Nat} {args : List AV} {rs0 rs1 : List (Nat × Nat × Res)} {r : AV} (hfc : FC C f args rs0 r rs1) {e : Env} {st : St} {g : Gh} {a : Act} {w : World} (hok : e.ok C) (hs : SR C e st g a w) (hG : C.G w) (hgs : C.gs ≤ w.heap.size)
    (σ δ : Nat → Nat) (ks : List Nat) (hks0 : ∀ k, domR rs0 k = true → k ∈ ks) (hks1 : ∀ k, domR rs1 k = true → k ∈ ks) (hinj : ∀ j ∈ ks, ∀ k ∈ ks, σ j = σ k → j = k)
    (hin0 : ∀ k, withinRes (domR rs0) (lookR k rs0).2) (h0 : ∀ k, domR rs0 k = true → lookR (σ k) st.rs = ((lookR k rs0).1 + δ k, renRes σ δ (lookR k rs0).2))
    (h1 : ∀ k ∈ ks, domR rs0 k = false → domR rs1 k = true → st.cur (σ k) < (lookR k rs1).1 + δ k) (hin1 : ∀ k, withinRes (domR rs1) (lookR k rs1).2) (hr : within (domR rs1) r = true)
    {vs : Array Value} (hvs : PW st.cur g w (e.N st g) (renL σ δ args) vs) (hargs : withinL (domR rs0) args = true) :
    Calls C.P f vs w fun x w' => ∃ v g2, x = .returned v ∧ SR C e { st with rs := backR σ δ rs1 st ks st.rs } g2 a w' ∧
      AR ({ st with rs := backR σ δ rs1 st ks st.rs } : St).cur g2 w' (e.N { st with rs := backR σ δ rs1 st ks st.rs } g2) (ren σ δ r) v := by
  let g1 : Gh := fun k => g (σ k)
  let e1 : Env := ⟨w, fun b => ∃ k, domR rs0 k = true ∧ blk st g (σ k) = some b, fun b => e.av0 b ∨ ∃ j, (∀ k, domR rs0 k = true → σ k ≠ j) ∧ blk st g j = some b, (stR rs0).cur, g1⟩
  have hb1 : ∀ k, domR rs0 k = true → blk st g (σ k) = blk (stR rs0) g1 k := fun k hk => blk_ren (σ := σ) (δ := δ) (by rw [h0 k hk]) rfl
  have hd0 : ∀ k b, blk (stR rs0) g1 k = some b → domR rs0 k = true := fun k b hb => domR_of (fun hc => by simp [blk, hc] at hb)
  have hN1 : ∀ b, e1.N (stR rs0) g1 b → e.N st g b := by
    rintro b ((h | ⟨j, _, hj⟩) | ⟨k, hk⟩)
    · exact .inl h
    · exact .inr ⟨j, hj⟩
    · exact .inr ⟨σ k, by rw [hb1 k (hd0 k b hk)]; exact hk⟩
  have hun : ∀ x v, within (domR rs0) x = true → AR st.cur g w (e.N st g) (ren σ δ x) v → AR (stR rs0).cur g1 w (e1.N (stR rs0) g1) x v := fun x v hw hv =>
    AR.unren (Nat.le_refl _) (fun b _ hn => ⟨rfl, fun h => hn (hN1 b h)⟩) (fun k hk => ⟨by simp only [St.cur]; rw [h0 k hk], rfl⟩) hv rfl hw
  have hs1 : SR C e1 (stR rs0) g1 act0 w := by
    refine ⟨rfl, rfl, fun d => .any _, fun k => ?_, fun k k' b hk hk' => ?_, fun k b hk => ?_, ⟨rfl, rfl, rfl, Nat.le_refl _, fun b _ hn => ⟨rfl, fun ⟨k, hk⟩ => hn ⟨k, hd0 k b hk, by rw [hb1 k (hd0 k b hk)]; exact hk⟩⟩⟩, fun _ => .inr ⟨rfl, rfl⟩⟩
    · by_cases hk : domR rs0 k = true
      · have q := hs.res (σ k)
        have hin := hin0 k
        rw [h0 k hk] at q
        revert q hin
        show ResR _ _ _ _ _ (renRes σ δ (lookR k rs0).2) → _ → ResR _ _ _ _ _ (lookR k rs0).2
        cases (lookR k rs0).2 with
        | gone => intro _ _; trivial
        | bx cells =>
          rintro ⟨b, C', el, q1, q2, q3, q4⟩ hin
          exact ⟨b, C', el, q1, q2, by rw [renL_len] at q3; exact q3, fun j x y hj hy => hun _ _ (withinL_get hin j x hj) (q4 j _ y (by rw [renL_get, hj]; rfl) hy)⟩
        | sl el sz rows =>
          rintro ⟨xs, q1, q2, q3⟩ hin
          refine ⟨xs, by rw [List.length_map] at q1; exact q1, fun row hrow => ?_, fun i j row x y hi hj hy => ?_⟩
          · have := q2 (renL σ δ row) (List.mem_map.2 ⟨row, hrow, rfl⟩)
            rwa [renL_len] at this
          · exact hun _ _ (withinL_get (hin row (List.mem_of_getElem? hi)) j x hj) (q3 i j (renL σ δ row) _ y (by rw [List.getElem?_map, hi]; rfl) (by rw [renL_get, hj]; rfl) hy)
        | mp f n => intro q _; exact q
      · show ResR _ _ _ _ _ (lookR k rs0).2
        rw [domR_no hk]; trivial
    · have d1 := hd0 k b hk
      have d2 := hd0 k' b hk'
      rw [← hb1 k d1] at hk
      rw [← hb1 k' d2] at hk'
      exact hinj k (hks0 k d1) k' (hks0 k' d2) (hs.uniq _ _ b hk hk')
    · have d1 := hd0 k b hk
      rw [← hb1 k d1] at hk
      obtain ⟨q1, q2, q3⟩ := hs.low _ b hk
      exact ⟨q1, q2, fun hav => hav.elim q3 fun ⟨j, hne, hj⟩ => hne k d1 (hs.uniq _ _ b hk hj)⟩
  have hok1 : e1.ok C := ⟨hG, hgs, fun b ⟨k, _, hk⟩ => ⟨(hs.low _ b hk).1, (hs.low _ b hk).2.1⟩, fun b hb => hb.elim (fun h => by have := hok.av b h; have := hs.ext.size; exact Nat.lt_of_lt_of_le ‹b < _› this) fun ⟨j, _, hj⟩ => (hs.low j b hj).2.1⟩
  refine (hfc.run e1 g1 w vs hok1 hs1 ⟨by have := hvs.1; rw [renL_len] at this; exact this, fun j x y hx hy => hun _ _ (withinL_get hargs j x hx) (hvs.2 j _ y (by rw [renL_get, hx]; rfl) hy)⟩).mono ?_
  rintro x w' ⟨v, g', rfl, hs', hv, hh⟩
  let g2 : Gh := fun j => if h : ∃ k, k ∈ ks ∧ σ k = j then g' (Classical.choose h) else g j
  have G1 : ∀ k ∈ ks, g2 (σ k) = g' k := fun k hk => by
    have h : ∃ k', k' ∈ ks ∧ σ k' = σ k := ⟨k, hk, rfl⟩
    show (if h : ∃ k', k' ∈ ks ∧ σ k' = σ k then g' (Classical.choose h) else g (σ k)) = g' k
    rw [dif_pos h]
    obtain ⟨h2, h3⟩ := Classical.choose_spec h
    rw [hinj _ h2 _ hk h3]
  have G2 : ∀ j, (∀ k ∈ ks, σ k ≠ j) → g2 j = g j := fun j hj => by
    show (if h : ∃ k', k' ∈ ks ∧ σ k' = j then g' (Classical.choose h) else g j) = g j
    rw [dif_neg]
    rintro ⟨k, hk, he⟩
    exact hj k hk he
  generalize hst2 : ({ st with rs := backR σ δ rs1 st ks st.rs } : St) = st2
  have L1 : ∀ k ∈ ks, lookR (σ k) st2.rs = (backV δ σ rs1 st k, renRes σ δ (lookR k rs1).2) := fun k hk => by rw [← hst2]; exact backR_yes hinj k hk
  have L2 : ∀ j, (∀ k ∈ ks, σ k ≠ j) → lookR j st2.rs = lookR j st.rs := fun j hj => by rw [← hst2]; exact backR_no hj
  have hd1 : ∀ k b, blk (stR rs1) g' k = some b → domR rs1 k = true := fun k b hb => domR_of (fun hc => by simp [blk, hc] at hb)
  have B1 : ∀ k ∈ ks, blk st2 g2 (σ k) = blk (stR rs1) g' k := fun k hk => blk_ren (σ := σ) (δ := δ) (by rw [L1 k hk]) (G1 k hk)
  have B2 : ∀ j, (∀ k ∈ ks, σ k ≠ j) → blk st2 g2 j = blk st g j := fun j hj => blk_of (by rw [L2 j hj]) (G2 j hj)
  have two : ∀ j, (∃ k ∈ ks, σ k = j) ∨ ∀ k ∈ ks, σ k ≠ j := fun j => by
    by_cases h : ∃ k ∈ ks, σ k = j
    · exact .inl h
    · exact .inr fun k hk he => h ⟨k, hk, he⟩
  have oth : ∀ j, (∀ k ∈ ks, σ k ≠ j) → ∀ b, blk st g j = some b → e1.av0 b := fun j hj b hb => .inr ⟨j, fun k hk => hj k (hks0 k hk), hb⟩
  have hcur : ∀ j, st.cur j < st2.cur j ∨ st.cur j = st2.cur j ∧ g j = g2 j := fun j => by
    rcases two j with ⟨k, hk, rfl⟩ | hj
    · have hv2 : st2.cur (σ k) = backV δ σ rs1 st k := by simp only [St.cur]; rw [L1 k hk]
      rw [hv2]
      unfold backV
      by_cases d1 : domR rs1 k = true
      · rw [if_pos d1]
        by_cases d0 : domR rs0 k = true
        · have hc0 : st.cur (σ k) = (lookR k rs0).1 + δ k := by simp only [St.cur]; rw [h0 k d0]
          rw [hc0]
          rcases hh k d1 with h2 | ⟨h2, h3⟩
          · left; have : (lookR k rs0).1 < (lookR k rs1).1 := h2; omega
          · right
            refine ⟨by have : (lookR k rs0).1 = (lookR k rs1).1 := h2; omega, ?_⟩
            rw [G1 k hk, h3]
        · left; exact h1 k hk (by simpa using d0) d1
      · rw [if_neg d1]; left; omega
    · right
      exact ⟨by simp only [St.cur]; rw [L2 j hj], (G2 j hj).symm⟩
  have own2 : ∀ b, own st2 g2 b → own (stR rs1) g' b ∨ ∃ j, (∀ k ∈ ks, σ k ≠ j) ∧ blk st g j = some b := by
    rintro b ⟨j, hj⟩
    rcases two j with ⟨k, hk, rfl⟩ | hn
    · rw [B1 k hk] at hj; exact .inl ⟨k, hj⟩
    · rw [B2 j hn] at hj; exact .inr ⟨j, hn, hj⟩
  have hx : Ext w (own st g) w' (own st2 g2) := by
    refine ⟨hs'.ext.os, hs'.ext.tape, hs'.ext.output, hs'.ext.size, fun b hb hn => ?_⟩
    have hno : ¬ e1.own0 b := fun ⟨k, _, hk⟩ => hn ⟨σ k, hk⟩
    obtain ⟨q1, q2⟩ := hs'.ext.block b hb hno
    exact ⟨q1, fun h => (own2 b h).elim q2 fun ⟨j, _, hj⟩ => hn ⟨j, hj⟩⟩
  have hback : ∀ x v, within (domR rs1) x = true → AR (stR rs1).cur g' w' (e1.N (stR rs1) g') x v → AR st2.cur g2 w' (e.N st2 g2) (ren σ δ x) v := fun x v hw hv =>
    hv.limit hw σ δ (Nat.le_refl _) (fun b _ hn => ⟨rfl, fun h => hn (h.elim (fun h => .inl (.inl h)) fun h => (own2 b h).elim .inr fun ⟨j, hj, hb⟩ => .inl (oth j hj b hb))⟩)
      (fun k hk => .inr ⟨by simp only [St.cur]; rw [L1 k (hks1 k hk)]; unfold backV; rw [if_pos hk], (G1 k (hks1 k hk)).symm⟩)
  have ht : st2.t = st.t := by rw [← hst2]
  have hn : st2.n = st.n := by rw [← hst2]
  refine ⟨v, g2, rfl, ⟨hs.defers, by rw [hn]; exact hs.size, fun d => by rw [ht]; exact (hs.temps d).lift hx hcur, fun j => ?_, fun j j' b hj hj' => ?_, fun j b hj => ?_, hs.ext.trans hx, hist_step hs.hist hcur⟩, hback _ _ hr hv⟩
  · rcases two j with ⟨k, hk, rfl⟩ | hj
    · rw [L1 k hk]
      show ResR _ _ _ _ _ (renRes σ δ (lookR k rs1).2)
      have q := hs'.res k
      have hin := hin1 k
      revert q hin
      show ResR _ _ _ _ _ (lookR k rs1).2 → _ → _
      cases (lookR k rs1).2 with
      | gone => intro _ _; trivial
      | bx cells =>
        rintro ⟨b, C', el, q1, q2, q3, q4⟩ hin
        refine ⟨b, C', el, by rw [G1 k hk]; exact q1, q2, by rw [renL_len]; exact q3, fun j x y hj hy => ?_⟩
        rw [renL_get] at hj
        cases hc : cells[j]? with
        | none => simp [hc] at hj
        | some z => simp [hc] at hj; subst hj; exact hback _ _ (withinL_get hin j z hc) (q4 j z y hc hy)
      | sl el sz rows =>
        rintro ⟨xs, q1, q2, q3⟩ hin
        refine ⟨xs, by rw [G1 k hk, List.length_map]; exact q1, fun row hrow => ?_, fun i j row x y hi hj hy => ?_⟩
        · obtain ⟨row0, hr0, rfl⟩ := List.mem_map.1 hrow
          rw [renL_len]; exact q2 row0 hr0
        · rw [List.getElem?_map] at hi
          cases hi0 : rows[i]? with
          | none => simp [hi0] at hi
          | some row0 =>
            simp [hi0] at hi
            subst hi
            rw [renL_get] at hj
            cases hc : row0[j]? with
            | none => simp [hc] at hj
            | some z => simp [hc] at hj; subst hj; exact hback _ _ (withinL_get (hin row0 (List.mem_of_getElem? hi0)) j z hc) (q3 i j row0 z y hi0 hc hy)
      | mp f n => intro q _; show ResR _ _ _ _ _ (.mp f n); unfold ResR at q ⊢; rw [G1 k hk]; exact q
    · rw [L2 j hj]
      refine (hs.res j).lift hx hcur (G2 j hj) fun hne b hb => ?_
      have hbj : blk st g j = some b := by
        simp only [blk]; revert hne; cases (lookR j st.rs).2 <;> intro hne <;> first | exact absurd rfl hne | exact hb
      exact (hs'.ext.block b (hs.low j b hbj).2.1 fun ⟨k, dk, hk⟩ => hj k (hks0 k dk) (hs.uniq _ _ b hk hbj)).1
  · rcases two j with ⟨k, hk, rfl⟩ | hn1 <;> rcases two j' with ⟨k', hk', rfl⟩ | hn2
    · rw [B1 k hk] at hj; rw [B1 k' hk'] at hj'
      rw [hs'.uniq k k' b hj hj']
    · rw [B1 k hk] at hj; rw [B2 j' hn2] at hj'
      exact absurd (oth j' hn2 b hj') (hs'.low k b hj).2.2
    · rw [B2 j hn1] at hj; rw [B1 k' hk'] at hj'
      exact absurd (oth j hn1 b hj) (hs'.low k' b hj').2.2
    · rw [B2 j hn1] at hj; rw [B2 j' hn2] at hj'
      exact hs.uniq j j' b hj hj'
  · rcases two j with ⟨k, hk, rfl⟩ | hn1
    · rw [B1 k hk] at hj
      obtain ⟨q1, q2, q3⟩ := hs'.low k b hj
      exact ⟨q1, q2, fun h => q3 (.inl h)⟩
    · rw [B2 j hn1] at hj
      obtain ⟨q1, q2, q3⟩ := hs.low j b hj
      exact ⟨q1, Nat.lt_of_lt_of_le q2 hs'.ext.size, q3⟩

mutual
theorem ren_none {σ δ : Nat → Nat} : ∀ {x : AV}, within none0 x = true → ren σ δ x = x
  | .r _, _ => rfl
  | .os _ _, h => by simp [within, none0] at h
  | .rf _ _ _, h => by simp [within, none0] at h
  | .re _ _ _ _ _, h => by simp [within, none0] at h
  | .agg cs, h => by simp only [ren, renL_none (show withinL none0 cs = true from h)]
  | .tup cs, h => by simp only [ren, renL_none (show withinL none0 cs = true from h)]
  | .any, _ => rfl
theorem renL_none {σ δ : Nat → Nat} : ∀ {l : List AV}, withinL none0 l = true → renL σ δ l = l
  | [], _ => rfl
  | x :: l, h => by
    simp only [withinL, Bool.and_eq_true] at h
    simp only [renL, ren_none h.1, renL_none h.2]
end

mutual
theorem within_none {ok : Nat → Bool} : ∀ {x : AV}, within none0 x = true → within ok x = true
  | .r _, _ => rfl
  | .os _ _, h => by simp [within, none0] at h
  | .rf _ _ _, h => by simp [within, none0] at h
  | .re _ _ _ _ _, h => by simp [within, none0] at h
  | .agg cs, h => withinL_none (show withinL none0 cs = true from h)
  | .tup cs, h => withinL_none (show withinL none0 cs = true from h)
  | .any, _ => rfl
theorem withinL_none {ok : Nat → Bool} : ∀ {l : List AV}, withinL none0 l = true → withinL ok l = true
  | [], _ => rfl
  | x :: l, h => by
    simp only [withinL, Bool.and_eq_true] at h ⊢
    exact ⟨within_none h.1, withinL_none h.2⟩
end

/-- A call that is handed resources, or hands some back: its result, what it looks at, what it turns. -/
structure CallR (C : Ctx) (f : Nat) (st : St) (args : List AV) (r : AV) (ls : List Loc) (outs : List (Loc × Cont)) : Prop where
  ex : ∃ (args0 : List AV) (rs0 : List (Nat × Nat × Res)) (r0 : AV) (rs1 : List (Nat × Nat × Res)) (σ δ : Nat → Nat) (ks : List Nat), FC C f args0 rs0 r0 rs1 ∧ args = renL σ δ args0 ∧ withinL (domR rs0) args0 = true ∧ r = ren σ δ r0 ∧ within (domR rs1) r0 = true ∧
    (∀ k, domR rs0 k = true → k ∈ ks) ∧ (∀ k, domR rs1 k = true → k ∈ ks) ∧ (∀ j ∈ ks, ∀ k ∈ ks, σ j = σ k → j = k) ∧ (∀ k, withinRes (domR rs0) (lookR k rs0).2) ∧ (∀ k, withinRes (domR rs1) (lookR k rs1).2) ∧
    (∀ k, domR rs0 k = true → lookR (σ k) st.rs = ((lookR k rs0).1 + δ k, renRes σ δ (lookR k rs0).2)) ∧ (∀ k ∈ ks, domR rs0 k = false → domR rs1 k = true → st.cur (σ k) < (lookR k rs1).1 + δ k) ∧
    ls = ks.map (fun k => .R (σ k)) ∧ outs = ks.map fun k => (.R (σ k), .s (backV δ σ rs1 st k) (renRes σ δ (lookR k rs1).2))

theorem LStep_res {C : Ctx} {o : Oper} {st : St} {f : Nat} {c : Call} {fop : Operand} {caps : List RV} {r : AV} {ls : List Loc} {outs : List (Loc × Cont)} (ho : o.op = .call c) (hc : c.callee = .value fop) (hf : ev st fop = .r (.fn f caps)) (he : Enters C.P f)
    (hdn : ∀ d, o.dst = some d → d < st.n) (h : CallR C f st (c.args.toList.map (ev st) ++ caps.map AV.r) r ls outs) :
    LStep C o st.n ((rd (fop :: c.args.toList) ++ ls).map fun x => (x, st.get x)) (outs ++ (match o.dst with | some d => [(.T d, .a r)] | none => [])) := by
  obtain ⟨args0, rs0, r0, rs1, σ, δ, ks, hfc, hargs, hin, rfl, hr, hk0, hk1, hinj, hi0, hi1, h0, h1, rfl, rfl⟩ := h.ex
  intro e st' a w next Q hn hS ha hnext
  obtain ⟨hG, hgs⟩ := G_of hS
  obtain ⟨heok, g, hs⟩ := hS
  replace ha := Agree_of.1 ha
  obtain ⟨vs, hv, hpw⟩ := args_ok hs ha.left hf rfl
  rw [hargs] at hpw
  have hag : ∀ k ∈ ks, lookR (σ k) st'.rs = lookR (σ k) st.rs := fun k hk => ha.right.R (List.mem_map.2 ⟨k, hk, rfl⟩)
  have hcu : ∀ k ∈ ks, st'.cur (σ k) = st.cur (σ k) := fun k hk => by simp only [St.cur]; rw [hag k hk]
  have hrun : (execOp a.eval o).run C.P w = .ok (.enter f (c.args.map a.eval ++ vs)) w := run_callv ho hc hv he
  refine upon_enter hrun ((call_res hfc heok hs hG hgs σ δ ks hk0 hk1 hinj hi0 (fun k hk => by rw [hag k (hk0 k hk)]; exact h0 k hk) (fun k hk d0 d1 => by rw [hcu k hk]; exact h1 k hk d0 d1) hi1 hr hpw hin).mono ?_)
  rintro x w' ⟨v, g2, rfl, hs2, hav⟩
  refine ⟨v, rfl, hnext _ _ ⟨heok, g2, ?_⟩⟩
  rw [upd_app]
  have he2 : (ks.map fun k => ((.R (σ k), .s (backV δ σ rs1 st k) (renRes σ δ (lookR k rs1).2)) : Loc × Cont)) = ks.map fun k => (.R (σ k), .s (backV δ σ rs1 st' k) (renRes σ δ (lookR k rs1).2)) :=
    List.map_congr_left fun k hk => by unfold backV; rw [hcu k hk]
  rw [he2, upd_back]
  cases hd : o.dst with
  | none => exact hs2
  | some d => exact hs2.put (by show d < st'.n; rw [hn]; exact hdn d hd) hav

/-- A new slice comes back. -/
theorem CallR.own {C : Ctx} {f : Nat} {st : St} {args : List AV} {r : AV} {e sz : Nat} {rows : List (List AV)} (hfc : FC C f args [] r [(0, 1, .sl e sz rows)]) (ha : withinL none0 args = true) (hrows : ∀ row ∈ rows, withinL none0 row = true) (hr : within (fun k => k == 0) r = true) (d : Nat) :
    CallR C f st args (ren (fun _ => d) (fun _ => st.cur d) r) [.R d] [(.R d, .s (1 + st.cur d) (.sl e sz rows))] := by
  have hd : ∀ k, domR [(0, 1, Res.sl e sz rows)] k = (k == 0) := fun k => by
    unfold domR lookR
    by_cases h : k = 0
    · subst h; rfl
    · simp [h, lookR]
  have hd0 : ∀ k, domR [] k = false := fun k => rfl
  have hm : rows.map (renL (fun _ => d) (fun _ => st.cur d)) = rows := by
    conv => rhs; rw [← List.map_id rows]
    exact List.map_congr_left fun row hrow => renL_none (hrows row hrow)
  refine ⟨args, [], r, [(0, 1, .sl e sz rows)], fun _ => d, fun _ => st.cur d, [0], hfc, (renL_none ha).symm, ?_, rfl, ?_, fun k hk => by simp [hd0] at hk, fun k hk => by rw [hd] at hk; simpa using hk, fun j hj k hk _ => by simp at hj hk; omega, fun k => trivial, fun k => ?_, fun k hk => by simp [hd0] at hk, fun k hk _ _ => ?_, rfl, ?_⟩
  · exact withinL_none ha
  · rw [show domR [(0, 1, Res.sl e sz rows)] = fun k => k == 0 from funext hd]; exact hr
  · unfold lookR
    split
    · exact fun row hrow => withinL_none (hrows row hrow)
    · trivial
  · simp at hk; subst hk
    show st.cur d < 1 + st.cur d
    omega
  · simp only [List.map_cons, List.map_nil, backV, hd, beq_self_eq_true, if_true]
    show [((.R d, .s (1 + st.cur d) (.sl e sz rows)) : Loc × Cont)] = [(.R d, .s (1 + st.cur d) (.sl e sz (rows.map (renL (fun _ => d) fun _ => st.cur d))))]
    rw [hm]

/-- A slice that is handed over, and turned. -/
theorem CallR.turn {C : Ctx} {f : Nat} {st : St} {args : List AV} {r : AV} {e sz k ver : Nat} {rows rows' : List (List AV)} (hfc : FC C f args [(0, 0, .sl e sz rows)] r [(0, 0, .sl e sz rows')]) (hk : lookR k st.rs = (ver, .sl e sz rows)) (ha : withinL (fun k => k == 0) args = true) (hrows : ∀ row ∈ rows, withinL none0 row = true) (hrows' : ∀ row ∈ rows', withinL none0 row = true) (hr : within (fun k => k == 0) r = true) :
    CallR C f st (renL (fun _ => k) (fun _ => ver) args) (ren (fun _ => k) (fun _ => ver) r) [.R k] [(.R k, .s ver (.sl e sz rows'))] := by
  have hd : ∀ rows k, domR [(0, 0, Res.sl e sz rows)] k = (k == 0) := fun rows k => by
    unfold domR lookR
    by_cases h : k = 0
    · subst h; rfl
    · simp [h, lookR]
  have hm : ∀ rows : List (List AV), (∀ row ∈ rows, withinL none0 row = true) → rows.map (renL (fun _ => k) (fun _ => ver)) = rows := fun rows hrows => by
    conv => rhs; rw [← List.map_id rows]
    exact List.map_congr_left fun row hrow => renL_none (hrows row hrow)
  have hw : ∀ rows : List (List AV), (∀ row ∈ rows, withinL none0 row = true) → ∀ j, withinRes (domR [(0, 0, Res.sl e sz rows)]) (lookR j [(0, 0, Res.sl e sz rows)]).2 := fun rows hrows j => by
    unfold lookR
    split
    · exact fun row hrow => withinL_none (hrows row hrow)
    · trivial
  refine ⟨args, _, r, _, fun _ => k, fun _ => ver, [0], hfc, rfl, ?_, rfl, ?_, fun k hk => by rw [hd] at hk; simpa using hk, fun k hk => by rw [hd] at hk; simpa using hk, fun j hj k hk _ => by simp at hj hk; omega, hw rows hrows, hw rows' hrows', fun j hj => ?_, fun j hj h1 _ => ?_, rfl, ?_⟩
  · rw [show domR [(0, 0, Res.sl e sz rows)] = fun k => k == 0 from funext (hd rows)]; exact ha
  · rw [show domR [(0, 0, Res.sl e sz rows')] = fun k => k == 0 from funext (hd rows')]; exact hr
  · rw [hd] at hj
    obtain rfl : j = 0 := by simpa using hj
    rw [hk]
    show (ver, Res.sl e sz rows) = (0 + ver, .sl e sz (rows.map (renL (fun _ => k) fun _ => ver)))
    rw [hm rows hrows, Nat.zero_add]
  · simp at hj; subst hj
    simp [hd] at h1
  · simp only [List.map_cons, List.map_nil, backV, hd, beq_self_eq_true, if_true]
    show [((.R k, .s ver (.sl e sz rows')) : Loc × Cont)] = [(.R k, .s (0 + ver) (.sl e sz (rows'.map (renL (fun _ => k) fun _ => ver))))]
    rw [hm rows' hrows', Nat.zero_add]

/-- A contract of a function, as calls take it. -/
structure Ct (C : Ctx) where
  g : Nat
  run : Call → Operand → List RV → Oper → St → (List Loc → List (Loc × Cont) → Prop) → Prop
  ok : ∀ {c : Call} {fop : Operand} {caps : List RV} {o : Oper} {st : St} {K : List Loc → List (Loc × Cont) → Prop}, o.op = .call c → c.callee = .value fop → ev st fop = .r (.fn g caps) → run c fop caps o st K → ∃ l outs, K l outs ∧ LStep C o st.n (l.map fun x => (x, st.get x)) outs

def Ct.pure {C : Ctx} (g : Nat) (sp : List AV → (AV → Prop) → Prop) (hok : ∀ args K, sp args K → ∃ r, CallOk C g args r ∧ K r) : Ct C where
  g := g
  run := callT C sp
  ok := callT_ok hok

/-- A call, met by a contract with resources. -/
def callG (sp : St → Nat → List AV → (AV → List Loc → List (Loc × Cont) → Prop) → Prop) (c : Call) (fop : Operand) (caps : List RV) (o : Oper) (st : St) (K : List Loc → List (Loc × Cont) → Prop) : Prop :=
  match o.dst with
  | some d => sp st d (c.args.toList.map (ev st) ++ caps.map AV.r) fun r ls outs => d < st.n ∧ K (rd (fop :: c.args.toList) ++ ls) (outs ++ [(.T d, .a r)])
  | none => sp st 0 (c.args.toList.map (ev st) ++ caps.map AV.r) fun _ ls outs => K (rd (fop :: c.args.toList) ++ ls) (outs ++ [])

def Ct.res {C : Ctx} (g : Nat) (sp : St → Nat → List AV → (AV → List Loc → List (Loc × Cont) → Prop) → Prop) (he : Enters C.P g) (hok : ∀ st d args K, sp st d args K → ∃ r ls outs, CallR C g st args r ls outs ∧ K r ls outs) : Ct C where
  g := g
  run := callG sp
  ok := by
    intro c fop caps o st K ho hc hf h
    unfold callG at h
    cases hd : o.dst with
    | none =>
      simp only [hd] at h
      obtain ⟨r, ls, outs, h1, h2⟩ := hok _ _ _ _ h
      refine ⟨_, _, h2, ?_⟩
      have := LStep_res ho hc hf he (fun d h => by rw [hd] at h; cases h) h1
      rwa [hd] at this
    | some d =>
      simp only [hd] at h
      obtain ⟨r, ls, outs, h1, h3, h2⟩ := hok _ _ _ _ h
      refine ⟨_, _, h2, ?_⟩
      have := LStep_res ho hc hf he (fun d' h => by rw [hd] at h; cases h; exact h3) h1
      rwa [hd] at this

def findC {C : Ctx} (f : Nat) : List (Ct C) → Option (Ct C)
  | [] => none
  | c :: l => if f = c.g then some c else findC f l

theorem findC_g {C : Ctx} {f : Nat} {ct : Ct C} : ∀ {l : List (Ct C)}, findC f l = some ct → ct.g = f
  | c :: l, h => by
    unfold findC at h
    split at h
    · rename_i he; simp at h; subst h; exact he.symm
    · exact findC_g h

end Go.Proofs.YtjbhpoolghfhiaaDoor
namespace Go.Proofs.YtjbhpoolghfhiaaDoor
set_option linter.unusedVariables false
set_option linter.unusedSimpArgs false
set_option maxHeartbeats 10000000
open Go

def plainL : List AV → (List Value → Prop) → Prop
  | [], K => K []
  | .r (.v x) :: l, K => plainL l fun vs => K (x :: vs)
  | _, _ => False

/-- A key: a whole number, a string, a struct of such. -/
def keyK (x : AV) (K : Value → Prop) : Prop :=
  match x with
  | .r (.v (.int k n)) => K (.int k n)
  | .r (.v (.string s)) => K (.string s)
  | .agg cs => plainL cs fun vs => K (.agg vs.toArray)
  | _ => False

theorem plainL_ok : ∀ {l : List AV} {K : List Value → Prop}, plainL l K → ∃ vs, K vs ∧ l = vs.map fun v => .r (.v v)
  | [], K, h => ⟨[], h, rfl⟩
  | .r (.v x) :: l, K, h => by
    obtain ⟨vs, h2, h3⟩ := plainL_ok (l := l) (K := fun vs => K (x :: vs)) h
    exact ⟨x :: vs, h2, by rw [h3]; rfl⟩
  | .r (.rp _) :: _, _, h => h.elim
  | .r (.rs _ _) :: _, _, h => h.elim
  | .r (.fn _ _) :: _, _, h => h.elim
  | .r .nan :: _, _, h => h.elim
  | .r (.ln _) :: _, _, h => h.elim
  | .os _ _ :: _, _, h => h.elim
  | .rf _ _ _ :: _, _, h => h.elim
  | .re _ _ _ _ _ :: _, _, h => h.elim
  | .agg _ :: _, _, h => h.elim
  | .tup _ :: _, _, h => h.elim
  | .any :: _, _, h => h.elim

theorem keyK_ok {x : AV} {K : Value → Prop} (h : keyK x K) : ∃ kv, K kv ∧ ∀ cur g w N v, AR cur g w N x v → v = kv := by
  unfold keyK at h
  split at h
  · exact ⟨_, h, fun cur g w N v hv => inv_v hv⟩
  · exact ⟨_, h, fun cur g w N v hv => inv_v hv⟩
  · obtain ⟨vs, h1, rfl⟩ := plainL_ok h
    refine ⟨_, h1, fun cur g w N v hv => ?_⟩
    obtain ⟨xs, rfl, p1, p2⟩ := inv_agg hv
    congr 1
    apply Array.ext'
    refine List.ext_getElem? fun j => ?_
    by_cases hj : j < vs.length
    · have hx : (vs.map fun v => AV.r (.v v))[j]? = some (.r (.v vs[j])) := by simp [hj]
      have hjx : j < xs.size := by rw [p1]; simpa using hj
      have hy : xs[j]? = some xs[j] := Array.getElem?_eq_getElem hjx
      have := inv_v (p2 j _ _ hx hy)
      simp [hj, hjx, this]
    · have hs : xs.size = vs.length := by simpa using p1
      rw [List.getElem?_eq_none (by simp; omega), List.getElem?_eq_none (by simpa using hj)]
  · exact h.elim

/-- The map's keys are such that the machine compares them one by one. -/
structure MapOk (P : Program) (t : Nat) (f : Value → Option Value) (kv : Value) : Prop where
  law : ∃ kt e, P.underlying t = some (.map kt e) ∧ WideMaps.KeyLaw P kt ∧ (∃ l, keyOf P kt kv = some l) ∧ ∀ k' v', f k' = some v' → ∃ l, keyOf P kt k' = some l

open Classical in
noncomputable def updF (f : Value → Option Value) (kv vv : Value) (k : Value) : Option Value := if k = kv then some vv else f k
def updN (f : Value → Option Value) (kv : Value) (n : Nat) : Nat := match f kv with | some _ => n | none => n + 1

def lookupK (P : Program) (st : St) (t : Nat) (x idx : AV) (K : List Loc → AV → Prop) : Prop :=
  match x with
  | .os k ver => match lookR k st.rs with
    | (cv, .mp f _) => ver = cv ∧ keyK idx fun kv => MapOk P t f kv ∧ match mapT P t with
      | some (_, e) => match zeroT P e with
        | some z => K [.R k] (.r (.v ((f kv).getD z)))
        | none => False
      | none => False
    | _ => False
  | _ => False

def updK (P : Program) (st : St) (t : Nat) (x idx v : AV) (K : List Loc → List (Loc × Cont) → Prop) : Prop :=
  match x with
  | .os k ver => match lookR k st.rs with
    | (cv, .mp f n) => ver = cv ∧ keyK idx fun kv => MapOk P t f kv ∧ match v with
      | .r (.v vv) => K [.R k] [(.R k, .s cv (.mp (updF f kv vv) (updN f kv n)))]
      | _ => False
    | _ => False
  | _ => False

/-- Finding a key. -/
theorem find_ok {P : Program} {kt : Nat} (L : WideMaps.KeyLaw P kt) {es : Array MapEntry} {f : Value → Option Value} {n : Nat} (hm : MapIs es f n) {kv : Value} {l : Lit} (hk : keyOf P kt kv = some l) (hf : ∀ k' v', f k' = some v' → ∃ l, keyOf P kt k' = some l) (w : World) :
    ((Instr.findKey kt kv es.toList).run P w = .ok none w ∧ f kv = none ∧ ∀ e ∈ es.toList, e.key ≠ kv) ∨ ∃ j e, (Instr.findKey kt kv es.toList).run P w = .ok (some (j, e.val)) w ∧ es.toList[j]? = some e ∧ e.key = kv ∧ f kv = some e.val := by
  rcases L.find w hk es.toList (fun e he => hf e.key e.val ((hm.2.1 _ _).2 ⟨e, he, rfl, rfl⟩)) with ⟨h1, h2⟩ | ⟨j, e, h1, h2, h3⟩
  · refine .inl ⟨h1, ?_, h2⟩
    cases hfk : f kv with
    | none => rfl
    | some x =>
      obtain ⟨e, he, hk', _⟩ := (hm.2.1 _ _).1 hfk
      exact absurd hk' (h2 e he)
  · exact .inr ⟨j, e, h1, h2, h3, (hm.2.1 _ _).2 ⟨e, List.mem_of_getElem? h2, h3, rfl⟩⟩

theorem MapIs_push {es : Array MapEntry} {f : Value → Option Value} {n : Nat} (hm : MapIs es f n) {kv vv : Value} {born : Nat} (hn : f kv = none) (hno : ∀ e ∈ es.toList, e.key ≠ kv) : MapIs (es.push ⟨kv, vv, born⟩) (updF f kv vv) (updN f kv n) := by
  refine ⟨by simp [updN, hn, hm.1], fun k x => ?_, ?_⟩
  · simp only [Array.toList_push, List.mem_append, List.mem_singleton]
    unfold updF
    by_cases hk : k = kv
    · subst hk
      rw [if_pos rfl]
      constructor
      · intro h; cases h; exact ⟨_, .inr rfl, rfl, rfl⟩
      · rintro ⟨e, he | rfl, h1, h2⟩
        · exact absurd h1 (hno e he)
        · exact congrArg some h2
    · rw [if_neg hk, hm.2.1]
      constructor
      · rintro ⟨e, he, h1, h2⟩; exact ⟨e, .inl he, h1, h2⟩
      · rintro ⟨e, he | rfl, h1, h2⟩
        · exact ⟨e, he, h1, h2⟩
        · exact absurd h1.symm hk
  · rw [Array.toList_push, List.map_append]
    refine List.nodup_append.2 ⟨hm.2.2, by simp, fun a ha b hb => ?_⟩
    simp at hb
    obtain ⟨e, he, rfl⟩ := List.mem_map.1 ha
    rw [hb]
    exact hno e he

theorem MapIs_modify {es : Array MapEntry} {f : Value → Option Value} {n : Nat} (hm : MapIs es f n) {kv vv : Value} {j : Nat} {e0 : MapEntry} (hj : es.toList[j]? = some e0) (hk0 : e0.key = kv) (hf : f kv = some e0.val) : MapIs (es.modify j fun e => { e with key := kv, val := vv }) (updF f kv vv) (updN f kv n) := by
  have hjl : j < es.toList.length := (List.getElem?_eq_some_iff.1 hj).1
  have hl : (es.modify j fun e => { e with key := kv, val := vv }).toList = es.toList.set j { e0 with key := kv, val := vv } := by
    rw [Array.toList_modify]
    refine List.ext_getElem? fun i => ?_
    rw [List.getElem?_modify, List.getElem?_set]
    by_cases h : j = i
    · subst h; rw [if_pos rfl, if_pos hjl, hj]; simp
    · rw [if_neg h]; simp [h]
  have hkeys : (es.toList.set j { e0 with key := kv, val := vv }).map (·.key) = es.toList.map (·.key) := by
    rw [List.map_set]
    show (es.toList.map (·.key)).set j kv = _
    refine List.ext_getElem? fun i => ?_
    rw [List.getElem?_set]
    by_cases h : j = i
    · subst h; rw [if_pos rfl, if_pos (by simpa using hjl), List.getElem?_map, hj, ← hk0]; rfl
    · rw [if_neg h]
  refine ⟨by simp [updN, hf, hm.1], fun k x => ?_, by rw [hl, hkeys]; exact hm.2.2⟩
  rw [hl]
  have uniq : ∀ i e, es.toList[i]? = some e → e.key = kv → i = j := fun i e hi he => by
    have hn := hm.2.2
    have h1 : (es.toList.map (·.key))[i]? = some kv := by rw [List.getElem?_map, hi]; exact congrArg some he
    have h2 : (es.toList.map (·.key))[j]? = some kv := by rw [List.getElem?_map, hj]; exact congrArg some hk0
    exact (List.getElem?_inj (List.getElem?_eq_some_iff.1 h1).1 hn).1 (h1.trans h2.symm)
  unfold updF
  by_cases hk : k = kv
  · subst hk
    rw [if_pos rfl]
    constructor
    · intro h; cases h
      exact ⟨_, List.mem_of_getElem? (by rw [List.getElem?_set, if_pos rfl, if_pos hjl]), rfl, rfl⟩
    · rintro ⟨e, he, h1, h2⟩
      obtain ⟨i, hi⟩ := List.getElem?_of_mem he
      rw [List.getElem?_set] at hi
      by_cases hji : j = i
      · rw [if_pos hji, if_pos (by omega)] at hi
        cases hi; exact congrArg some h2
      · rw [if_neg hji] at hi
        exact absurd (uniq i e hi h1).symm hji
  · rw [if_neg hk, hm.2.1]
    constructor
    · rintro ⟨e, he, h1, h2⟩
      obtain ⟨i, hi⟩ := List.getElem?_of_mem he
      refine ⟨e, List.mem_of_getElem? (i := i) ?_, h1, h2⟩
      rw [List.getElem?_set, if_neg]
      · exact hi
      · rintro rfl; rw [hj] at hi; cases hi; exact hk (h1.symm.trans hk0)
    · rintro ⟨e, he, h1, h2⟩
      obtain ⟨i, hi⟩ := List.getElem?_of_mem he
      rw [List.getElem?_set] at hi
      by_cases hji : j = i
      · rw [if_pos hji, if_pos (by omega)] at hi
        cases hi; exact absurd h1.symm hk
      · rw [if_neg hji] at hi
        exact ⟨e, List.mem_of_getElem? hi, h1, h2⟩

section
variable {C : Ctx}

theorem map_at {e : Env} {st : St} {g : Gh} {a : Act} {w : World} (hs : SR C e st g a w) {k ver n : Nat} {f : Value → Option Value} (hk : lookR k st.rs = (ver, .mp f n)) : ∃ b es clock, g k = .map (some b) ∧ w.heap[b]? = some (.map es clock) ∧ MapIs es f n := by
  have := hs.res k
  rwa [hk] at this

theorem lookup_ok {st : St} {d t : Nat} {x i : Operand} {o : Oper} {K : List Loc → List (Loc × Cont) → Prop} (hdst : o.dst = some d) (ho : o.op = .lookup t x i false) (hd : d < st.n)
    (h : lookupK C.P st t (ev st x) (ev st i) fun l r => K (l ++ rd [x, i]) [(.T d, .a r)]) : ∃ l outs, K l outs ∧ LStep C o st.n (l.map fun x => (x, st.get x)) outs := by
  unfold lookupK at h
  split at h
  · rename_i k ver hx
    split at h
    · rename_i cv f n hk
      obtain ⟨rfl, h⟩ := h
      obtain ⟨kv, ⟨hmo, h⟩, hkv⟩ := keyK_ok h
      split at h
      · rename_i kt0 e0 hmt
        split at h
        · rename_i z hz
          obtain ⟨kt, el, hu, L, ⟨l, hl⟩, hf⟩ := hmo.law
          have he0 : el = e0 := by
            unfold mapT at hmt; rw [hu] at hmt; simp at hmt; exact hmt.2
          subst he0
          have hzr : ∀ w, (zeroValue el).run C.P w = .ok z w := fun w => by
            unfold zeroT at hz
            split at hz
            · rename_i i hi; simp [zeroValue, typeInfo, hi, hz]
            · cases hz
          refine ⟨_, _, h, LStep_val hdst hd fun e st' g a w hs ha => ?_⟩
          have ha0 := Agree_of.1 ha
          have hk' := (ha0.R (k := k) (by simp)).trans hk
          have hard : Ag (rd [x, i]) st st' := fun y hy => ha0 y (by simp [hy])
          have h1 := arg hs hard (x := x) (by simp)
          have h2 := arg hs hard (x := i) (by simp)
          rw [hx] at h1
          obtain ⟨b, es, clock, hg, hb, hm⟩ := map_at hs hk'
          have e1 : a.eval x = .map (some b) := by rw [inv_os h1 (curk k hk').symm, hg]
          have e2 := hkv _ _ _ _ _ h2
          have run : ∀ v, (Instr.lookup t (.map (some b)) kv false).run C.P w = .ok v w → (execOp a.eval o).run C.P w = .ok (.value v) w := fun v hv => by
            simp only [execOp, ho, Sem.run_bind, e1, e2]; rw [hv]; rfl
          rcases find_ok L hm hl hf w with ⟨q1, q2, _⟩ | ⟨j, e0, q1, _, _, q2⟩
          · refine ⟨z, w, run z ?_, rfl, rfl, rfl, rfl, by rw [q2]; exact .r (.v _)⟩
            simp [Instr.lookup, run_underlying hu, MapKept.run_getObj_map hb, L.check w _ hl, q1, hzr w, Result.andThen]
          · refine ⟨e0.val, w, run _ ?_, rfl, rfl, rfl, rfl, by rw [q2]; exact .r (.v _)⟩
            simp [Instr.lookup, run_underlying hu, MapKept.run_getObj_map hb, L.check w _ hl, q1, Result.andThen]
        · exact h.elim
      · exact h.elim
    · exact h.elim
  · exact h.elim

theorem upd_ok {st : St} {t : Nat} {x i v : Operand} {o : Oper} {K : List Loc → List (Loc × Cont) → Prop} (hdst : o.dst = none) (ho : o.op = .mapUpdate t x i v)
    (h : updK C.P st t (ev st x) (ev st i) (ev st v) fun l outs => K (l ++ rd [x, i, v]) outs) : ∃ l outs, K l outs ∧ LStep C o st.n (l.map fun x => (x, st.get x)) outs := by
  unfold updK at h
  split at h
  · rename_i k ver hx
    split at h
    · rename_i cv f n hk
      obtain ⟨rfl, h⟩ := h
      obtain ⟨kv, ⟨hmo, h⟩, hkv⟩ := keyK_ok h
      split at h
      · rename_i vv hvv
        obtain ⟨kt, el, hu, L, ⟨l, hl⟩, hf⟩ := hmo.law
        refine ⟨_, _, h, fun e st' a w next Q hn ⟨heok, g, hs⟩ ha hnext => ?_⟩
        have ha0 := Agree_of.1 ha
        have hk' := (ha0.R (k := k) (by simp)).trans hk
        have hard : Ag (rd [x, i, v]) st st' := fun y hy => ha0 y (by simp [hy])
        have h1 := arg hs hard (x := x) (by simp)
        have h2 := arg hs hard (x := i) (by simp)
        have h3 := arg hs hard (x := v) (by simp)
        rw [hx] at h1
        rw [hvv] at h3
        obtain ⟨b, es, clock, hg, hb, hm⟩ := map_at hs hk'
        have e1 : a.eval x = .map (some b) := by rw [inv_os h1 (curk k hk').symm, hg]
        have e2 := hkv _ _ _ _ _ h2
        have e3 := inv_v h3
        have hblk : blk st' g k = some b := by simp only [blk, hk', hg, hblock]
        have hbs : b < w.heap.size := (hs.low k b hblk).2.1
        have fin : ∀ es' clock', (Instr.mapUpdate t (.map (some b)) kv vv).run C.P w = .ok () { w with heap := w.heap.setIfInBounds b (.map es' clock') } → MapIs es' (updF f kv vv) (updN f kv n) → o.wp C.P a w next Q := by
          intro es' clock' hr hm'
          refine wp_skip' hdst ?_ (hnext a { w with heap := w.heap.setIfInBounds b (.map es' clock') } ⟨heok, g, ?_⟩)
          · simp only [execOp, ho, Sem.run_bind, e1, e2, e3]; rw [hr]; rfl
          · have hat : ({ w with heap := w.heap.setIfInBounds b (.map es' clock') } : World).heap[b]? = some (.map es' clock') := by simp [hbs]
            have := (hs.turn k ver (.mp (updF f kv vv) (updN f kv n)) (g k) (w' := { w with heap := w.heap.setIfInBounds b (.map es' clock') }) rfl rfl rfl (by simp) (fun b' hb' hne => by
                have : b ≠ b' := fun he => hne (by rw [← he]; exact hblk)
                show (w.heap.setIfInBounds b _)[b']? = _
                rw [Array.getElem?_setIfInBounds_ne this])
              (.inr ⟨curk k hk', rfl⟩) (fun b' _ hb' => by rw [hg] at hb'; simp [hblock] at hb'; subst hb'; exact ⟨by simpa using hbs, .inl hblk⟩) heok
              (fun st2 g2 _ hg2 _ => ⟨b, es', clock', by rw [hg2, putR_same (st := st')]; exact hg, hat, hm'⟩)).1
            rw [putR_same (st := st')] at this
            exact this
        rcases find_ok L hm hl hf w with ⟨q1, q2, q3⟩ | ⟨j, e0, q1, q2, q3, q4⟩
        · refine fin _ (clock + 1) ?_ (MapIs_push (born := clock) hm q2 q3)
          simp [Instr.mapUpdate, run_underlying hu, MapKept.run_getObj_map hb, L.check w false hl, q1, MapKept.run_setObj_map _ hb, Result.andThen]
        · have hj : es[j]? = some e0 := by simpa using q2
          refine fin _ clock ?_ (MapIs_modify hm q2 q3 q4)
          simp [Instr.mapUpdate, run_underlying hu, MapKept.run_getObj_map hb, L.check w false hl, q1, hj, q3, L.stays w hl, MapKept.run_setObj_map _ hb, Result.andThen]
      · exact h.elim
    · exact h.elim
  · exact h.elim

end

end Go.Proofs.YtjbhpoolghfhiaaDoor
namespace Go.Proofs.YtjbhpoolghfhiaaDoor
set_option linter.unusedVariables false
set_option linter.unusedSimpArgs false
set_option maxHeartbeats 10000000
open Go

def lookN (j : Nat) : List (Nat × Nat) → Option Nat
  | [] => none
  | (k, d) :: l => if j = k then some d else lookN j l

/-- What is left of a region's operations, told of states; done: the slots of those that are done. -/
def lopsX (C : Ctx) (k : Nat) (done : List (Nat × Nat)) (l : List Oper) (st : St) (K : St → Prop) : Prop :=
  ∀ ops : Array Oper, ops.toList.drop k = l → (∀ j d, lookN j done = some d → (ops[j]?).bind (·.dst) = some d) → lops C ops l st K

/-- A test: both ways. -/
def CondG (q : Bool) (A B : Unit → Prop) : Prop := (q = true → A ()) ∧ (q = false → B ())

/-- A call that is still to be met by a contract. -/
def CallG (C : Ctx) (o : Oper) (st : St) (K : List Loc → List (Loc × Cont) → Prop) : Prop := ∃ l outs, K l outs ∧ LStep C o st.n (l.map fun x => (x, st.get x)) outs

/-- A region that draws its order, still to be met. -/
def DrawG (C : Ctx) (id : Nat) (ops : Array Oper) (st : St) (K : St → Prop) : Prop :=
  ∀ (e : Env) (a : Act) (w : World) (Q : Exit → Act → World → Prop), S C e st a w → (∀ a' w' st', S C e st' a' w' → K st' → Q .normal a' w') → (Code.region id ops true).wp C.P Q a w


/-- A guard that is not decided: both ways. -/
def GuardG (q : Bool) (A B : Unit → Prop) : Prop := (q = true → A ()) ∧ (q = false → B ())
theorem GuardG_true (A B : Unit → Prop) : GuardG true A B = A () := by simp [GuardG]
theorem GuardG_false (A B : Unit → Prop) : GuardG false A B = B () := by simp [GuardG]

theorem CondG_true (A B : Unit → Prop) : CondG true A B = A () := by simp [CondG]
theorem CondG_false (A B : Unit → Prop) : CondG false A B = B () := by simp [CondG]

/-- A call of a function, or another operation. -/
def opG (C : Ctx) (T : List (Ct C)) (o : Oper) (st : St) (K : List Loc → List (Loc × Cont) → Prop) : Prop :=
  match o.op with
  | .call c => match c.callee with
    | .value fop => match ev st fop with
      | .r (.fn f caps) => match findC f T with
        | some ct => ct.run c fop caps o st K
        | none => CallG C o st K
      | _ => False
    | _ => opK C o st K
  | .lookup t x i false => match o.dst with
    | some d => d < st.n ∧ lookupK C.P st t (ev st x) (ev st i) fun l r => K (l ++ rd [x, i]) [(.T d, .a r)]
    | none => opK C o st K
  | .mapUpdate t x i v => match o.dst with
    | none => updK C.P st t (ev st x) (ev st i) (ev st v) fun l outs => K (l ++ rd [x, i, v]) outs
    | some _ => opK C o st K
  | _ => opK C o st K

theorem opG_ok {C : Ctx} {T : List (Ct C)} {o : Oper} {st : St} {K : List Loc → List (Loc × Cont) → Prop} (h : opG C T o st K) : ∃ l outs, K l outs ∧ LStep C o st.n (l.map fun x => (x, st.get x)) outs := by
  unfold opG at h
  split at h
  · rename_i c ho
    split at h
    · rename_i fop hc
      split at h
      · rename_i f caps hf
        split at h
        · rename_i ct hct
          have := findC_g hct
          subst this
          exact ct.ok ho hc hf h
        · exact h
      · exact h.elim
    · exact opK_ok h
  · rename_i t x i ho
    split at h
    · rename_i d hd
      exact lookup_ok hd ho h.1 h.2
    · exact opK_ok h
  · rename_i t x i v ho
    split at h
    · rename_i hd
      exact upd_ok hd ho h
    · exact opK_ok h
  · exact opK_ok h

theorem opG_ok' {C : Ctx} {T : List (Ct C)} {o : Oper} {st : St} {K : List (Loc × Cont) → Prop} (h : opG C T o st fun _ outs => K outs) : ∃ ins outs, LStep C o st.n ins outs ∧ Agree st ins ∧ K outs := by
  obtain ⟨l, outs, h1, h2⟩ := opG_ok h
  exact ⟨_, outs, h2, Agree_of.2 fun _ _ => rfl, h1⟩

def dstOk (o : Oper) (n : Nat) : Bool := match o.dst with | some d => decide (d < n) | none => true

/-- An operation with its guard. -/
def stepG' (C : Ctx) (T : List (Ct C)) (done : List (Nat × Nat)) (o : Oper) (st : St) (K : St → Prop) : Prop :=
  match o.guard with
  | none => CallG C o st fun _ outs => K (st.upd outs)
  | some (j, b) => match lookN j done with
    | some d => match lookT d st.t with
      | .r (.v (.bool q)) => GuardG (q == b) (fun _ => CallG C o st fun _ outs => K (st.upd outs)) (fun _ => dstOk o st.n = true ∧ K (skipped o st))
      | .r (.v (.tuple _)) => dstOk o st.n = true ∧ K (skipped o st)
      | _ => False
    | none => False

def addN (k : Nat) (d : Option Nat) (done : List (Nat × Nat)) : List (Nat × Nat) := match d with | some d => (k, d) :: done | none => done

theorem stepG_ok {C : Ctx} {T : List (Ct C)} {k : Nat} {done : List (Nat × Nat)} {o : Oper} {l : List Oper} {st : St} {K K' : St → Prop} (h : stepG' C T done o st K') (hk : ∀ s, K' s → lopsX C (k + 1) (addN k o.dst done) l s K) : lopsX C k done (o :: l) st K := by
  intro ops hops hdone
  have h0 : ops.toList[k]? = some o := by
    have : (ops.toList.drop k)[0]? = some o := by rw [hops]; rfl
    simpa using this
  have hk' : ∀ s, K' s → lops C ops l s K := fun s hs => hk s hs ops (by rw [← List.drop_drop, hops]; rfl) (fun j d hj => by
    unfold addN at hj
    split at hj
    · rename_i d' hd'
      unfold lookN at hj
      split at hj
      · rename_i he
        subst he
        simp at hj
        subst hj
        have : ops[j]? = some o := by simpa using h0
        simp [this, hd']
      · exact hdone j d hj
    · exact hdone j d hj)
  unfold stepG' at h
  split at h
  · rename_i hg
    obtain ⟨l', outs, h3, h1⟩ := h
    have h2 : Agree st (l'.map fun x => (x, st.get x)) := Agree_of.2 fun _ _ => rfl
    exact lops_step hg h1 h2 (hk' _ h3)
  · rename_i j b hg
    split at h
    · rename_i d hd
      replace hd := hdone j d hd
      split at h
      · rename_i q hq
        by_cases he : (q == b) = true
        · replace h := h.1 he
          have : q = b := by simpa using he
          subst this
          obtain ⟨l', outs, h3, h1⟩ := h
          have h2 : Agree st (l'.map fun x => (x, st.get x)) := Agree_of.2 fun _ _ => rfl
          exact lops_guard_yes hg hd hq h1 h2 (hk' _ h3)
        · replace h := h.2 (by simpa using he)
          have : q = !b := by cases q <;> cases b <;> simp_all
          subst this
          refine lops_guard_no hg hd hq (fun d' hd' => ?_) (hk' _ h.2)
          have := h.1
          simpa [dstOk, hd'] using this
      · rename_i xs hq
        refine lops_guard_un hg hd hq (fun d' hd' => ?_) (hk' _ h.2)
        have := h.1
        simpa [dstOk, hd'] using this
      · exact h.elim
    · exact h.elim

end Go.Proofs.YtjbhpoolghfhiaaDoor
namespace Go.Proofs.YtjbhpoolghfhiaaDoor
set_option linter.unusedVariables false
set_option linter.unusedSimpArgs false
set_option maxHeartbeats 10000000
open Go

/-- Slots get what slots hold, resources what resources hold. -/
def wk : List (Loc × Cont) → Bool
  | [] => true
  | (.T _, .a _) :: l => wk l
  | (.R _, .s _ _) :: l => wk l
  | _ => false

/-- An operation with its guard, in whatever order: what it reads, what it writes. -/
def stepD (C : Ctx) (T : List (Ct C)) (done : List (Nat × Nat)) (o : Oper) (st : St) (K : List Loc → List (Loc × Cont) → Prop) : Prop :=
  match o.guard with
  | none => CallG C o st fun l outs => wk outs = true ∧ K l outs
  | some (j, b) => match lookN j done with
    | some d => match lookT d st.t with
      | .r (.v (.bool q)) => GuardG (q == b) (fun _ => CallG C o st fun l outs => wk outs = true ∧ K (.T d :: l) outs) (fun _ => dstOk o st.n = true ∧ ∃ l, match o.dst with | some d' => K (.T d :: l) [(.T d', .a (.r (.v (.tuple #[]))))] | none => K (.T d :: l) [])
      | .r (.v (.tuple _)) => dstOk o st.n = true ∧ ∃ l, match o.dst with | some d' => K (.T d :: l) [(.T d', .a (.r (.v (.tuple #[]))))] | none => K (.T d :: l) []
      | _ => False
    | none => False

/-- A region's operations in the text's order, with what each reads and writes. -/
def drun (C : Ctx) (T : List (Ct C)) : Nat → List (Nat × Nat) → List Oper → St → List (List Loc × List Loc) → (List (List Loc × List Loc) → St → Prop) → Prop
  | _, _, [], st, fps, K => K fps st
  | k, done, o :: l, st, fps, K => stepD C T done o st fun rds outs => drun C T (k + 1) (addN k o.dst done) l (st.upd outs) (fps ++ [(rds, outs.map (·.1))]) K

/-- Which operations stand ahead of each. -/
def edgesOf (ops : List Oper) : List (List Nat) := ops.map fun o => (o.after.toList.filter (Region.binds .any)).map (·.on)

def befs (edges : List (List Nat)) : List Nat := edges.foldl (fun acc es => acc ++ [es.foldl (fun s e => s ||| 2 ^ e ||| acc.getD e 0) 0]) []

def disj (a b : List Loc) : Bool := a.all fun x => !b.contains x

/-- Two operations that no edge orders do not meet. -/
def apartB (p q : List Loc × List Loc) : Bool := disj p.2 q.1 && disj p.2 q.2 && disj q.2 p.1

def indepB (edges : List (List Nat)) (fps : List (List Loc × List Loc)) : Bool :=
  let b := befs edges
  (edges.zipIdx.all fun (es, j) => es.all fun e => decide (e < j)) && (List.range fps.length).all fun j => (List.range j).all fun i => (b.getD j 0).testBit i || apartB (fps.getD i ([], [])) (fps.getD j ([], []))

/-- An operation of a region, in a state that holds what it reads. -/
def DStep (C : Ctx) (ops : Array Oper) (i n : Nat) (ins outs : List (Loc × Cont)) : Prop :=
  ∀ (e : Env) (st : St) (a : Act) (w : World) (next : Act → World → Prop) (Q : Exit → Act → World → Prop), st.n = n → S C e st a w → Agree st ins →
    (∀ a' w', S C e (st.upd outs) a' w' → next a' w') → wpOp C.P ops Q i next a w

/-- The trace of a region in the text's order. -/
def TR (C : Ctx) (ops : Array Oper) : Nat → St → List (List Loc × List (Loc × Cont)) → St → Prop
  | _, st, [], st' => st = st'
  | k, st, (rds, outs) :: L, st' => DStep C ops k st.n (rds.map fun x => (x, st.get x)) outs ∧ wk outs = true ∧ TR C ops (k + 1) (st.upd outs) L st'

theorem DStep_of {C : Ctx} {T : List (Ct C)} {ops : Array Oper} {k : Nat} {done : List (Nat × Nat)} {o : Oper} {st : St} {K : List Loc → List (Loc × Cont) → Prop} (h : stepD C T done o st K) (ho : ops[k]? = some o) (hdone : ∀ j d, lookN j done = some d → (ops[j]?).bind (·.dst) = some d) :
    ∃ l outs, DStep C ops k st.n (l.map fun x => (x, st.get x)) outs ∧ wk outs = true ∧ K l outs := by
  unfold stepD at h
  split at h
  · rename_i hg
    obtain ⟨l, outs, ⟨h2, h3⟩, h1⟩ := h
    refine ⟨l, outs, fun e st' a w next Q hn hs ha hnext => ?_, h2, h3⟩
    unfold wpOp
    rw [ho]
    simp only [Region.wanted, hg, if_true]
    exact .inl (h1 e st' a w next Q hn hs ha hnext)
  · rename_i j b hg
    split at h
    · rename_i d hd
      replace hd := hdone j d hd
      split at h
      · rename_i q hq
        by_cases he : (q == b) = true
        · replace h := h.1 he
          have : q = b := by simpa using he
          subst this
          obtain ⟨l, outs, ⟨h2, h3⟩, h1⟩ := h
          refine ⟨_, outs, fun e st' a w next Q hn hs ha hnext => ?_, h2, h3⟩
          replace ha := Agree_of.1 ha
          obtain ⟨hok, g, hr⟩ := id hs
          have h4 := hr.temps d
          rw [ha.T (d := d) (by simp), hq] at h4
          unfold wpOp
          rw [ho]
          simp only [Region.wanted, hg, yielded_of hd (AR_bool h4), beq_self_eq_true, if_true]
          exact .inl (h1 e st' a w next Q hn hs (Agree_of.2 fun x hx => ha x (List.mem_cons_of_mem _ hx)) hnext)
        · replace h := h.2 (by simpa using he)
          have : q = !b := by cases q <;> cases b <;> simp_all
          subst this
          have key : ∀ (e : Env) (st' : St) (a : Act) (w : World) (next : Act → World → Prop) (Q : Exit → Act → World → Prop), st'.n = st.n → S C e st' a w → Ag [.T d] st st' →
              (∀ a' w', S C e (skipped o st') a' w' → next a' w') → wpOp C.P ops Q k next a w := by
            intro e st' a w next Q hn hs ha hnext
            obtain ⟨hok, g, hr⟩ := id hs
            have h4 := hr.temps d
            rw [ha.T (d := d) (by simp), hq] at h4
            unfold wpOp
            rw [ho]
            have hw : Region.wanted o (yielded ops a.tmps) = false := by simp [Region.wanted, hg, yielded_of hd (AR_bool h4)]
            simp only [hw, Bool.false_eq_true, if_false]
            refine hnext _ w (skip_ok o (fun d' hd' => ?_) hs)
            have := h.1
            rw [hn]; simpa [dstOk, hd'] using this
          obtain ⟨lx, h5⟩ := h.2
          split at h5
          · rename_i d' hd'
            refine ⟨_, _, fun e st' a w next Q hn hs ha hnext => key e st' a w next Q hn hs (fun x hx => Agree_of.1 ha x (by simp at hx; simp [hx])) fun a' w' h6 => hnext a' w' ?_, rfl, h5⟩
            simpa [skipped, hd', St.upd, St.set] using h6
          · rename_i hd'
            refine ⟨_, _, fun e st' a w next Q hn hs ha hnext => key e st' a w next Q hn hs (fun x hx => Agree_of.1 ha x (by simp at hx; simp [hx])) fun a' w' h6 => hnext a' w' ?_, rfl, h5⟩
            simpa [skipped, hd', St.upd, St.set] using h6
      · rename_i xs hq
        have key : ∀ (e : Env) (st' : St) (a : Act) (w : World) (next : Act → World → Prop) (Q : Exit → Act → World → Prop), st'.n = st.n → S C e st' a w → Ag [.T d] st st' →
            (∀ a' w', S C e (skipped o st') a' w' → next a' w') → wpOp C.P ops Q k next a w := by
          intro e st' a w next Q hn hs ha hnext
          obtain ⟨hok, g, hr⟩ := id hs
          have h4 := hr.temps d
          rw [ha.T (d := d) (by simp), hq] at h4
          unfold wpOp
          rw [ho]
          have hw : Region.wanted o (yielded ops a.tmps) = false := by simp [Region.wanted, hg, yielded_un hd (AR_tuple h4)]
          simp only [hw, Bool.false_eq_true, if_false]
          refine hnext _ w (skip_ok o (fun d' hd' => ?_) hs)
          have := h.1
          rw [hn]; simpa [dstOk, hd'] using this
        obtain ⟨lx, h5⟩ := h.2
        split at h5
        · rename_i d' hd'
          refine ⟨_, _, fun e st' a w next Q hn hs ha hnext => key e st' a w next Q hn hs (fun x hx => Agree_of.1 ha x (by simp at hx; simp [hx])) fun a' w' h6 => hnext a' w' ?_, rfl, h5⟩
          simpa [skipped, hd', St.upd, St.set] using h6
        · rename_i hd'
          refine ⟨_, _, fun e st' a w next Q hn hs ha hnext => key e st' a w next Q hn hs (fun x hx => Agree_of.1 ha x (by simp at hx; simp [hx])) fun a' w' h6 => hnext a' w' ?_, rfl, h5⟩
          simpa [skipped, hd', St.upd, St.set] using h6
      · exact h.elim
    · exact h.elim

theorem drun_ok {C : Ctx} {T : List (Ct C)} {ops : Array Oper} : ∀ {l : List Oper} {k : Nat} {done : List (Nat × Nat)} {st : St} {fps : List (List Loc × List Loc)} {K : List (List Loc × List Loc) → St → Prop}, drun C T k done l st fps K → ops.toList.drop k = l → (∀ j d, lookN j done = some d → (ops[j]?).bind (·.dst) = some d) →
    ∃ L st', TR C ops k st L st' ∧ L.length = l.length ∧ K (fps ++ L.map fun p => (p.1, p.2.map (·.1))) st'
  | [], k, done, st, fps, K, h, _, _ => ⟨[], st, rfl, rfl, by simpa [drun] using h⟩
  | o :: l, k, done, st, fps, K, h, hops, hdone => by
    have h0 : ops[k]? = some o := by
      have : (ops.toList.drop k)[0]? = some o := by rw [hops]; rfl
      simpa using this
    obtain ⟨rds, outs, h1, h2, h3⟩ := DStep_of h h0 hdone
    obtain ⟨L, st', q1, q2, q3⟩ := drun_ok h3 (by rw [← List.drop_drop, hops]; rfl) (fun j d hj => by
      unfold addN at hj
      split at hj
      · rename_i d' hd'
        unfold lookN at hj
        split at hj
        · rename_i he
          subst he
          simp at hj
          subst hj
          simp [h0, hd']
        · exact hdone j d hj
      · exact hdone j d hj)
    exact ⟨(rds, outs) :: L, st', ⟨h1, h2, q1⟩, by simp [q2], by simpa using q3⟩

end Go.Proofs.YtjbhpoolghfhiaaDoor
namespace Go.Proofs.YtjbhpoolghfhiaaDoor
set_option linter.unusedVariables false
set_option linter.unusedSimpArgs false
set_option maxHeartbeats 10000000
open Go

abbrev Tr := List (List Loc × List (Loc × Cont))

theorem set_n (st : St) (l : Loc) (c : Cont) : (st.set l c).n = st.n := by cases l <;> cases c <;> rfl
theorem upd_n : ∀ (outs : List (Loc × Cont)) (st : St), (st.upd outs).n = st.n
  | [], _ => rfl
  | (l, c) :: r, st => by simp only [St.upd, upd_n r, set_n]

theorem get_set (st : St) (l m : Loc) (c : Cont) (hw : wk [(l, c)] = true) : (st.set l c).get m = if m = l then c else st.get m := by
  cases l <;> cases c <;> simp [wk] at hw
  · rename_i d x
    cases m with
    | T d' => simp only [St.set, St.get, lookT_put, Loc.T.injEq]; split <;> rfl
    | R k => simp [St.set, St.get]
  · rename_i k ver x
    cases m with
    | T d => simp [St.set, St.get]
    | R k' => simp only [St.set, St.get, lookR_put, Loc.R.injEq]; split <;> rfl

theorem wk_cons {l : Loc} {c : Cont} {r : List (Loc × Cont)} (h : wk ((l, c) :: r) = true) : wk [(l, c)] = true ∧ wk r = true := by
  cases l <;> cases c <;> simp [wk] at h ⊢ <;> exact h

theorem get_upd_out : ∀ {outs : List (Loc × Cont)} (st : St) {m : Loc}, wk outs = true → m ∉ outs.map (·.1) → (st.upd outs).get m = st.get m
  | [], _, _, _, _ => rfl
  | (l, c) :: r, st, m, hw, hm => by
    obtain ⟨h1, h2⟩ := wk_cons hw
    simp at hm
    simp only [St.upd]
    rw [get_upd_out _ h2 (by simpa using hm.2), get_set _ _ _ _ h1, if_neg hm.1]

theorem get_upd_in : ∀ {outs : List (Loc × Cont)} (st st' : St) {m : Loc}, wk outs = true → m ∈ outs.map (·.1) → (st.upd outs).get m = (st'.upd outs).get m
  | (l, c) :: r, st, st', m, hw, hm => by
    obtain ⟨h1, h2⟩ := wk_cons hw
    simp only [St.upd]
    by_cases h3 : m ∈ r.map (·.1)
    · exact get_upd_in _ _ h2 h3
    · rw [get_upd_out _ h2 h3, get_upd_out _ h2 h3, get_set _ _ _ _ h1, get_set _ _ _ _ h1]
      have : m = l := by simp at hm h3; rcases hm with h | ⟨x, h⟩; exact h; exact absurd h (h3 x)
      simp [this]

/-- The state behind the first k operations. -/
def sts (st : St) (L : Tr) (k : Nat) : St := (L.take k).foldl (fun s p => s.upd p.2) st

theorem sts_n (st : St) (L : Tr) (k : Nat) : (sts st L k).n = st.n := by
  unfold sts
  generalize L.take k = M
  induction M generalizing st with
  | nil => rfl
  | cons p M ih => simp only [List.foldl_cons, ih, upd_n]

theorem sts_succ (st : St) (L : Tr) (k : Nat) (p : List Loc × List (Loc × Cont)) (h : L[k]? = some p) : sts st L (k + 1) = (sts st L k).upd p.2 := by
  unfold sts
  have hk := (List.getElem?_eq_some_iff.1 h).1
  have : L.take (k + 1) = L.take k ++ [p] := by
    rw [List.take_add_one, h]; rfl
  rw [this, List.foldl_append]; rfl

theorem TR_get {C : Ctx} {ops : Array Oper} : ∀ {L : Tr} {k : Nat} {st st' : St}, TR C ops k st L st' → (st' = sts st L L.length ∧ ∀ i p, L[i]? = some p → DStep C ops (k + i) st.n (p.1.map fun x => (x, (sts st L i).get x)) p.2 ∧ wk p.2 = true)
  | [], k, st, st', h => ⟨h.symm, fun i p hp => by simp at hp⟩
  | (rds, outs) :: L, k, st, st', ⟨h1, h2, h3⟩ => by
    obtain ⟨q1, q2⟩ := TR_get h3
    refine ⟨by rw [q1]; simp [sts], fun i p hp => ?_⟩
    cases i with
    | zero => simp at hp; subst hp; simpa [sts] using ⟨h1, h2⟩
    | succ i =>
      obtain ⟨r1, r2⟩ := q2 i p (by simpa using hp)
      rw [upd_n] at r1
      refine ⟨?_, r2⟩
      have e : k + 1 + i = k + (i + 1) := by omega
      rw [e] at r1
      simpa [sts] using r1

/-- Does operation i write there? -/
def wr (L : Tr) (i : Nat) (m : Loc) : Bool := match L[i]? with | some p => (p.2.map (·.1)).contains m | none => false

/-- One more than the last operation of a set that writes there. -/
def lw (L : Tr) (E : Nat → Bool) (m : Loc) : Nat → Nat
  | 0 => 0
  | k + 1 => if (E k && wr L k m) = true then k + 1 else lw L E m k

theorem lw_congr {L : Tr} {E E' : Nat → Bool} {m : Loc} : ∀ {n : Nat}, (∀ j, j < n → (E j && wr L j m) = (E' j && wr L j m)) → lw L E m n = lw L E' m n
  | 0, _ => rfl
  | k + 1, h => by
    simp only [lw, h k (by omega)]
    rw [lw_congr fun j hj => h j (by omega)]

/-- What stands at a place behind the first k operations is what the last of them that writes there has left. -/
theorem sts_lw {st : St} {L : Tr} (hw : ∀ (i : Nat) (p : List Loc × List (Loc × Cont)), L[i]? = some p → wk p.2 = true) (m : Loc) : ∀ k, k ≤ L.length → (sts st L k).get m = (sts st L (lw L (fun _ => true) m k)).get m
  | 0, _ => rfl
  | k + 1, hk => by
    simp only [lw, Bool.true_and]
    split
    · rfl
    · rename_i hn
      have hp : L[k]? = some L[k] := List.getElem?_eq_getElem (by omega)
      rw [sts_succ _ _ _ _ hp, get_upd_out _ (hw _ _ hp)]
      · exact sts_lw hw m k (by omega)
      · simp only [wr, hp, List.contains_iff_mem] at hn
        exact hn

theorem lw_cut {L : Tr} {E : Nat → Bool} {m : Loc} {k : Nat} (h : ∀ j, k ≤ j → (E j && wr L j m) = false) : ∀ {n : Nat}, k ≤ n → lw L E m n = lw L E m k
  | 0, hk => by have : k = 0 := by omega
                rw [this]
  | n + 1, hk => by
    by_cases e : k = n + 1
    · rw [e]
    · simp only [lw, h n (by omega), Bool.false_eq_true, if_false]
      exact lw_cut h (by omega)

/-- How many are not yet done. -/
def cntU (E : Nat → Bool) : Nat → Nat
  | 0 => 0
  | m + 1 => cntU E m + if E m = true then 0 else 1

theorem cntU_zero {E : Nat → Bool} : ∀ {n : Nat}, cntU E n = 0 → ∀ i, i < n → E i = true
  | m + 1, h, i, hi => by
    simp only [cntU] at h
    by_cases e : i = m
    · subst e; by_cases h2 : E i = true
      · exact h2
      · simp [h2] at h
    · exact cntU_zero (by split at h <;> omega) i (by omega)

theorem cntU_set {E E' : Nat → Bool} {i : Nat} (hi : E i = false) (h1 : E' i = true) (h2 : ∀ j, j ≠ i → E' j = E j) : ∀ {n : Nat}, (i < n → cntU E' n + 1 = cntU E n) ∧ (n ≤ i → cntU E' n = cntU E n)
  | 0 => ⟨by omega, fun _ => rfl⟩
  | m + 1 => by
    have ih := cntU_set hi h1 h2 (n := m)
    refine ⟨fun hlt => ?_, fun hle => ?_⟩
    · simp only [cntU]
      by_cases e : i = m
      · subst e; rw [ih.2 (Nat.le_refl _), h1, hi]; simp
      · rw [h2 m (Ne.symm e)]; have := ih.1 (by omega); omega
    · simp only [cntU, h2 m (by omega)]; rw [ih.2 (by omega)]

theorem befs_len : ∀ (edges : List (List Nat)) (acc : List Nat), (edges.foldl (fun acc es => acc ++ [es.foldl (fun s e => s ||| 2 ^ e ||| acc.getD e 0) 0]) acc).length = acc.length + edges.length
  | [], acc => rfl
  | es :: edges, acc => by simp only [List.foldl_cons, befs_len edges]; simp; omega

/-- What stands ahead of an operation is done where it is, if what its edges name is done. -/
theorem fold_bit (E : Nat → Bool) (acc : List Nat) (hacc : ∀ e, E e = true → ∀ i, (acc.getD e 0).testBit i = true → E i = true) : ∀ (es : List Nat) (s : Nat), (∀ i, s.testBit i = true → E i = true) → (∀ e ∈ es, E e = true) →
    ∀ i, (es.foldl (fun s e => s ||| 2 ^ e ||| acc.getD e 0) s).testBit i = true → E i = true
  | [], s, hs, _, i, hi => hs i hi
  | e :: es, s, hs, he, i, hi => by
    simp only [List.foldl_cons] at hi
    refine fold_bit E acc hacc es _ (fun i hi => ?_) (fun e' h => he e' (List.mem_cons_of_mem _ h)) i hi
    rw [Nat.testBit_or, Nat.testBit_or, Bool.or_eq_true, Bool.or_eq_true] at hi
    have hee := he e List.mem_cons_self
    rcases hi with (hi | hi) | hi
    · exact hs i hi
    · rw [Nat.testBit_two_pow] at hi
      have : e = i := by simpa using hi
      rw [← this]; exact hee
    · exact hacc e hee i hi

theorem befs_down (E : Nat → Bool) : ∀ (edges : List (List Nat)) (acc : List Nat), (∀ e, E e = true → ∀ i, (acc.getD e 0).testBit i = true → E i = true) → (∀ j es, edges[j]? = some es → E (acc.length + j) = true → ∀ e ∈ es, E e = true) →
    ∀ j, E j = true → ∀ i, ((edges.foldl (fun acc es => acc ++ [es.foldl (fun s e => s ||| 2 ^ e ||| acc.getD e 0) 0]) acc).getD j 0).testBit i = true → E i = true
  | [], acc, hacc, _, j, hj, i, hi => hacc j hj i hi
  | es :: edges, acc, hacc, hdown, j, hj, i, hi => by
    simp only [List.foldl_cons] at hi
    refine befs_down E edges _ (fun e he i hi => ?_) (fun j' es' h1 h2 e he => hdown (j' + 1) es' (by simpa using h1) (by simp at h2; rw [show acc.length + (j' + 1) = acc.length + 1 + j' by omega]; exact h2) e he) j hj i hi
    by_cases h1 : e < acc.length
    · have : (acc ++ [es.foldl (fun s e => s ||| 2 ^ e ||| acc.getD e 0) 0]).getD e 0 = acc.getD e 0 := by simp [List.getD, List.getElem?_append_left h1]
      rw [this] at hi
      exact hacc e he i hi
    · by_cases h2 : e = acc.length
      · subst h2
        have : (acc ++ [es.foldl (fun s e => s ||| 2 ^ e ||| acc.getD e 0) 0]).getD acc.length 0 = es.foldl (fun s e => s ||| 2 ^ e ||| acc.getD e 0) 0 := by simp [List.getD]
        rw [this] at hi
        exact fold_bit E acc hacc es 0 (fun i hi => by simp at hi) (hdown 0 es rfl he) i hi
      · have : (acc ++ [es.foldl (fun s e => s ||| 2 ^ e ||| acc.getD e 0) 0]).getD e 0 = 0 := by
          unfold List.getD
          rw [List.getElem?_eq_none (by simp; omega)]; rfl
        rw [this] at hi
        simp at hi

/-- Whatever the order, the region comes to where its operations in the text's order come. -/
theorem draw_any {C : Ctx} {ops : Array Oper} {st0 : St} {L : Tr} (hL : L.length = ops.size) (htr : ∀ (i : Nat) (p : List Loc × List (Loc × Cont)), L[i]? = some p → DStep C ops i st0.n (p.1.map fun x => (x, (sts st0 L i).get x)) p.2 ∧ wk p.2 = true)
    (hind : indepB (edgesOf ops.toList) (L.map fun p => (p.1, p.2.map (·.1))) = true) {e : Env} {Q : Exit → Act → World → Prop} (hQ : ∀ a' w', S C e (sts st0 L L.length) a' w' → Q .normal a' w') :
    ∀ (fuel : Nat) (listed : Array Bool) (cur : St) (a : Act) (w : World), listed.size = ops.size → cntU (fun i => listed.getD i false) ops.size ≤ fuel →
      (∀ j o, ops[j]? = some o → listed.getD j false = true → ∀ d ∈ o.after, Region.binds .any d = true → listed.getD d.on false = true) →
      cur.n = st0.n → (∀ m, cur.get m = (sts st0 L (lw L (fun i => listed.getD i false) m L.length)).get m) → S C e cur a w → wpAny C.P .any ops Q fuel listed a w := by
  have hwk : ∀ (i : Nat) (p : List Loc × List (Loc × Cont)), L[i]? = some p → wk p.2 = true := fun i p hp => (htr i p hp).2
  have hed : ∀ (j : Nat) (o : Oper), ops[j]? = some o → (edgesOf ops.toList)[j]? = some ((o.after.toList.filter (Region.binds .any)).map (·.on)) := fun j o ho => by
    simp [edgesOf, ho]
  have hlt : ∀ (j : Nat) (o : Oper), ops[j]? = some o → ∀ d ∈ o.after, Region.binds .any d = true → d.on < j := fun j o ho d hd hb => by
    simp only [indepB, Bool.and_eq_true, List.all_eq_true] at hind
    have h1 := hind.1 ((o.after.toList.filter (Region.binds .any)).map (·.on), j) (by
      rw [List.mem_zipIdx_iff_getElem?]; exact hed j o ho)
    have h2 := h1 d.on (List.mem_map.2 ⟨d, List.mem_filter.2 ⟨by simpa using hd, hb⟩, rfl⟩)
    simpa using h2
  have hap : ∀ (i j : Nat) (p q : List Loc × List (Loc × Cont)), i < j → L[i]? = some p → L[j]? = some q → ((befs (edgesOf ops.toList)).getD j 0).testBit i = true ∨
      ((∀ m ∈ p.2.map (·.1), m ∉ q.1) ∧ (∀ m ∈ p.2.map (·.1), m ∉ q.2.map (·.1)) ∧ (∀ m ∈ q.2.map (·.1), m ∉ p.1)) := fun i j p q hij hp hq => by
    simp only [indepB, Bool.and_eq_true, List.all_eq_true] at hind
    have h1 := hind.2 j (by simpa using (List.getElem?_eq_some_iff.1 hq).1) i (by simpa using hij)
    rw [Bool.or_eq_true] at h1
    refine h1.imp id fun h2 => ?_
    simp only [List.getD, List.getElem?_map, hp, hq, Option.map_some, Option.getD_some, apartB, Bool.and_eq_true, disj, List.all_eq_true] at h2
    obtain ⟨⟨h3, h4⟩, h5⟩ := h2
    exact ⟨fun m hm => by simpa using h3 m hm, fun m hm => by simpa using h4 m hm, fun m hm => by simpa using h5 m hm⟩
  intro fuel
  induction fuel with
  | zero =>
    intro listed cur a w hsz hcnt hdown hn hcur hs
    have hall := cntU_zero (Nat.le_zero.1 hcnt)
    refine ⟨?_, hQ a w (hs.weaken ?_)⟩
    · rw [List.eq_nil_iff_forall_not_mem]
      intro i hi
      obtain ⟨h1, o, ho, _⟩ := mem_ready.1 hi
      have hlt' := (Array.getElem?_eq_some_iff.1 ho).1
      have := hall i hlt'
      have hb : i < listed.size := by omega
      simp [Array.getD_eq_getD_getElem?, Array.getElem?_eq_getElem hb] at h1 this
      rw [h1] at this; cases this
    · have key : ∀ m, (sts st0 L L.length).get m = cur.get m := fun m => by
        rw [hcur m, sts_lw hwk m L.length (Nat.le_refl _), lw_congr (E := fun _ => true) (E' := fun i => listed.getD i false) fun j hj => by rw [hall j (by omega)]]
      refine ⟨by rw [sts_n, hn], fun d => .inr ?_, fun k => .inl ?_⟩
      · simpa [St.get] using key (.T d)
      · have := key (.R k)
        simp only [St.get, Cont.s.injEq] at this
        exact Prod.ext this.1 this.2
  | succ fuel ih =>
    intro listed cur a w hsz hcnt hdown hn hcur hs
    refine ⟨fun hr => ?_, fun i hi => ?_⟩
    · -- nothing is ready: all is done
      have hall : ∀ i, i < ops.size → listed.getD i false = true := by
        intro i
        induction i using Nat.strongRecOn with
        | _ i ihi =>
          intro hi
          by_cases h : listed.getD i false = true
          · exact h
          · exfalso
            have ho : ops[i]? = some ops[i] := Array.getElem?_eq_getElem hi
            have hb : i < listed.size := by omega
            have : i ∈ Region.ready .any ops listed := mem_ready.2 ⟨by simpa [Array.getD_eq_getD_getElem?, Array.getElem?_eq_getElem hb] using h, _, ho, fun d hd hbd => by
              have := hlt i _ ho d hd hbd
              exact ihi d.on this (by omega)⟩
            rw [hr] at this
            cases this
      refine hQ a w (hs.weaken ?_)
      have key : ∀ m, (sts st0 L L.length).get m = cur.get m := fun m => by
        rw [hcur m, sts_lw hwk m L.length (Nat.le_refl _), lw_congr (E := fun _ => true) (E' := fun i => listed.getD i false) fun j hj => by rw [hall j (by omega)]]
      refine ⟨by rw [sts_n, hn], fun d => .inr ?_, fun k => .inl ?_⟩
      · simpa [St.get] using key (.T d)
      · have := key (.R k)
        simp only [St.get, Cont.s.injEq] at this
        exact Prod.ext this.1 this.2
    · obtain ⟨h1, o, ho, hpre⟩ := mem_ready.1 hi
      have hisz := (Array.getElem?_eq_some_iff.1 ho).1
      have hib : i < listed.size := by omega
      have hif : listed.getD i false = false := by simpa [Array.getD_eq_getD_getElem?, Array.getElem?_eq_getElem hib] using h1
      have hp : L[i]? = some L[i] := List.getElem?_eq_getElem (by omega)
      generalize hpp : L[i] = p at hp
      obtain ⟨hd, hwkp⟩ := htr i p hp
      -- who stands ahead of i is done
      have hB : ∀ (E : Nat → Bool), (∀ j o, ops[j]? = some o → E j = true → ∀ d ∈ o.after, Region.binds .any d = true → E d.on = true) → ∀ j, E j = true → ∀ k, ((befs (edgesOf ops.toList)).getD j 0).testBit k = true → E k = true := fun E hE j hj k hk => by
        refine befs_down E (edgesOf ops.toList) [] (fun e _ i hi => by simp at hi) (fun j' es hes hj' d hd => ?_) j hj k hk
        simp only [List.length_nil, Nat.zero_add] at hj'
        have hlen : j' < ops.size := by
          have := (List.getElem?_eq_some_iff.1 hes).1
          simpa [edgesOf] using this
        have hoj : ops[j']? = some ops[j'] := Array.getElem?_eq_getElem hlen
        rw [hed j' _ hoj] at hes
        simp only [Option.some.injEq] at hes
        rw [← hes] at hd
        obtain ⟨q, hq, rfl⟩ := List.mem_map.1 hd
        obtain ⟨hq1, hq2⟩ := List.mem_filter.1 hq
        exact hE j' _ hoj hj' q (by simpa using hq1) hq2
      have hset : ∀ j, (listed.setIfInBounds i true).getD j false = if j = i then true else listed.getD j false := fun j => by
        by_cases h : j = i
        · subst h; simp [Array.getD_eq_getD_getElem?, hib]
        · simp [Array.getD_eq_getD_getElem?, Array.getElem?_setIfInBounds_ne (Ne.symm h), h]
      have hdown' : ∀ j o, ops[j]? = some o → (listed.setIfInBounds i true).getD j false = true → ∀ d ∈ o.after, Region.binds .any d = true → (listed.setIfInBounds i true).getD d.on false = true := fun j o' ho' hj d hdd hb => by
        rw [hset] at hj ⊢
        by_cases h : d.on = i
        · rw [if_pos h]
        · rw [if_neg h]
          by_cases hji : j = i
          · subst hji
            rw [ho] at ho'; simp at ho'; subst ho'
            exact hpre d hdd hb
          · rw [if_neg hji] at hj
            exact hdown j o' ho' hj d hdd hb
      have hEi := hB _ hdown'
      have hEl := hB (fun j => listed.getD j false) hdown
      -- which of the done ones write to a place that i reads or writes
      have hside : ∀ j, j < L.length → ∀ m, (m ∈ p.1 ∨ m ∈ p.2.map (·.1)) → j ≠ i → (listed.getD j false && wr L j m) = (decide (j < i) && wr L j m) := fun j hj m hm hji => by
        have hq : L[j]? = some L[j] := List.getElem?_eq_getElem hj
        cases hwj : wr L j m with
        | false => simp
        | true =>
          have hmw : m ∈ (L[j]).2.map (·.1) := by simpa [wr, hq] using hwj
          simp only [Bool.and_true]
          by_cases hlt2 : j < i
          · rcases hap j i _ p hlt2 hq hp with h2 | ⟨h2, h3, h4⟩
            · have := hEi i (by rw [hset, if_pos rfl]) j h2
              rw [hset, if_neg hji] at this
              simp [hlt2, this]
            · rcases hm with hm | hm
              · exact absurd hm (h2 m hmw)
              · exact absurd hm (h3 m hmw)
          · have hgt : i < j := by omega
            simp only [hlt2, decide_false]
            rcases hap i j p _ hgt hp hq with h2 | ⟨h2, h3, h4⟩
            · cases hlj : listed.getD j false with
              | false => rfl
              | true =>
                have h9 : listed.getD i false = true := hEl j hlj i h2
                rw [hif] at h9
                cases h9
            · rcases hm with hm | hm
              · exact absurd hm (h4 m hmw)
              · exact absurd hmw (h3 m hm)
      have hlast : ∀ m, (m ∈ p.1 ∨ m ∈ p.2.map (·.1)) → lw L (fun j => listed.getD j false) m L.length = lw L (fun _ => true) m i := fun m hm => by
        rw [lw_congr (E' := fun j => decide (j < i)) (fun j hj => by
          by_cases hji : j = i
          · subst hji; simp [hif]
          · exact hside j hj m hm hji)]
        rw [lw_cut (k := i) (fun j hj => by simp; omega) (by omega)]
        exact lw_congr fun j hj => by simp [hj]
      have hag : Agree cur (p.1.map fun x => (x, (sts st0 L i).get x)) := by
        refine Agree_of.2 fun m hm => ?_
        rw [hcur m, hlast m (.inl hm), ← sts_lw hwk m i (by omega)]
      refine hd e cur a w _ Q hn hs hag fun a' w' hs' => ?_
      refine ih (listed.setIfInBounds i true) (cur.upd p.2) a' w' (by simpa using hsz) ?_ hdown' (by rw [upd_n]; exact hn) (fun m => ?_) hs'
      · have := (cntU_set (E := fun j => listed.getD j false) (E' := fun j => (listed.setIfInBounds i true).getD j false) (i := i) hif (by rw [hset]; simp) (fun j hj => by rw [hset, if_neg hj]) (n := ops.size)).1 hisz
        omega
      · by_cases hm : m ∈ p.2.map (·.1)
        · have e1 : lw L (fun j => (listed.setIfInBounds i true).getD j false) m L.length = i + 1 := by
            rw [lw_congr (E' := fun j => decide (j < i + 1)) (fun j hj => by
              rw [hset]
              by_cases hji : j = i
              · subst hji; simp
              · rw [if_neg hji, hside j hj m (.inr hm) hji]
                have : decide (j < i) = decide (j < i + 1) := by
                  by_cases h : j < i
                  · simp [h]; omega
                  · have : ¬ j < i + 1 := by omega
                    simp [h, this]
                rw [this])]
            rw [lw_cut (k := i + 1) (fun j hj => by simp; omega) (by omega)]
            have hwi : wr L i m = true := by simp only [wr, hp, List.contains_iff_mem]; exact hm
            simp [lw, hwi]
          rw [e1, sts_succ _ _ _ _ hp]
          exact get_upd_in _ _ hwkp hm
        · rw [get_upd_out _ hwkp hm, hcur m]
          congr 2
          refine (lw_congr fun j hj => ?_).symm
          rw [hset]
          by_cases hji : j = i
          · subst hji
            have hwi : wr L j m = false := by
              simp only [wr, hp]
              simpa using hm
            simp [hwi]
          · rw [if_neg hji]

theorem cntU_none : ∀ (n : Nat), cntU (fun _ => false) n = n
  | 0 => rfl
  | n + 1 => by simp [cntU, cntU_none n]

/-- A region that draws its order, met: its operations in the text's order, and that those which no edge orders do not meet. -/
theorem DrawG_of {C : Ctx} {T : List (Ct C)} {id : Nat} {ops : Array Oper} {st : St} {K : St → Prop} (h : drun C T 0 [] ops.toList st [] fun fps s => indepB (edgesOf ops.toList) fps = true ∧ K s) : DrawG C id ops st K := by
  intro e a w Q hs hq
  obtain ⟨L, st', htr, hlen, hind, hK⟩ := drun_ok (ops := ops) h (by simp) (fun j d hj => by simp [lookN] at hj)
  obtain ⟨q1, q2⟩ := TR_get htr
  subst q1
  have hL : L.length = ops.size := by simpa using hlen
  obtain ⟨ho, g, hr⟩ := hs
  refine wp_region_any C.mixed ?_
  have hs' : S C e st a { w with drawn := w.drawn + 1 } := ⟨ho, g, hr.world rfl rfl rfl rfl⟩
  have hf : (fun i => (Array.replicate ops.size false).getD i false) = fun _ => false := by
    funext i
    simp only [Array.getD_eq_getD_getElem?, Array.getElem?_replicate]
    split <;> rfl
  refine draw_any hL (fun i p hp => by simpa using q2 i p hp) (by simpa using hind) (fun a' w' h' => hq a' w' _ h' hK) ops.size (Array.replicate ops.size false) st a _ (by simp) (by rw [hf, cntU_none]; exact Nat.le_refl _) (fun j o _ hj => by
    have h9 : (Array.replicate ops.size false).getD j false = false := congrFun hf j
    rw [h9] at hj; cases hj) rfl (fun m => ?_) hs'
  rw [hf]
  have : ∀ n, lw L (fun _ => false) m n = 0 := by
    intro n; induction n with
    | zero => rfl
    | succ n ih => simp [lw, ih]
  rw [this]; rfl

end Go.Proofs.YtjbhpoolghfhiaaDoor
namespace Go.Proofs.YtjbhpoolghfhiaaDoor
set_option linter.unusedVariables false
set_option linter.unusedSimpArgs false
set_option maxHeartbeats 10000000
open Go

/-- What is still to be done. -/
inductive It where
  | c (c : Code)
  | b (id : Nat)
  | o (k : Nat) (done : List (Nat × Nat)) (l : List Oper)

def toB (id : Nat) : List It → Option (List It)
  | [] => none
  | .b j :: r => if id = j then some r else toB id r
  | .c _ :: r => toB id r
  | .o _ _ _ :: r => toB id r

/-- What follows an exit, by what is still to be done. -/
def ck (C : Ctx) : List It → (Exit → St → Prop) → Exit → St → Prop
  | [], K, x, s => K x s
  | .c c :: r, K, .normal, s => lwp C c s (ck C r K)
  | .c _ :: r, K, x, s => ck C r K x s
  | .o k done l :: r, K, .normal, s => lopsX C k done l s (ck C r K .normal)
  | .o _ _ _ :: r, K, x, s => ck C r K x s
  | .b id :: r, K, .exit j, s => if j = id then ck C r K .normal s else ck C r K (.exit j) s
  | .b _ :: r, K, x, s => ck C r K x s

theorem ck_b {C : Ctx} {id : Nat} {r : List It} {K : Exit → St → Prop} : ck C (.b id :: r) K = blockK id (ck C r K) := by
  funext x s
  cases x <;> rfl

theorem ck_c {C : Ctx} {c : Code} {r : List It} {K : Exit → St → Prop} : ck C (.c c :: r) K = thenK (fun s => lwp C c s (ck C r K)) (ck C r K) := by
  funext x s
  cases x <;> rfl

theorem toB_ok {C : Ctx} {id : Nat} {K : Exit → St → Prop} {st : St} : ∀ {r : List It}, (∀ r', toB id r = some r' → ck C r' K .normal st → ck C r K (.exit id) st) ∧ (toB id r = none → K (.exit id) st → ck C r K (.exit id) st)
  | [] => ⟨fun r' h => by simp [toB] at h, fun _ h => h⟩
  | .c c :: r => ⟨fun r' h h2 => (toB_ok (r := r)).1 r' h h2, fun h h2 => (toB_ok (r := r)).2 h h2⟩
  | .o k done l :: r => ⟨fun r' h h2 => (toB_ok (r := r)).1 r' h h2, fun h h2 => (toB_ok (r := r)).2 h h2⟩
  | .b j :: r => by
    refine ⟨fun r' h h2 => ?_, fun h h2 => ?_⟩
    · unfold toB at h
      show if id = j then ck C r K .normal st else ck C r K (.exit id) st
      split at h
      · rename_i hj; rw [if_pos hj]; simp at h; subst h; exact h2
      · rename_i hj; rw [if_neg hj]; exact (toB_ok (r := r)).1 r' h h2
    · unfold toB at h
      show if id = j then ck C r K .normal st else ck C r K (.exit id) st
      split at h
      · simp at h
      · rename_i hj; rw [if_neg hj]; exact (toB_ok (r := r)).2 h h2

theorem ck_ret {C : Ctx} {K : Exit → St → Prop} {st : St} (h : K .ret st) : ∀ {r : List It}, ck C r K .ret st
  | [] => h
  | .c _ :: r => ck_ret (r := r) h
  | .o _ _ _ :: r => ck_ret (r := r) h
  | .b _ :: r => ck_ret (r := r) h

/-- What is still to be done, from a state. -/
def Rn (C : Ctx) (_ : List (Ct C)) (r : List It) (st : St) (K : Exit → St → Prop) : Prop := ck C r K .normal st

/-- One follows from the other. -/
structure Imp (a b : Prop) : Prop where
  run : a → b

section
variable {C : Ctx} {T : List (Ct C)} {r : List It} {st st' : St} {K : Exit → St → Prop}

theorem Rn_st (h : ∀ K0 : St → Prop, Imp (K0 st') (K0 st)) (hk : Rn C T r st' K) : Rn C T r st K := (h fun s => Rn C T r s K).run hk
theorem Rn_nil (h : K .normal st) : Rn C T [] st K := h
theorem Rn_b {id : Nat} (h : Rn C T r st K) : Rn C T (.b id :: r) st K := by unfold Rn; rw [ck_b]; exact h
theorem Rn_o_nil {k : Nat} {done : List (Nat × Nat)} (h : Rn C T r st K) : Rn C T (.o k done [] :: r) st K := fun _ _ _ => lops_nil h
theorem Rn_skip (h : Rn C T r st K) : Rn C T (.c .skip :: r) st K := lwp_skip h
theorem Rn_seq {a b : Code} (h : Rn C T (.c a :: .c b :: r) st K) : Rn C T (.c (.seq a b) :: r) st K := by
  refine lwp_seq ?_
  rw [← ck_c]
  exact h
theorem Rn_block {id : Nat} {a : Code} (h : Rn C T (.c a :: .b id :: r) st K) : Rn C T (.c (.block id a) :: r) st K := by
  refine lwp_block ?_
  rw [← ck_b]
  exact h
theorem Rn_exit {id : Nat} {r' : List It} (hr : toB id r = some r') (h : Rn C T r' st K) : Rn C T (.c (.exit id) :: r) st K := lwp_exit (toB_ok.1 r' hr h)
theorem Rn_out {id : Nat} (hr : toB id r = none) (h : K (.exit id) st) : Rn C T (.c (.exit id) :: r) st K := lwp_exit (toB_ok.2 hr h)
theorem Rn_ret (h : K .ret st) : Rn C T (.c .ret :: r) st K := lwp_ret (ck_ret h)
theorem Rn_cond {c : Operand} {a b : Code} {q : Bool} (hq : ev st c = .r (.v (.bool q))) (h1 : q = true → Rn C T (.c a :: r) st K) (h2 : q = false → Rn C T (.c b :: r) st K) : Rn C T (.c (.cond c a b) :: r) st K := by
  refine lwp_cond hq ?_
  cases q with
  | true => exact h1 rfl
  | false => exact h2 rfl
theorem Rn_cond_t {c : Operand} {a b : Code} (hq : ev st c = .r (.v (.bool true))) (h : Rn C T (.c a :: r) st K) : Rn C T (.c (.cond c a b) :: r) st K := Rn_cond hq (fun _ => h) (fun h => nomatch h)
theorem Rn_cond_f {c : Operand} {a b : Code} (hq : ev st c = .r (.v (.bool false))) (h : Rn C T (.c b :: r) st K) : Rn C T (.c (.cond c a b) :: r) st K := Rn_cond hq (fun h => nomatch h) (fun _ => h)
theorem Rn_region {id : Nat} {l : List Oper} (h : Rn C T (.o 0 [] l :: r) st K) : Rn C T (.c (.region id l.toArray false) :: r) st K :=
  lwp_region ((h : lopsX C 0 [] l st (ck C r K .normal)) _ (by simp) (fun j d hj => by simp [lookN] at hj))

theorem Rn_op {k : Nat} {done : List (Nat × Nat)} {o : Oper} {l : List Oper} (hg : o.guard = none) (h : ∀ K0 : St → Prop, Imp (K0 st') (opG C T o st fun _ outs => K0 (st.upd outs)))
    (hk : Rn C T (.o (k + 1) (addN k o.dst done) l :: r) st' K) : Rn C T (.o k done (o :: l) :: r) st K := by
  refine stepG_ok (T := T) (K' := fun s => lopsX C (k + 1) (addN k o.dst done) l s (ck C r K .normal)) ?_ fun s hs => hs
  unfold stepG'
  rw [hg]
  exact opG_ok ((h _).run hk)

theorem Rn_guard {k : Nat} {done : List (Nat × Nat)} {o : Oper} {l : List Oper} {j d : Nat} {b q : Bool} (hg : o.guard = some (j, b)) (hd : lookN j done = some d) (hq : lookT d st.t = .r (.v (.bool q)))
    (h1 : q = b → ∃ st', (∀ K0 : St → Prop, K0 st' → CallG C o st fun _ outs => K0 (st.upd outs)) ∧ Rn C T (.o (k + 1) (addN k o.dst done) l :: r) st' K)
    (h2 : q = (!b) → ∃ st', (dstOk o st.n = true ∧ skipped o st = st') ∧ Rn C T (.o (k + 1) (addN k o.dst done) l :: r) st' K) : Rn C T (.o k done (o :: l) :: r) st K := by
  refine stepG_ok (T := T) (K' := fun s => lopsX C (k + 1) (addN k o.dst done) l s (ck C r K .normal)) ?_ fun s hs => hs
  unfold stepG'
  rw [hg]
  simp only [hd, hq]
  refine ⟨fun hb => ?_, fun hb => ?_⟩
  · obtain ⟨st', h3, h4⟩ := h1 (by simpa using hb)
    exact h3 _ h4
  · obtain ⟨st', ⟨h3, h4⟩, h5⟩ := h2 (by cases q <;> cases b <;> simp_all)
    exact ⟨h3, by rw [h4]; exact h5⟩
theorem Rn_guard_yes {k : Nat} {done : List (Nat × Nat)} {o : Oper} {l : List Oper} {j d : Nat} {b : Bool} (hg : o.guard = some (j, b)) (hd : lookN j done = some d) (hq : lookT d st.t = .r (.v (.bool b)))
    (h : ∀ K0 : St → Prop, Imp (K0 st') (opG C T o st fun _ outs => K0 (st.upd outs))) (hk : Rn C T (.o (k + 1) (addN k o.dst done) l :: r) st' K) : Rn C T (.o k done (o :: l) :: r) st K :=
  Rn_guard hg hd hq (fun _ => ⟨st', fun K0 hK => opG_ok ((h K0).run hK), hk⟩) (fun h => by cases b <;> simp at h)
theorem Rn_guard_no {k : Nat} {done : List (Nat × Nat)} {o : Oper} {l : List Oper} {j d : Nat} {b q : Bool} (hg : o.guard = some (j, b)) (hd : lookN j done = some d) (hq : lookT d st.t = .r (.v (.bool q))) (hqb : q = (!b))
    (h : dstOk o st.n = true) (hs : skipped o st = st') (hk : Rn C T (.o (k + 1) (addN k o.dst done) l :: r) st' K) : Rn C T (.o k done (o :: l) :: r) st K :=
  Rn_guard hg hd hq (fun h => by subst h; cases q <;> simp at hqb) (fun _ => ⟨st', ⟨h, hs⟩, hk⟩)

theorem Rn_guard_un {k : Nat} {done : List (Nat × Nat)} {o : Oper} {l : List Oper} {j d : Nat} {b : Bool} {xs : Array Value} (hg : o.guard = some (j, b)) (hd : lookN j done = some d) (hq : lookT d st.t = .r (.v (.tuple xs)))
    (h : dstOk o st.n = true) (hs : skipped o st = st') (hk : Rn C T (.o (k + 1) (addN k o.dst done) l :: r) st' K) : Rn C T (.o k done (o :: l) :: r) st K := by
  refine stepG_ok (T := T) (K' := fun s => lopsX C (k + 1) (addN k o.dst done) l s (ck C r K .normal)) ?_ fun s hs => hs
  unfold stepG'
  rw [hg]
  simp only [hd, hq]
  exact ⟨h, by rw [hs]; exact hk⟩

abbrev UD : AV := .r (.v (.tuple #[]))

/-- Is what is guarded wanted? -/
def wantK (x : AV) (b : Bool) (K : Bool → Prop) : Prop :=
  match x with
  | .r (.v (.bool q)) => K (q == b)
  | .r (.v (.tuple _)) => K false
  | _ => False

theorem wantK_bif (c p b : Bool) (K : Bool → Prop) : wantK (bif c then .r (.v (.bool p)) else UD) b K = K (c && (p == b)) := by cases c <;> rfl

theorem wantK_ok {x : AV} {b : Bool} {K : Bool → Prop} (h : wantK x b K) : (∃ q, x = .r (.v (.bool q)) ∧ K (q == b)) ∨ (∃ xs, x = .r (.v (.tuple xs)) ∧ K false) := by
  unfold wantK at h
  split at h
  · exact .inl ⟨_, rfl, h⟩
  · exact .inr ⟨_, rfl, h⟩
  · exact h.elim

/-- One slot is written. -/
def oneK (d : Nat) (outs : List (Loc × Cont)) (K : AV → Prop) : Prop :=
  match outs with
  | [(.T e, .a x)] => e = d ∧ K x
  | _ => False

theorem oneK_ok {d : Nat} {outs : List (Loc × Cont)} {K : AV → Prop} (h : oneK d outs K) : ∃ x, outs = [(.T d, .a x)] ∧ K x := by
  unfold oneK at h
  split at h
  · obtain ⟨rfl, h⟩ := h; exact ⟨_, rfl, h⟩
  · exact h.elim

theorem CallG_mono {o : Oper} {K K' : List Loc → List (Loc × Cont) → Prop} (h : CallG C o st K) (hk : ∀ l outs, K l outs → K' l outs) : CallG C o st K' := by
  obtain ⟨l, outs, h1, h2⟩ := h
  exact ⟨l, outs, hk _ _ h1, h2⟩

/-- An operation that is wanted or not: its slot has a value, or is bare. -/
theorem Rn_lazy {k : Nat} {done : List (Nat × Nat)} {o : Oper} {l : List Oper} {j d d' : Nat} {b w : Bool} {x : AV} (hg : o.guard = some (j, b)) (hd : lookN j done = some d) (hdst : o.dst = some d') (hw : ∀ K0 : Bool → Prop, Imp (K0 w) (wantK (lookT d st.t) b K0)) (hn : d' < st.n)
    (h : w = true → ∀ K0 : AV → Prop, Imp (K0 x) (opG C T o st fun _ outs => oneK d' outs K0))
    (hst : ∀ K0 : St → Prop, Imp (K0 st') (K0 { st with t := putT d' (bif w then x else UD) st.t }))
    (hk : Rn C T (.o (k + 1) (addN k o.dst done) l :: r) st' K) : Rn C T (.o k done (o :: l) :: r) st K := by
  have hk' := (hst fun s => Rn C T (.o (k + 1) (addN k o.dst done) l :: r) s K).run hk
  rcases wantK_ok ((hw fun w' => w' = w).run rfl) with ⟨q, hq, hqw⟩ | ⟨xs, hq, hqw⟩
  · refine Rn_guard hg hd hq (fun he => ?_) (fun he => ?_)
    · have hwt : w = true := by rw [← hqw, he]; simp
      refine ⟨_, fun K0 hK => ?_, hk'⟩
      refine CallG_mono (opG_ok ((h hwt fun x' => x' = x).run rfl)) fun l outs ho => ?_
      obtain ⟨x', rfl, rfl⟩ := oneK_ok ho
      rw [hwt] at hK
      exact hK
    · have hwf : w = false := by rw [← hqw, he]; cases b <;> rfl
      refine ⟨_, ⟨by simpa [dstOk, hdst] using hn, rfl⟩, ?_⟩
      rw [hwf] at hk'
      simpa [skipped, hdst] using hk'
  · refine Rn_guard_un hg hd hq (by simpa [dstOk, hdst] using hn) rfl ?_
    rw [← hqw] at hk'
    simpa [skipped, hdst] using hk'

/-- A region that draws its order: what is left of it. -/
def Rd (C : Ctx) (T : List (Ct C)) (k : Nat) (done : List (Nat × Nat)) (l : List Oper) (st : St) (fps : List (List Loc × List Loc)) (edges : List (List Nat)) (r : List It) (K : Exit → St → Prop) : Prop :=
  drun C T k done l st fps fun fps s => indepB edges fps = true ∧ Rn C T r s K

theorem Rn_draw {id : Nat} {l : List Oper} (h : Rd C T 0 [] l st [] (edgesOf l) r K) : Rn C T (.c (.region id l.toArray true) :: r) st K :=
  fun e a w hs => (DrawG_of (T := T) (ops := l.toArray) (K := ck C r K .normal) h) e a w _ hs fun a' w' st' h1 h2 => ⟨st', h1, h2⟩

variable {k : Nat} {done : List (Nat × Nat)} {o : Oper} {l : List Oper} {fps : List (List Loc × List Loc)} {edges : List (List Nat)} {rds : List Loc} {ws : List (Loc × Cont)} {j d : Nat} {b q : Bool}

theorem Rd_nil (h : indepB edges fps = true) (hk : Rn C T r st K) : Rd C T k done [] st fps edges r K := ⟨h, hk⟩
theorem Rd_op (hg : o.guard = none) (h : ∀ K0 : List Loc → List (Loc × Cont) → St → Prop, Imp (K0 rds ws st') (opG C T o st fun l outs => wk outs = true ∧ K0 l outs (st.upd outs)))
    (hk : Rd C T (k + 1) (addN k o.dst done) l st' (fps ++ [(rds, ws.map (·.1))]) edges r K) : Rd C T k done (o :: l) st fps edges r K := by
  unfold Rd drun stepD
  rw [hg]
  exact opG_ok ((h (fun rds outs s => drun C T (k + 1) (addN k o.dst done) l s (fps ++ [(rds, outs.map (·.1))]) fun fps s => indepB edges fps = true ∧ Rn C T r s K)).run hk)
theorem Rd_guard (hg : o.guard = some (j, b)) (hd : lookN j done = some d) (hq : lookT d st.t = .r (.v (.bool q)))
    (h1 : q = b → ∃ rds ws st', (∀ K0 : List Loc → List (Loc × Cont) → St → Prop, Imp (K0 rds ws st') (opG C T o st fun l outs => wk outs = true ∧ K0 l outs (st.upd outs))) ∧ Rd C T (k + 1) (addN k o.dst done) l st' (fps ++ [(.T d :: rds, ws.map (·.1))]) edges r K)
    (h2 : q = (!b) → ∃ ws st', (dstOk o st.n = true ∧ ws = (match o.dst with | some d' => [.T d'] | none => []) ∧ skipped o st = st') ∧ Rd C T (k + 1) (addN k o.dst done) l st' (fps ++ [([.T d], ws)]) edges r K) : Rd C T k done (o :: l) st fps edges r K := by
  unfold Rd drun stepD
  rw [hg]
  simp only [hd, hq]
  refine ⟨fun hb => ?_, fun hb => ?_⟩
  · obtain ⟨rds, ws, st', h3, h4⟩ := h1 (by simpa using hb)
    exact opG_ok ((h3 (fun rds outs s => drun C T (k + 1) (addN k o.dst done) l s (fps ++ [(.T d :: rds, outs.map (·.1))]) fun fps s => indepB edges fps = true ∧ Rn C T r s K)).run h4)
  · obtain ⟨ws, st', ⟨h3, h4, h5⟩, h6⟩ := h2 (by cases q <;> cases b <;> simp_all)
    refine ⟨h3, [], ?_⟩
    subst h4; subst h5
    unfold Rd at h6
    cases hdst : o.dst with
    | none => simpa [hdst, St.upd, skipped] using h6
    | some d' => simpa [hdst, St.upd, skipped, St.set] using h6
theorem Rd_guard_yes (hg : o.guard = some (j, b)) (hd : lookN j done = some d) (hq : lookT d st.t = .r (.v (.bool b)))
    (h : ∀ K0 : List Loc → List (Loc × Cont) → St → Prop, Imp (K0 rds ws st') (opG C T o st fun l outs => wk outs = true ∧ K0 l outs (st.upd outs)))
    (hk : Rd C T (k + 1) (addN k o.dst done) l st' (fps ++ [(.T d :: rds, ws.map (·.1))]) edges r K) : Rd C T k done (o :: l) st fps edges r K :=
  Rd_guard hg hd hq (fun _ => ⟨rds, ws, st', h, hk⟩) (fun h => by cases b <;> simp at h)
theorem Rd_guard_no (hg : o.guard = some (j, b)) (hd : lookN j done = some d) (hq : lookT d st.t = .r (.v (.bool q))) (hqb : q = (!b)) (h : dstOk o st.n = true) {ws : List Loc} (hw : ws = (match o.dst with | some d' => [.T d'] | none => [])) (hs : skipped o st = st')
    (hk : Rd C T (k + 1) (addN k o.dst done) l st' (fps ++ [([.T d], ws)]) edges r K) : Rd C T k done (o :: l) st fps edges r K :=
  Rd_guard hg hd hq (fun h => by subst h; cases q <;> simp at hqb) (fun _ => ⟨ws, st', ⟨h, hw, hs⟩, hk⟩)
theorem Rd_guard_un {xs : Array Value} (hg : o.guard = some (j, b)) (hd : lookN j done = some d) (hq : lookT d st.t = .r (.v (.tuple xs))) (h : dstOk o st.n = true) {ws : List Loc} (hw : ws = (match o.dst with | some d' => [.T d'] | none => [])) (hs : skipped o st = st')
    (hk : Rd C T (k + 1) (addN k o.dst done) l st' (fps ++ [([.T d], ws)]) edges r K) : Rd C T k done (o :: l) st fps edges r K := by
  unfold Rd drun stepD
  rw [hg]
  simp only [hd, hq]
  refine ⟨h, [], ?_⟩
  subst hw; subst hs
  unfold Rd at hk
  cases hdst : o.dst with
  | none => simpa [hdst, St.upd, skipped] using hk
  | some d' => simpa [hdst, St.upd, skipped, St.set] using hk
theorem Rd_lazy {d' : Nat} {w : Bool} {x : AV} (hg : o.guard = some (j, b)) (hd : lookN j done = some d) (hdst : o.dst = some d') (hw : ∀ K0 : Bool → Prop, Imp (K0 w) (wantK (lookT d st.t) b K0)) (hn : d' < st.n)
    (h : w = true → ∀ K0 : List Loc → AV → Prop, Imp (K0 rds x) (opG C T o st fun l outs => oneK d' outs (K0 l)))
    (hst : ∀ K0 : St → Prop, Imp (K0 st') (K0 { st with t := putT d' (bif w then x else UD) st.t }))
    (hk : Rd C T (k + 1) (addN k o.dst done) l st' (fps ++ [(.T d :: rds, [.T d'])]) edges r K) : Rd C T k done (o :: l) st fps edges r K := by
  have hk' := (hst fun s => Rd C T (k + 1) (addN k o.dst done) l s (fps ++ [(.T d :: rds, [.T d'])]) edges r K).run hk
  have no : w = false → skipped o st = { st with t := putT d' (bif w then x else UD) st.t } := fun hwf => by rw [hwf]; simp [skipped, hdst]
  rcases wantK_ok ((hw fun w' => w' = w).run rfl) with ⟨q, hq, hqw⟩ | ⟨xs, hq, hqw⟩
  · unfold Rd drun stepD
    rw [hg]
    simp only [hd, hq]
    refine ⟨fun hb => ?_, fun hb => ⟨by simpa [dstOk, hdst] using hn, rds, ?_⟩⟩
    · have hwt : w = true := by rw [← hqw, hb]
      refine CallG_mono (opG_ok ((h hwt fun l' x' => l' = rds ∧ x' = x).run ⟨rfl, rfl⟩)) fun l' outs ho => ?_
      obtain ⟨x', rfl, rfl, rfl⟩ := oneK_ok ho
      refine ⟨rfl, ?_⟩
      rw [hwt] at hk'
      unfold Rd at hk'
      exact hk'
    · have hwf : w = false := by rw [← hqw, hb]
      unfold Rd at hk'
      rw [hwf] at hk'
      simpa [hdst, St.upd, St.set] using hk'
  · unfold Rd drun stepD
    rw [hg]
    simp only [hd, hq]
    refine ⟨by simpa [dstOk, hdst] using hn, rds, ?_⟩
    unfold Rd at hk'
    rw [← hqw] at hk'
    simpa [hdst, St.upd, St.set] using hk'
theorem Rd_st (h : ∀ K0 : St → Prop, Imp (K0 st') (K0 st)) (hk : Rd C T k done l st' fps edges r K) : Rd C T k done l st fps edges r K := (h fun s => Rd C T k done l s fps edges r K).run hk
/-- A guard that is not told: both ways. -/
theorem Rd_split (_ : o.guard = some (j, b)) (_ : lookN j done = some d) (_ : lookT d st.t = .r (.v (.bool q))) (h1 : q = true → Rd C T k done (o :: l) st fps edges r K) (h2 : q = false → Rd C T k done (o :: l) st fps edges r K) : Rd C T k done (o :: l) st fps edges r K := by
  cases q with
  | true => exact h1 rfl
  | false => exact h2 rfl
theorem Rn_split (_ : o.guard = some (j, b)) (_ : lookN j done = some d) (_ : lookT d st.t = .r (.v (.bool q))) (h1 : q = true → Rn C T (.o k done (o :: l) :: r) st K) (h2 : q = false → Rn C T (.o k done (o :: l) :: r) st K) : Rn C T (.o k done (o :: l) :: r) st K := by
  cases q with
  | true => exact h1 rfl
  | false => exact h2 rfl

/-- Does anything follow? -/
def hasC : List It → Bool
  | [] => false
  | .b _ :: r => hasC r
  | _ => true

theorem Rn_le (hr : hasC r = true) (h : Le st st') (hk : Rn C T r st' K) : Rn C T r st K := by
  unfold Rn at *
  induction r with
  | nil => simp [hasC] at hr
  | cons i r ih =>
    cases i with
    | b id =>
      rw [ck_b] at hk ⊢
      exact ih (by simpa [hasC] using hr) hk
    | c c => exact lwp_weaken h hk
    | o k done l => exact fun ops h1 h2 => lops_weaken h (hk ops h1 h2)

/-- Code first, to a state that all its ways come to; then what follows it. -/
theorem Rn_cut {c : Code} (hr : hasC r = true) (h : Rn C T [.c c] st (thenK (fun s => Le s st') (ck C r K))) (hk : Rn C T r st' K) : Rn C T (.c c :: r) st K := by
  show lwp C c st (ck C r K)
  refine lwp_mono (h : lwp C c st (ck C [] _)) fun x s hx => ?_
  have hx' : thenK (fun s => Le s st') (ck C r K) x s := by cases x <;> exact hx
  cases x with
  | normal => exact Rn_le hr hx' hk
  | _ => exact hx'

/-- A loop, met. -/
theorem Rn_loop {c : Code} {α : Type} (I : α → Prop) (f : α → St) (μ : α → Nat) (x0 : α) (hst : Le st (f x0)) (h0 : I x0)
    (round : ∀ x, I x → Rn C T [.c c] (f x) (thenK (fun s => ∃ y, I y ∧ μ y < μ x ∧ Le s (f y)) (ck C r K))) : Rn C T (.c (.loop c) :: r) st K := by
  refine lwp_loop I f μ x0 hst h0 fun x hx => ?_
  exact round x hx

theorem ck_exit {id : Nat} {r' : List It} (hr : toB id r = some r') (h : Rn C T r' st K) : ck C r K (.exit id) st := toB_ok.1 r' hr h
theorem ck_ret' (h : K .ret st) : ck C r K .ret st := ck_ret h
end

/-- The end of a function that leaves no resource. -/
theorem Fin_pure {C : Ctx} {fn : Func} {r : AV} {x : Exit} {st : St} {rl : List ResultVar} {xs : List AV} (hx : x = .normal ∨ x = .ret) (hr : fn.results = rl.toArray) (h : resK st C.P rl xs) (he : r = resV xs) (hin : within none0 r = true) : Fin C fn r [] x st := by
  have hd : domR [] = none0 := by funext k; rfl
  exact ⟨hx, ⟨xs, by rw [hr]; exact h, he⟩, fun k hk => by rw [hd] at hk; simp [none0] at hk, by rw [hd]; exact hin, fun k => trivial⟩

theorem Fin_1 {C : Ctx} {fn : Func} {r : AV} {x : Exit} {st : St} {t : Nat} (hx : x = .normal ∨ x = .ret) (hr : fn.results = #[.tmp t]) (h : lookT t st.t = r) (hin : within none0 r = true) : Fin C fn r [] x st :=
  Fin_pure (rl := [.tmp t]) (xs := [r]) hx hr ⟨h, trivial⟩ rfl hin

/-- The results of a function, read. -/
def resG (st : St) (P : Program) : List ResultVar → (List AV → Prop) → Prop
  | [], K => K []
  | .tmp t :: l, K => resG st P l fun xs => K (lookT t st.t :: xs)
  | .cell t ty :: l, K => match lookT t st.t with
    | .os k ver => match lookR k st.rs with
      | (cv, .bx cells) => ver = cv ∧ loadK P ty cells fun x => resG st P l fun xs => K (x :: xs)
      | _ => False
    | _ => False

theorem resG_ok {st : St} {P : Program} : ∀ {l : List ResultVar} {K : List AV → Prop}, resG st P l K → ∃ xs, resK st P l xs ∧ K xs
  | [], K, h => ⟨[], trivial, h⟩
  | .tmp t :: l, K, h => by
    obtain ⟨xs, h1, h2⟩ := resG_ok (l := l) h
    exact ⟨lookT t st.t :: xs, ⟨rfl, h1⟩, h2⟩
  | .cell t ty :: l, K, h => by
    unfold resG at h
    split at h
    · rename_i k ver h0
      split at h
      · rename_i cv cells hk
        obtain ⟨rfl, h⟩ := h
        obtain ⟨x, h, hx⟩ := loadK_ok h
        obtain ⟨xs, h1, h2⟩ := resG_ok (l := l) h
        exact ⟨x :: xs, ⟨⟨k, ver, cells, h0, hk, hx⟩, h1⟩, h2⟩
      · exact h.elim
    · exact h.elim

/-- The end of a pure function. -/
def FinK (C : Ctx) (rl : List ResultVar) (r : AV) (x : Exit) (st : St) : Prop :=
  match x with
  | .normal | .ret => resG st C.P rl fun xs => resV xs = r
  | _ => False

/-- A pure function's contract. -/
theorem FCp_of {C : Ctx} (T : List (Ct C)) {f : Nat} {fn : Func} {body : Code} {args : List AV} {r : AV} (hf : C.P.funcs[f]? = some fn) (hb : fn.body = some body) {nt : Nat} (hnt : fn.ntmps = nt) (hn : args.length ≤ nt) {rl : List ResultVar} (hr : fn.results = rl.toArray) (hw : within none0 r = true)
    (h : Rn C T [.c body] ⟨nt, argT 0 args, []⟩ (FinK C rl r)) : FC C f args [] r [] := by
  subst hnt
  refine FC_body hf hb hn (lwp_mono (h : lwp C body _ (ck C [] (FinK C rl r))) fun x s hx => ?_)
  have hx' : FinK C rl r x s := by cases x <;> exact hx
  have key : ∀ (hq : resG s C.P rl fun xs => resV xs = r) (hx : x = .normal ∨ x = .ret), Fin C fn r [] x s := fun hq hx => by
    obtain ⟨xs, h1, h2⟩ := resG_ok hq
    exact Fin_pure hx hr h1 h2.symm hw
  cases x with
  | normal => exact key hx' (.inl rfl)
  | ret => exact key hx' (.inr rfl)
  | _ => exact hx'.elim

attribute [irreducible] Rn Rd

end Go.Proofs.YtjbhpoolghfhiaaDoor
