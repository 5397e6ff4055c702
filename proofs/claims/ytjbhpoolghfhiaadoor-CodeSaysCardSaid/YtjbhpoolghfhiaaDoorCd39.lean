/- What an order of a pass of the document's leads to, told by two lists. No condition: plain lemmas. -/
import Derived.Test.YtjbhpoolghfhiaaDoorCd38
namespace Go.Proofs.YtjbhpoolghfhiaaDoor
set_option linter.unusedVariables false
set_option linter.unusedSimpArgs false
set_option maxHeartbeats 10000000
open Go

/-- Where an order leads to, and with which tries. -/
def tsF (op a b k : Int) : List Int := if op = 13 ∨ op = 14 then [a] else if op = 15 ∨ op = 30 then [b, k + 1] else [k + 1]
def lsF (op a b : Int) (l : List (Int × Int)) : List (List (Int × Int)) :=
  if op = 13 ∨ op = 14 then [l] else if op = 15 then [l, l] else if op = 30 then [l, l ++ [(a, b)]] else if op = 31 then [l.take (l.length - 1)] else [l]
def comesF (f : FnT) (ts : List Int) (ls : List (List (Int × Int))) : Nat → WT → WT
  | 0, W => W
  | j + 1, W => comeF f (ts.getD j 0) (ls.getD j []) (comesF f ts ls j W)

theorem ts_len (op a b k : Int) (l : List (Int × Int)) : (lsF op a b l).length = (tsF op a b k).length ∧ (tsF op a b k).length ≤ 2 := by
  unfold tsF lsF
  repeat' split
  all_goals first | (simp; done) | omega
theorem ts_lo {f : FnT} (hk : Cok f) {k : Nat} {i : InsT} (hi : f.code[k]? = some i) : ∀ t ∈ tsF i.op i.a i.b k, 0 ≤ t := by
  have hm := List.mem_of_getElem? hi
  intro t ht
  unfold tsF at ht
  split at ht
  · rename_i h; simp at ht; subst ht; exact hk.a i hm h
  · split at ht
    · rename_i h
      simp at ht
      rcases ht with rfl | rfl
      · exact hk.b i hm h
      · omega
    · simp at ht; subst ht; omega
theorem ls_le {op a b : Int} {l : List (Int × Int)} (h : l.length ≤ 20) : ∀ x ∈ lsF op a b l, x.length ≤ 21 := by
  intro x hx
  unfold lsF at hx
  repeat' split at hx
  all_goals simp at hx
  all_goals first | (subst hx; first | omega | (simp; omega)) | (rcases hx with rfl | rfl <;> first | omega | (simp; omega))

theorem from_comes {f : FnT} {k : Nat} {W : WT} {i : InsT} (hi : f.code[k]? = some i) (h1 : ¬ (i.op = 28 ∨ i.op = 29)) (h2 : ¬ (i.op = 31 ∧ W.out.getD k [] = [])) :
    fromF f k W = comesF f (tsF i.op i.a i.b k) (lsF i.op i.a i.b (W.out.getD k [])) (tsF i.op i.a i.b k).length W := by
  have e1 : f.code.getD (Int.toNat (k : Int)) ins0 = i := by simp [List.getD, hi]
  have e2 : W.out.getD (Int.toNat (k : Int)) [] = W.out.getD k [] := by simp
  unfold fromF tsF lsF
  simp only [e1, e2]
  rw [if_neg h1]
  by_cases h13 : i.op = 13 ∨ i.op = 14
  · simp only [if_pos h13]; rfl
  simp only [if_neg h13]
  by_cases h15 : i.op = 15
  · simp only [h15, if_true, true_or]; rfl
  by_cases h30 : i.op = 30
  · simp only [h30, or_true, if_true]; rfl
  rw [if_neg h15, if_neg h30]
  have h3 : ¬ (i.op = 15 ∨ i.op = 30) := fun h => h.elim h15 h30
  simp only [if_neg h3, if_neg h15, if_neg h30]
  by_cases h31 : i.op = 31
  · have : ¬ (W.out.getD k [] = []) := fun h => h2 ⟨h31, h⟩
    rw [if_pos h31, if_neg this, if_pos h31]; rfl
  · rw [if_neg h31, if_neg h31]; rfl

theorem comes_bad {f : FnT} {ts : List Int} {ls : List (List (Int × Int))} {W : WT} : ∀ {j m : Nat}, j ≤ m → (comesF f ts ls j W).bad = true → (comesF f ts ls m W).bad = true
  | j, 0, h, hb => by have : j = 0 := by omega
                      subst this; exact hb
  | j, m + 1, h, hb => by
    rcases Nat.lt_or_ge j (m + 1) with h1 | h1
    · exact come_bad (comes_bad (m := m) (by omega) hb)
    · have : j = m + 1 := by omega
      subst this; exact hb
theorem comes_iv {f : FnT} {ts : List Int} {ls : List (List (Int × Int))} {W : WT} (h : Wiv f W) (hts : ∀ t ∈ ts, 0 ≤ t) : ∀ {j : Nat}, Wiv f (comesF f ts ls j W)
  | 0 => h
  | j + 1 => by
    refine (come_iv (comes_iv h hts) ?_).1
    cases hj : ts[j]? with
    | none => simp [List.getD, hj]
    | some t => simpa [List.getD, hj] using hts t (List.mem_of_getElem? hj)

theorem pass_bad {f : FnT} {W : WT} : ∀ {j m : Nat}, j ≤ m → (passF f j W).bad = true → (passF f m W).bad = true
  | j, 0, h, hb => by have : j = 0 := by omega
                      subst this; exact hb
  | j, m + 1, h, hb => by
    rcases Nat.lt_or_ge j (m + 1) with h1 | h1
    · have := pass_bad (m := m) (by omega) hb
      show (if (passF f m W).bad = true then _ else _ : WT).bad = true
      rw [if_pos this]; exact this
    · have : j = m + 1 := by omega
      subst this; exact hb

/-- One pass more. -/
theorem doc_step {f : FnT} {W : WT} {k : Nat} (hd : docW f = knowF f k W) (hn : nuW W ≤ k) (ht : W.todo ≠ []) (hb : W.bad = false) :
    ((passF f f.code.length (freshW W)).bad = true → (docW f).bad = true) ∧ ∃ k', k = k' + 1 ∧ docW f = knowF f k' (passF f f.code.length (freshW W)) := by
  have h1 : 1 ≤ nuW W := by unfold nuW; rw [if_neg ht]; omega
  obtain ⟨k', rfl⟩ : ∃ k', k = k' + 1 := ⟨k - 1, by omega⟩
  have e : knowF f (k' + 1) W = knowF f k' (passF f f.code.length (freshW W)) := by
    show (if W.bad = true ∨ W.todo = [] then W else _) = _
    rw [if_neg (fun h => h.elim (by rw [hb]; simp) ht)]
  rw [e] at hd
  refine ⟨fun h => ?_, k', rfl, hd⟩
  rw [hd, know_stop (.inl h)]; exact h
theorem pass_next {f : FnT} {W : WT} {k : Nat} (hb : (passF f k W).bad = false) (hs : (passF f k W).seen.getD k false = true) : passF f (k + 1) W = fromF f k (passF f k W) := by
  show (if (passF f k W).bad = true then _ else if (passF f k W).seen.getD k false = true then _ else _) = _
  rw [if_neg (by rw [hb]; simp), if_pos hs]
theorem pass_skip {f : FnT} {W : WT} {k : Nat} (hb : (passF f k W).bad = false) (hs : (passF f k W).seen.getD k false = false) : passF f (k + 1) W = passF f k W := by
  show (if (passF f k W).bad = true then _ else if (passF f k W).seen.getD k false = true then _ else _) = _
  rw [if_neg (by rw [hb]; simp), if_neg (by rw [hs]; simp)]
theorem from_out {f : FnT} {k : Nat} {W : WT} {i : InsT} (hi : f.code[k]? = some i) (h : i.op = 28 ∨ i.op = 29) : fromF f k W = W := by
  have e1 : f.code.getD (Int.toNat (k : Int)) ins0 = i := by simp [List.getD, hi]
  unfold fromF
  simp only [e1]
  rw [if_pos h]
theorem from_end {f : FnT} {k : Nat} {W : WT} {i : InsT} (hi : f.code[k]? = some i) (h : i.op = 31) (h2 : W.out.getD k [] = []) : (fromF f k W).bad = true := by
  have e1 : f.code.getD (Int.toNat (k : Int)) ins0 = i := by simp [List.getD, hi]
  have e2 : W.out.getD (Int.toNat (k : Int)) [] = [] := by simpa using h2
  unfold fromF
  simp only [e1, e2]
  rw [h]; simp

/-- A row that is told once more. -/
theorem knC_same {f : FnT} {W : WT} (h : Wiv f W) {n : Nat} (hn : n < f.code.length) (hs : W.seen.getD n false = true) {l : List (Int × Int)} (hl : W.out.getD n [] = l) : (knC W).set n (kC true l) = knC W := by
  refine set_same ?_
  have h1 := knC_at h hn
  have h2 : n < (knC W).length := by rw [knC_len h]; exact hn
  rw [hs, hl] at h1
  simpa [List.getD, List.getElem?_eq_getElem h2] using h1
/-- What is handed back. -/
def knR (W : WT) : List (List RV) := List.zipWith (fun b l => [RV.v (.bool b), bif b then RV.rs 2 (l.map tryR) else .v (.slice none 0 0)]) W.seen W.out
theorem lendR_knC (n : Nat) (st : St) : ∀ (a : List Bool) (b : List (List (Int × Int))) (K : List Loc → List (List RV) → Prop), lendR (lendC n st) (List.zipWith kC a b) K = K [] (List.zipWith (fun b l => [RV.v (.bool b), bif b then RV.rs 2 (l.map tryR) else .v (.slice none 0 0)]) a b)
  | [], _, K => by simp only [List.zipWith_nil_left, lendR]
  | _ :: _, [], K => by simp only [List.zipWith_nil_right, lendR]
  | x :: a, y :: b, K => by
    cases x <;> cases n <;> (simp only [List.zipWith_cons_cons, lendR, lendL, lendC, kC, cond_true, cond_false]; rw [lendR_knC _ st a b]; rfl)
@[go_sem] theorem lendR_kn (n : Nat) (st : St) (W : WT) (K : List Loc → List (List RV) → Prop) : lendR (lendC n st) (knC W) K = K [] (knR W) := lendR_knC n st _ _ K
def docR (f : FnT) : AV := bif (docW f).bad then .tup [.r (.v (.slice none 0 0)), Bv false] else .tup [.r (.rs 2 (knR (docW f))), Bv true]
theorem docR_bad {f : FnT} (h : (docW f).bad = true) : docR f = .tup [.r (.v (.slice none 0 0)), Bv false] := by unfold docR; rw [h]; rfl
theorem docR_ok {f : FnT} (h : (docW f).bad = false) : docR f = .tup [.r (.rs 2 (knR (docW f))), Bv true] := by unfold docR; rw [h]; rfl

end Go.Proofs.YtjbhpoolghfhiaaDoor
