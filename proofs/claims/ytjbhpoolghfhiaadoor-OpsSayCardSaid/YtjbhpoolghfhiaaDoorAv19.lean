/- A region that draws its order comes to the same in whatever order. No condition: plain lemmas. -/
import Derived.Test.YtjbhpoolghfhiaaDoorAv18
namespace Go.Proofs.YtjbhpoolghfhiaaDoor
set_option linter.unusedVariables false
set_option linter.unusedSimpArgs false
set_option maxHeartbeats 10000000
open Go

abbrev Tr := List (List Loc × List (Loc × Cont))

theorem set_n (st : St) (l : Loc) (c : Cont) : (st.set l c).n = st.n := by cases l <;> cases c <;> rfl
theorem upd_n : ∀ (outs : List (Loc × Cont)) (st : St), (st.upd outs).n = st.n
  | [], _ => rfl
  | (l, c) :: r, st => by simp only [St.upd, upd_n r, set_n]

theorem get_set (st : St) (l m : Loc) (c : Cont) (hw : wk [(l, c)] = true) : (st.set l c).get m = if m = l then c else st.get m := by
  cases l <;> cases c <;> simp [wk] at hw
  · rename_i d x
    cases m with
    | T d' => simp only [St.set, St.get, lookT_put, Loc.T.injEq]; split <;> rfl
    | R k => simp [St.set, St.get]
  · rename_i k ver x
    cases m with
    | T d => simp [St.set, St.get]
    | R k' => simp only [St.set, St.get, lookR_put, Loc.R.injEq]; split <;> rfl

theorem wk_cons {l : Loc} {c : Cont} {r : List (Loc × Cont)} (h : wk ((l, c) :: r) = true) : wk [(l, c)] = true ∧ wk r = true := by
  cases l <;> cases c <;> simp [wk] at h ⊢ <;> exact h

theorem get_upd_out : ∀ {outs : List (Loc × Cont)} (st : St) {m : Loc}, wk outs = true → m ∉ outs.map (·.1) → (st.upd outs).get m = st.get m
  | [], _, _, _, _ => rfl
  | (l, c) :: r, st, m, hw, hm => by
    obtain ⟨h1, h2⟩ := wk_cons hw
    simp at hm
    simp only [St.upd]
    rw [get_upd_out _ h2 (by simpa using hm.2), get_set _ _ _ _ h1, if_neg hm.1]

theorem get_upd_in : ∀ {outs : List (Loc × Cont)} (st st' : St) {m : Loc}, wk outs = true → m ∈ outs.map (·.1) → (st.upd outs).get m = (st'.upd outs).get m
  | (l, c) :: r, st, st', m, hw, hm => by
    obtain ⟨h1, h2⟩ := wk_cons hw
    simp only [St.upd]
    by_cases h3 : m ∈ r.map (·.1)
    · exact get_upd_in _ _ h2 h3
    · rw [get_upd_out _ h2 h3, get_upd_out _ h2 h3, get_set _ _ _ _ h1, get_set _ _ _ _ h1]
      have : m = l := by simp at hm h3; rcases hm with h | ⟨x, h⟩; exact h; exact absurd h (h3 x)
      simp [this]

/-- The state behind the first k operations. -/
def sts (st : St) (L : Tr) (k : Nat) : St := (L.take k).foldl (fun s p => s.upd p.2) st

theorem sts_n (st : St) (L : Tr) (k : Nat) : (sts st L k).n = st.n := by
  unfold sts
  generalize L.take k = M
  induction M generalizing st with
  | nil => rfl
  | cons p M ih => simp only [List.foldl_cons, ih, upd_n]

theorem sts_succ (st : St) (L : Tr) (k : Nat) (p : List Loc × List (Loc × Cont)) (h : L[k]? = some p) : sts st L (k + 1) = (sts st L k).upd p.2 := by
  unfold sts
  have hk := (List.getElem?_eq_some_iff.1 h).1
  have : L.take (k + 1) = L.take k ++ [p] := by
    rw [List.take_add_one, h]; rfl
  rw [this, List.foldl_append]; rfl

theorem TR_get {C : Ctx} {ops : Array Oper} : ∀ {L : Tr} {k : Nat} {st st' : St}, TR C ops k st L st' → (st' = sts st L L.length ∧ ∀ i p, L[i]? = some p → DStep C ops (k + i) st.n (p.1.map fun x => (x, (sts st L i).get x)) p.2 ∧ wk p.2 = true)
  | [], k, st, st', h => ⟨h.symm, fun i p hp => by simp at hp⟩
  | (rds, outs) :: L, k, st, st', ⟨h1, h2, h3⟩ => by
    obtain ⟨q1, q2⟩ := TR_get h3
    refine ⟨by rw [q1]; simp [sts], fun i p hp => ?_⟩
    cases i with
    | zero => simp at hp; subst hp; simpa [sts] using ⟨h1, h2⟩
    | succ i =>
      obtain ⟨r1, r2⟩ := q2 i p (by simpa using hp)
      rw [upd_n] at r1
      refine ⟨?_, r2⟩
      have e : k + 1 + i = k + (i + 1) := by omega
      rw [e] at r1
      simpa [sts] using r1

/-- Does operation i write there? -/
def wr (L : Tr) (i : Nat) (m : Loc) : Bool := match L[i]? with | some p => (p.2.map (·.1)).contains m | none => false

/-- One more than the last operation of a set that writes there. -/
def lw (L : Tr) (E : Nat → Bool) (m : Loc) : Nat → Nat
  | 0 => 0
  | k + 1 => if (E k && wr L k m) = true then k + 1 else lw L E m k

theorem lw_congr {L : Tr} {E E' : Nat → Bool} {m : Loc} : ∀ {n : Nat}, (∀ j, j < n → (E j && wr L j m) = (E' j && wr L j m)) → lw L E m n = lw L E' m n
  | 0, _ => rfl
  | k + 1, h => by
    simp only [lw, h k (by omega)]
    rw [lw_congr fun j hj => h j (by omega)]

/-- What stands at a place behind the first k operations is what the last of them that writes there has left. -/
theorem sts_lw {st : St} {L : Tr} (hw : ∀ (i : Nat) (p : List Loc × List (Loc × Cont)), L[i]? = some p → wk p.2 = true) (m : Loc) : ∀ k, k ≤ L.length → (sts st L k).get m = (sts st L (lw L (fun _ => true) m k)).get m
  | 0, _ => rfl
  | k + 1, hk => by
    simp only [lw, Bool.true_and]
    split
    · rfl
    · rename_i hn
      have hp : L[k]? = some L[k] := List.getElem?_eq_getElem (by omega)
      rw [sts_succ _ _ _ _ hp, get_upd_out _ (hw _ _ hp)]
      · exact sts_lw hw m k (by omega)
      · simp only [wr, hp, List.contains_iff_mem] at hn
        exact hn

theorem lw_cut {L : Tr} {E : Nat → Bool} {m : Loc} {k : Nat} (h : ∀ j, k ≤ j → (E j && wr L j m) = false) : ∀ {n : Nat}, k ≤ n → lw L E m n = lw L E m k
  | 0, hk => by have : k = 0 := by omega
                rw [this]
  | n + 1, hk => by
    by_cases e : k = n + 1
    · rw [e]
    · simp only [lw, h n (by omega), Bool.false_eq_true, if_false]
      exact lw_cut h (by omega)

/-- How many are not yet done. -/
def cntU (E : Nat → Bool) : Nat → Nat
  | 0 => 0
  | m + 1 => cntU E m + if E m = true then 0 else 1

theorem cntU_zero {E : Nat → Bool} : ∀ {n : Nat}, cntU E n = 0 → ∀ i, i < n → E i = true
  | m + 1, h, i, hi => by
    simp only [cntU] at h
    by_cases e : i = m
    · subst e; by_cases h2 : E i = true
      · exact h2
      · simp [h2] at h
    · exact cntU_zero (by split at h <;> omega) i (by omega)

theorem cntU_set {E E' : Nat → Bool} {i : Nat} (hi : E i = false) (h1 : E' i = true) (h2 : ∀ j, j ≠ i → E' j = E j) : ∀ {n : Nat}, (i < n → cntU E' n + 1 = cntU E n) ∧ (n ≤ i → cntU E' n = cntU E n)
  | 0 => ⟨by omega, fun _ => rfl⟩
  | m + 1 => by
    have ih := cntU_set hi h1 h2 (n := m)
    refine ⟨fun hlt => ?_, fun hle => ?_⟩
    · simp only [cntU]
      by_cases e : i = m
      · subst e; rw [ih.2 (Nat.le_refl _), h1, hi]; simp
      · rw [h2 m (Ne.symm e)]; have := ih.1 (by omega); omega
    · simp only [cntU, h2 m (by omega)]; rw [ih.2 (by omega)]

theorem befs_len : ∀ (edges : List (List Nat)) (acc : List Nat), (edges.foldl (fun acc es => acc ++ [es.foldl (fun s e => s ||| 2 ^ e ||| acc.getD e 0) 0]) acc).length = acc.length + edges.length
  | [], acc => rfl
  | es :: edges, acc => by simp only [List.foldl_cons, befs_len edges]; simp; omega

/-- What stands ahead of an operation is done where it is, if what its edges name is done. -/
theorem fold_bit (E : Nat → Bool) (acc : List Nat) (hacc : ∀ e, E e = true → ∀ i, (acc.getD e 0).testBit i = true → E i = true) : ∀ (es : List Nat) (s : Nat), (∀ i, s.testBit i = true → E i = true) → (∀ e ∈ es, E e = true) →
    ∀ i, (es.foldl (fun s e => s ||| 2 ^ e ||| acc.getD e 0) s).testBit i = true → E i = true
  | [], s, hs, _, i, hi => hs i hi
  | e :: es, s, hs, he, i, hi => by
    simp only [List.foldl_cons] at hi
    refine fold_bit E acc hacc es _ (fun i hi => ?_) (fun e' h => he e' (List.mem_cons_of_mem _ h)) i hi
    rw [Nat.testBit_or, Nat.testBit_or, Bool.or_eq_true, Bool.or_eq_true] at hi
    have hee := he e List.mem_cons_self
    rcases hi with (hi | hi) | hi
    · exact hs i hi
    · rw [Nat.testBit_two_pow] at hi
      have : e = i := by simpa using hi
      rw [← this]; exact hee
    · exact hacc e hee i hi

theorem befs_down (E : Nat → Bool) : ∀ (edges : List (List Nat)) (acc : List Nat), (∀ e, E e = true → ∀ i, (acc.getD e 0).testBit i = true → E i = true) → (∀ j es, edges[j]? = some es → E (acc.length + j) = true → ∀ e ∈ es, E e = true) →
    ∀ j, E j = true → ∀ i, ((edges.foldl (fun acc es => acc ++ [es.foldl (fun s e => s ||| 2 ^ e ||| acc.getD e 0) 0]) acc).getD j 0).testBit i = true → E i = true
  | [], acc, hacc, _, j, hj, i, hi => hacc j hj i hi
  | es :: edges, acc, hacc, hdown, j, hj, i, hi => by
    simp only [List.foldl_cons] at hi
    refine befs_down E edges _ (fun e he i hi => ?_) (fun j' es' h1 h2 e he => hdown (j' + 1) es' (by simpa using h1) (by simp at h2; rw [show acc.length + (j' + 1) = acc.length + 1 + j' by omega]; exact h2) e he) j hj i hi
    by_cases h1 : e < acc.length
    · have : (acc ++ [es.foldl (fun s e => s ||| 2 ^ e ||| acc.getD e 0) 0]).getD e 0 = acc.getD e 0 := by simp [List.getD, List.getElem?_append_left h1]
      rw [this] at hi
      exact hacc e he i hi
    · by_cases h2 : e = acc.length
      · subst h2
        have : (acc ++ [es.foldl (fun s e => s ||| 2 ^ e ||| acc.getD e 0) 0]).getD acc.length 0 = es.foldl (fun s e => s ||| 2 ^ e ||| acc.getD e 0) 0 := by simp [List.getD]
        rw [this] at hi
        exact fold_bit E acc hacc es 0 (fun i hi => by simp at hi) (hdown 0 es rfl he) i hi
      · have : (acc ++ [es.foldl (fun s e => s ||| 2 ^ e ||| acc.getD e 0) 0]).getD e 0 = 0 := by
          unfold List.getD
          rw [List.getElem?_eq_none (by simp; omega)]; rfl
        rw [this] at hi
        simp at hi

/-- Whatever the order, the region comes to where its operations in the text's order come. -/
theorem draw_any {C : Ctx} {ops : Array Oper} {st0 : St} {L : Tr} (hL : L.length = ops.size) (htr : ∀ (i : Nat) (p : List Loc × List (Loc × Cont)), L[i]? = some p → DStep C ops i st0.n (p.1.map fun x => (x, (sts st0 L i).get x)) p.2 ∧ wk p.2 = true)
    (hind : indepB (edgesOf ops.toList) (L.map fun p => (p.1, p.2.map (·.1))) = true) {e : Env} {Q : Exit → Act → World → Prop} (hQ : ∀ a' w', S C e (sts st0 L L.length) a' w' → Q .normal a' w') :
    ∀ (fuel : Nat) (listed : Array Bool) (cur : St) (a : Act) (w : World), listed.size = ops.size → cntU (fun i => listed.getD i false) ops.size ≤ fuel →
      (∀ j o, ops[j]? = some o → listed.getD j false = true → ∀ d ∈ o.after, Region.binds .any d = true → listed.getD d.on false = true) →
      cur.n = st0.n → (∀ m, cur.get m = (sts st0 L (lw L (fun i => listed.getD i false) m L.length)).get m) → S C e cur a w → wpAny C.P .any ops Q fuel listed a w := by
  have hwk : ∀ (i : Nat) (p : List Loc × List (Loc × Cont)), L[i]? = some p → wk p.2 = true := fun i p hp => (htr i p hp).2
  have hed : ∀ (j : Nat) (o : Oper), ops[j]? = some o → (edgesOf ops.toList)[j]? = some ((o.after.toList.filter (Region.binds .any)).map (·.on)) := fun j o ho => by
    simp [edgesOf, ho]
  have hlt : ∀ (j : Nat) (o : Oper), ops[j]? = some o → ∀ d ∈ o.after, Region.binds .any d = true → d.on < j := fun j o ho d hd hb => by
    simp only [indepB, Bool.and_eq_true, List.all_eq_true] at hind
    have h1 := hind.1 ((o.after.toList.filter (Region.binds .any)).map (·.on), j) (by
      rw [List.mem_zipIdx_iff_getElem?]; exact hed j o ho)
    have h2 := h1 d.on (List.mem_map.2 ⟨d, List.mem_filter.2 ⟨by simpa using hd, hb⟩, rfl⟩)
    simpa using h2
  have hap : ∀ (i j : Nat) (p q : List Loc × List (Loc × Cont)), i < j → L[i]? = some p → L[j]? = some q → ((befs (edgesOf ops.toList)).getD j 0).testBit i = true ∨
      ((∀ m ∈ p.2.map (·.1), m ∉ q.1) ∧ (∀ m ∈ p.2.map (·.1), m ∉ q.2.map (·.1)) ∧ (∀ m ∈ q.2.map (·.1), m ∉ p.1)) := fun i j p q hij hp hq => by
    simp only [indepB, Bool.and_eq_true, List.all_eq_true] at hind
    have h1 := hind.2 j (by simpa using (List.getElem?_eq_some_iff.1 hq).1) i (by simpa using hij)
    rw [Bool.or_eq_true] at h1
    refine h1.imp id fun h2 => ?_
    simp only [List.getD, List.getElem?_map, hp, hq, Option.map_some, Option.getD_some, apartB, Bool.and_eq_true, disj, List.all_eq_true] at h2
    obtain ⟨⟨h3, h4⟩, h5⟩ := h2
    exact ⟨fun m hm => by simpa using h3 m hm, fun m hm => by simpa using h4 m hm, fun m hm => by simpa using h5 m hm⟩
  intro fuel
  induction fuel with
  | zero =>
    intro listed cur a w hsz hcnt hdown hn hcur hs
    have hall := cntU_zero (Nat.le_zero.1 hcnt)
    refine ⟨?_, hQ a w (hs.weaken ?_)⟩
    · rw [List.eq_nil_iff_forall_not_mem]
      intro i hi
      obtain ⟨h1, o, ho, _⟩ := mem_ready.1 hi
      have hlt' := (Array.getElem?_eq_some_iff.1 ho).1
      have := hall i hlt'
      have hb : i < listed.size := by omega
      simp [Array.getD_eq_getD_getElem?, Array.getElem?_eq_getElem hb] at h1 this
      rw [h1] at this; cases this
    · have key : ∀ m, (sts st0 L L.length).get m = cur.get m := fun m => by
        rw [hcur m, sts_lw hwk m L.length (Nat.le_refl _), lw_congr (E := fun _ => true) (E' := fun i => listed.getD i false) fun j hj => by rw [hall j (by omega)]]
      refine ⟨by rw [sts_n, hn], fun d => .inr ?_, fun k => .inl ?_⟩
      · simpa [St.get] using key (.T d)
      · have := key (.R k)
        simp only [St.get, Cont.s.injEq] at this
        exact Prod.ext this.1 this.2
  | succ fuel ih =>
    intro listed cur a w hsz hcnt hdown hn hcur hs
    refine ⟨fun hr => ?_, fun i hi => ?_⟩
    · -- nothing is ready: all is done
      have hall : ∀ i, i < ops.size → listed.getD i false = true := by
        intro i
        induction i using Nat.strongRecOn with
        | _ i ihi =>
          intro hi
          by_cases h : listed.getD i false = true
          · exact h
          · exfalso
            have ho : ops[i]? = some ops[i] := Array.getElem?_eq_getElem hi
            have hb : i < listed.size := by omega
            have : i ∈ Region.ready .any ops listed := mem_ready.2 ⟨by simpa [Array.getD_eq_getD_getElem?, Array.getElem?_eq_getElem hb] using h, _, ho, fun d hd hbd => by
              have := hlt i _ ho d hd hbd
              exact ihi d.on this (by omega)⟩
            rw [hr] at this
            cases this
      refine hQ a w (hs.weaken ?_)
      have key : ∀ m, (sts st0 L L.length).get m = cur.get m := fun m => by
        rw [hcur m, sts_lw hwk m L.length (Nat.le_refl _), lw_congr (E := fun _ => true) (E' := fun i => listed.getD i false) fun j hj => by rw [hall j (by omega)]]
      refine ⟨by rw [sts_n, hn], fun d => .inr ?_, fun k => .inl ?_⟩
      · simpa [St.get] using key (.T d)
      · have := key (.R k)
        simp only [St.get, Cont.s.injEq] at this
        exact Prod.ext this.1 this.2
    · obtain ⟨h1, o, ho, hpre⟩ := mem_ready.1 hi
      have hisz := (Array.getElem?_eq_some_iff.1 ho).1
      have hib : i < listed.size := by omega
      have hif : listed.getD i false = false := by simpa [Array.getD_eq_getD_getElem?, Array.getElem?_eq_getElem hib] using h1
      have hp : L[i]? = some L[i] := List.getElem?_eq_getElem (by omega)
      generalize hpp : L[i] = p at hp
      obtain ⟨hd, hwkp⟩ := htr i p hp
      -- who stands ahead of i is done
      have hB : ∀ (E : Nat → Bool), (∀ j o, ops[j]? = some o → E j = true → ∀ d ∈ o.after, Region.binds .any d = true → E d.on = true) → ∀ j, E j = true → ∀ k, ((befs (edgesOf ops.toList)).getD j 0).testBit k = true → E k = true := fun E hE j hj k hk => by
        refine befs_down E (edgesOf ops.toList) [] (fun e _ i hi => by simp at hi) (fun j' es hes hj' d hd => ?_) j hj k hk
        simp only [List.length_nil, Nat.zero_add] at hj'
        have hlen : j' < ops.size := by
          have := (List.getElem?_eq_some_iff.1 hes).1
          simpa [edgesOf] using this
        have hoj : ops[j']? = some ops[j'] := Array.getElem?_eq_getElem hlen
        rw [hed j' _ hoj] at hes
        simp only [Option.some.injEq] at hes
        rw [← hes] at hd
        obtain ⟨q, hq, rfl⟩ := List.mem_map.1 hd
        obtain ⟨hq1, hq2⟩ := List.mem_filter.1 hq
        exact hE j' _ hoj hj' q (by simpa using hq1) hq2
      have hset : ∀ j, (listed.setIfInBounds i true).getD j false = if j = i then true else listed.getD j false := fun j => by
        by_cases h : j = i
        · subst h; simp [Array.getD_eq_getD_getElem?, hib]
        · simp [Array.getD_eq_getD_getElem?, Array.getElem?_setIfInBounds_ne (Ne.symm h), h]
      have hdown' : ∀ j o, ops[j]? = some o → (listed.setIfInBounds i true).getD j false = true → ∀ d ∈ o.after, Region.binds .any d = true → (listed.setIfInBounds i true).getD d.on false = true := fun j o' ho' hj d hdd hb => by
        rw [hset] at hj ⊢
        by_cases h : d.on = i
        · rw [if_pos h]
        · rw [if_neg h]
          by_cases hji : j = i
          · subst hji
            rw [ho] at ho'; simp at ho'; subst ho'
            exact hpre d hdd hb
          · rw [if_neg hji] at hj
            exact hdown j o' ho' hj d hdd hb
      have hEi := hB _ hdown'
      have hEl := hB (fun j => listed.getD j false) hdown
      -- which of the done ones write to a place that i reads or writes
      have hside : ∀ j, j < L.length → ∀ m, (m ∈ p.1 ∨ m ∈ p.2.map (·.1)) → j ≠ i → (listed.getD j false && wr L j m) = (decide (j < i) && wr L j m) := fun j hj m hm hji => by
        have hq : L[j]? = some L[j] := List.getElem?_eq_getElem hj
        cases hwj : wr L j m with
        | false => simp
        | true =>
          have hmw : m ∈ (L[j]).2.map (·.1) := by simpa [wr, hq] using hwj
          simp only [Bool.and_true]
          by_cases hlt2 : j < i
          · rcases hap j i _ p hlt2 hq hp with h2 | ⟨h2, h3, h4⟩
            · have := hEi i (by rw [hset, if_pos rfl]) j h2
              rw [hset, if_neg hji] at this
              simp [hlt2, this]
            · rcases hm with hm | hm
              · exact absurd hm (h2 m hmw)
              · exact absurd hm (h3 m hmw)
          · have hgt : i < j := by omega
            simp only [hlt2, decide_false]
            rcases hap i j p _ hgt hp hq with h2 | ⟨h2, h3, h4⟩
            · cases hlj : listed.getD j false with
              | false => rfl
              | true =>
                have h9 : listed.getD i false = true := hEl j hlj i h2
                rw [hif] at h9
                cases h9
            · rcases hm with hm | hm
              · exact absurd hm (h4 m hmw)
              · exact absurd hmw (h3 m hm)
      have hlast : ∀ m, (m ∈ p.1 ∨ m ∈ p.2.map (·.1)) → lw L (fun j => listed.getD j false) m L.length = lw L (fun _ => true) m i := fun m hm => by
        rw [lw_congr (E' := fun j => decide (j < i)) (fun j hj => by
          by_cases hji : j = i
          · subst hji; simp [hif]
          · exact hside j hj m hm hji)]
        rw [lw_cut (k := i) (fun j hj => by simp; omega) (by omega)]
        exact lw_congr fun j hj => by simp [hj]
      have hag : Agree cur (p.1.map fun x => (x, (sts st0 L i).get x)) := by
        refine Agree_of.2 fun m hm => ?_
        rw [hcur m, hlast m (.inl hm), ← sts_lw hwk m i (by omega)]
      refine hd e cur a w _ Q hn hs hag fun a' w' hs' => ?_
      refine ih (listed.setIfInBounds i true) (cur.upd p.2) a' w' (by simpa using hsz) ?_ hdown' (by rw [upd_n]; exact hn) (fun m => ?_) hs'
      · have := (cntU_set (E := fun j => listed.getD j false) (E' := fun j => (listed.setIfInBounds i true).getD j false) (i := i) hif (by rw [hset]; simp) (fun j hj => by rw [hset, if_neg hj]) (n := ops.size)).1 hisz
        omega
      · by_cases hm : m ∈ p.2.map (·.1)
        · have e1 : lw L (fun j => (listed.setIfInBounds i true).getD j false) m L.length = i + 1 := by
            rw [lw_congr (E' := fun j => decide (j < i + 1)) (fun j hj => by
              rw [hset]
              by_cases hji : j = i
              · subst hji; simp
              · rw [if_neg hji, hside j hj m (.inr hm) hji]
                have : decide (j < i) = decide (j < i + 1) := by
                  by_cases h : j < i
                  · simp [h]; omega
                  · have : ¬ j < i + 1 := by omega
                    simp [h, this]
                rw [this])]
            rw [lw_cut (k := i + 1) (fun j hj => by simp; omega) (by omega)]
            have hwi : wr L i m = true := by simp only [wr, hp, List.contains_iff_mem]; exact hm
            simp [lw, hwi]
          rw [e1, sts_succ _ _ _ _ hp]
          exact get_upd_in _ _ hwkp hm
        · rw [get_upd_out _ hwkp hm, hcur m]
          congr 2
          refine (lw_congr fun j hj => ?_).symm
          rw [hset]
          by_cases hji : j = i
          · subst hji
            have hwi : wr L j m = false := by
              simp only [wr, hp]
              simpa using hm
            simp [hwi]
          · rw [if_neg hji]

theorem cntU_none : ∀ (n : Nat), cntU (fun _ => false) n = n
  | 0 => rfl
  | n + 1 => by simp [cntU, cntU_none n]

/-- A region that draws its order, met: its operations in the text's order, and that those which no edge orders do not meet. -/
theorem DrawG_of {C : Ctx} {T : List (Ct C)} {id : Nat} {ops : Array Oper} {st : St} {K : St → Prop} (h : drun C T 0 [] ops.toList st [] fun fps s => indepB (edgesOf ops.toList) fps = true ∧ K s) : DrawG C id ops st K := by
  intro e a w Q hs hq
  obtain ⟨L, st', htr, hlen, hind, hK⟩ := drun_ok (ops := ops) h (by simp) (fun j d hj => by simp [lookN] at hj)
  obtain ⟨q1, q2⟩ := TR_get htr
  subst q1
  have hL : L.length = ops.size := by simpa using hlen
  obtain ⟨ho, g, hr⟩ := hs
  refine wp_region_any C.mixed ?_
  have hs' : S C e st a { w with drawn := w.drawn + 1 } := ⟨ho, g, hr.world rfl rfl rfl rfl⟩
  have hf : (fun i => (Array.replicate ops.size false).getD i false) = fun _ => false := by
    funext i
    simp only [Array.getD_eq_getD_getElem?, Array.getElem?_replicate]
    split <;> rfl
  refine draw_any hL (fun i p hp => by simpa using q2 i p hp) (by simpa using hind) (fun a' w' h' => hq a' w' _ h' hK) ops.size (Array.replicate ops.size false) st a _ (by simp) (by rw [hf, cntU_none]; exact Nat.le_refl _) (fun j o _ hj => by
    have h9 : (Array.replicate ops.size false).getD j false = false := congrFun hf j
    rw [h9] at hj; cases hj) rfl (fun m => ?_) hs'
  rw [hf]
  have : ∀ n, lw L (fun _ => false) m n = 0 := by
    intro n; induction n with
    | zero => rfl
    | succ n ih => simp [lw, ih]
  rw [this]; rfl

end Go.Proofs.YtjbhpoolghfhiaaDoor
