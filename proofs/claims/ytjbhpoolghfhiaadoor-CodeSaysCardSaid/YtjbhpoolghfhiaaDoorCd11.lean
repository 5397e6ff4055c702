/- The walk through all orders, run. No condition: the contract of the program's function. -/
import Derived.Test.YtjbhpoolghfhiaaDoorCd10
namespace Go.Proofs.YtjbhpoolghfhiaaDoor
set_option linter.unusedVariables false
set_option linter.unusedSimpArgs false
set_option maxHeartbeats 10000000
open Go
set_option maxRecDepth 10000



/-- Rows told otherwise. -/
theorem SR.tellS {C : Ctx} {e : Env} {st : St} {g : Gh} {a : Act} {w : World} (h : SR C e st g a w) {k ver el sz : Nat} {rows rows' : List (List AV)} (hk : lookR k st.rs = (ver, .sl el sz rows)) (hl : rows'.length = rows.length) (hr : ∀ row ∈ rows', row.length = sz)
    (hv : ∀ (i j : Nat) (row row' : List AV) (x x' : AV), rows[i]? = some row → rows'[i]? = some row' → row[j]? = some x → row'[j]? = some x' → ∀ cur g w N v, AR cur g w N x v → AR cur g w N x' v) :
    SR C e { st with rs := putR k (ver, .sl el sz rows') st.rs } g a w := by
  generalize hst : ({ st with rs := putR k (ver, .sl el sz rows') st.rs } : St) = st'
  have hlook : ∀ i, lookR i st'.rs = if i = k then (ver, .sl el sz rows') else lookR i st.rs := fun i => by rw [← hst]; exact lookR_put i k _ _
  have ht : st'.t = st.t := by rw [← hst]
  have hcur : st'.cur = st.cur := funext fun i => by
    simp only [St.cur, hlook]
    by_cases hi : i = k
    · subst hi; rw [if_pos rfl, hk]
    · rw [if_neg hi]
  have hblk : ∀ i, blk st' g i = blk st g i := fun i => by
    unfold blk
    rw [hlook]
    by_cases hi : i = k
    · subst hi; rw [if_pos rfl, hk]
    · rw [if_neg hi]
  have hown : own st' g = own st g := funext fun b => propext ⟨fun ⟨i, hi⟩ => ⟨i, by rw [← hblk]; exact hi⟩, fun ⟨i, hi⟩ => ⟨i, by rw [hblk]; exact hi⟩⟩
  have hN : e.N st' g = e.N st g := by unfold Env.N; rw [hown]
  refine ⟨h.defers, by rw [← hst]; exact h.size, fun d => by rw [hcur, hN, ht]; exact h.temps d, fun i => ?_, fun i i' b hi hi' => h.uniq i i' b (hblk i ▸ hi) (hblk i' ▸ hi'), fun i b hi => h.low i b (hblk i ▸ hi), by rw [hown]; exact h.ext, by rw [hcur]; exact h.hist⟩
  rw [hcur, hN, hlook]
  by_cases hi : i = k
  · subst hi
    rw [if_pos rfl]
    have hres := h.res i
    rw [hk] at hres
    obtain ⟨xs, q1, q2, q3⟩ := hres
    refine ⟨xs, by rw [hl]; exact q1, hr, fun i' j' row' x' y h1 h2 h3 => ?_⟩
    have hlt := (List.getElem?_eq_some_iff.1 h1).1
    have hr0 : rows[i']? = some (rows[i']'(by omega)) := List.getElem?_eq_getElem (by omega)
    have hj : j' < sz := by rw [← hr row' (List.mem_of_getElem? h1)]; exact (List.getElem?_eq_some_iff.1 h2).1
    have hx0 : (rows[i']'(by omega))[j']? = some ((rows[i']'(by omega))[j']'(by rw [q2 _ (List.mem_of_getElem? hr0)]; exact hj)) := List.getElem?_eq_getElem _
    exact hv i' j' _ row' _ x' hr0 h1 hx0 h2 _ _ _ _ _ (q3 i' j' _ _ y hr0 hx0 h3)
  · rw [if_neg hi]; exact h.res i

theorem Rn_tellS {C : Ctx} {T : List (Ct C)} {r : List It} {st st' : St} {K : Exit → St → Prop} (k : Nat) {ver el sz : Nat} {rows : List (List AV)} (rows' : List (List AV)) (hk : lookR k st.rs = (ver, .sl el sz rows)) (hl : rows'.length = rows.length) (hr : ∀ row ∈ rows', row.length = sz)
    (hv : ∀ (i j : Nat) (row row' : List AV) (x x' : AV), rows[i]? = some row → rows'[i]? = some row' → row[j]? = some x → row'[j]? = some x' → ∀ cur g w N v, AR cur g w N x v → AR cur g w N x' v) (hc : hasC r = true)
    (hst : ∀ K0 : St → Prop, Imp (K0 st') (K0 { st with rs := putR k (ver, .sl el sz rows') st.rs })) (hk2 : Rn C T r st' K) : Rn C T r st K := by
  have hk' := (hst fun s => Rn C T r s K).run hk2
  exact Rn_up hc (fun e a w ⟨ho, g, hs⟩ => ⟨ho, g, hs.tellS hk hl hr hv⟩) hk'

abbrev rsT (W : WT) : List (Nat × Nat × Res) := [(11, 1, .sl 4 1 (W.seen.map boolC)), (15, 1, .sl 49 1 (W.out.map trsC))]
theorem insT (W : WT) (k : Nat) : withinRes (domR (rsT W)) (lookR k (rsT W)).2 := by
  have e : lookR k (rsT W) = if k = 11 then (1, .sl 4 1 (W.seen.map boolC)) else if k = 15 then (1, .sl 49 1 (W.out.map trsC)) else (0, .gone) := rfl
  rw [e]
  split
  · exact fun row h => withinL_none (flatBool _ row h)
  · split
    · exact fun row h => withinL_none (flatTrs _ row h)
    · trivial

theorem tries_c (f : FnT) (hc : Cok f) : FC Cx 44 [fnA f] [] (.tup [.os 15 1, .os 11 1, Bv (!(walkF f).bad)]) (rsT (walkF f)) := by
  have hlen := hc.len
  have l0 : (f.code.map insR).length = f.code.length := List.length_map ..
  obtain ⟨iv0, run0⟩ := walk_start hc
  have ok0 : Wok f (W0 f) := (W0_iv f).1.ok hlen
  have ok0' : Wok f ⟨(W0 f).seen, (W0 f).out, (W0 f).todo, false⟩ := ok0
  have e0 : comeF f 0 [] ⟨(W0 f).seen, (W0 f).out, (W0 f).todo, false⟩ = comeF f 0 [] (W0 f) := rfl
  have tn : Int.toNat (f.code.length : Int) = f.code.length := by omega
  have s1 : List.replicate f.code.length [Bv false] = (W0 f).seen.map boolC := by simp [W0]
  have s3 : ([] : List (List AV)) = (W0 f).todo.map intC := rfl
  have hmap : ∀ {α : Type} (g : α → List AV) (l : List α), (l.map g).length = l.length := fun g l => List.length_map ..
  refine FCm_of [ct_come, ct_from]  Tryd.func44 rfl Tryd.ntmps44 (by simp) Tryd.results44 rfl (insT _) ?_
  apply Rn_st; (intro K0; simp only [go_sem]; exact ⟨id⟩)
  refine goR (L := []) (n := 0) ?_
  (apply Rn_frzB 1; (exact rfl); (exact rfl); (exact rfl); (intro K0; (try simp only [go_sem]); exact ⟨id⟩))
  (any_goals refine go (dropL 2 lv44) 0 ?_)
  repeat' (first | (refine Br.go (fun h h' => ?_) (fun h h' => ?_)) | (refine Br.mk (fun h => ?_) (fun h => ?_)))
  (apply Rn_tellS 15 ((W0 f).out.map trsC); (exact rfl); (simp [W0]); (intro row hr; obtain ⟨x, _, rfl⟩ := List.mem_map.1 hr; rfl); (intro i j row row' x x' h1 h2 h3 h4 cur g w N v hv; have e1 := List.eq_of_mem_replicate (List.mem_of_getElem? h1); subst e1; simp only [W0, List.map_replicate] at h2; have e2 := List.eq_of_mem_replicate (List.mem_of_getElem? h2); subst e2; match j with | 0 => (simp at h3 h4; subst h3; subst h4; exact AR_nil 2 hv) | j + 1 => simp at h3); (exact rfl); (intro K0; (try simp only [go_sem, tn, s1]); exact ⟨id⟩))
  (apply Rn_nilcell 17 7 100 3 1; (exact rfl); (decide); (exact rfl); (exact rfl); (intro K0; (try simp only [go_sem, s3, List.set_cons_zero, List.set_cons_succ]); exact ⟨id⟩))
  (any_goals refine go lv44 0 ?_)
  repeat' (first | (refine Br.go (fun h h' => ?_) (fun h h' => ?_)) | (refine Br.mk (fun h => ?_) (fun h => ?_)))
  refine Rn_loopR [5] (fun x : WT × Nat => Wiv f x.1 ∧ runW f (muW x.1) x.1 = walkF f)
    (fun x => ⟨75, [(5, .os 17 1)], [(1, 2, .gone), (11, 1, .sl 4 1 (x.1.seen.map boolC)), (15, 1, .sl 49 1 (x.1.out.map trsC)), (17, 1, .bx [Iv f.params, Iv f.regs, Bv f.gen, intsV f.caught, inssV f.code, .os 11 1, .os 15 1, .os 100 x.2, Bv x.1.bad]), (100, x.2, .sl 3 1 (x.1.todo.map intC))]⟩) (fun x => muW x.1) (comeF f 0 [] (W0 f), 2) rfl rfl ⟨rfl, .inl ⟨rfl, rfl⟩, rfl, .inl ⟨rfl, rfl⟩, rfl, .inl ⟨rfl, rfl⟩, rfl, .inl ⟨rfl, rfl⟩, rfl, .inl ⟨rfl, rfl⟩, trivial⟩ ⟨iv0, run0⟩ ?_
  rintro ⟨W, v⟩ ⟨iv, run⟩
  dsimp only at iv run
  cases hb : W.bad with
  | true =>
    (any_goals refine go lv44 0 ?_)
    repeat' (first | (refine Br.go (fun h h' => ?_) (fun h h' => ?_)) | (refine Br.mk (fun h => ?_) (fun h => ?_)))
    all_goals (try simp only [go_sem])
    have he := walk_end (f := f) (W := W) (by simp [goesW, hb]) run
    rw [← he, hb]
    exact ⟨rfl, rfl, rfl⟩
  | false =>
    by_cases h0 : 0 < W.todo.length
    · have d0 : decide ((0 : Int) < (W.todo.length : Int)) = true := by rw [decide_eq_true_eq]; omega
      have hlast : W.todo[W.todo.length - 1]? = some (lastT W) := by
        have hlt : W.todo.length - 1 < W.todo.length := by omega
        unfold lastT
        simp [List.getD, List.getElem?_eq_getElem hlt]
      have gl := getD_map intC hlast ([] : List AV)
      have ht := iv.todo
      have w1 : IntKind.i64.wrap ((W.todo.length : Int) - 1) = ((W.todo.length - 1 : Nat) : Int) := by rw [wrap_id] <;> omega
      have t1 : Int.toNat ((W.todo.length - 1 : Nat) : Int) = W.todo.length - 1 := by omega
      have hg : goesW W = true := by simp [goesW, hb, h0]
      obtain ⟨q1, q2, q3, q4⟩ := pop_iv iv h0
      obtain ⟨q5, q6⟩ := step_iv iv hc hg
      have hpre : Wpre f (lastT W) ⟨W.seen, W.out, W.todo.take (W.todo.length - 1), false⟩ := ⟨q3, q4, hc, by have := q1; unfold popW at this; rwa [hb] at this⟩
      have hst : fromF f (lastT W) ⟨W.seen, W.out, W.todo.take (W.todo.length - 1), false⟩ = stepW f W := by unfold stepW popW; rw [hb]
      have htk : List.take (W.todo.length - 1) (W.todo.map intC) = (W.todo.take (W.todo.length - 1)).map intC := by rw [List.map_take]
      (any_goals refine go lv44 0 ?_)
      repeat' (first | (refine Br.go (fun h h' => ?_) (fun h h' => ?_)) | (refine Br.mk (fun h => ?_) (fun h => ?_)))
      all_goals (try simp only [go_sem])
      exact ⟨(stepW f W, 2 + (v + 1)), ⟨q5, walk_step hc iv hg run⟩, q6, Le_keepR [5] rfl rfl ⟨rfl, .inl ⟨rfl, rfl⟩, rfl, .inl ⟨rfl, rfl⟩, rfl, .inl ⟨rfl, rfl⟩, rfl, .inl ⟨rfl, rfl⟩, rfl, .inl ⟨rfl, rfl⟩, trivial⟩⟩
    · have d0 : decide ((0 : Int) < (W.todo.length : Int)) = false := by rw [decide_eq_false_iff_not]; omega
      (any_goals refine go lv44 0 ?_)
      repeat' (first | (refine Br.go (fun h h' => ?_) (fun h h' => ?_)) | (refine Br.mk (fun h => ?_) (fun h => ?_)))
      all_goals (try simp only [go_sem])
      have he := walk_end (f := f) (W := W) (by simp [goesW, h0]) run
      rw [← he, hb]
      exact ⟨rfl, rfl, rfl⟩

end Go.Proofs.YtjbhpoolghfhiaaDoor
