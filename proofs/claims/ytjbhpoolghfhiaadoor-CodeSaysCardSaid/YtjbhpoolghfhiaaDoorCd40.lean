/- The document's TriesKnown. No condition: a contract. -/
import Derived.Test.YtjbhpoolghfhiaaDoorCd39
namespace Go.Proofs.YtjbhpoolghfhiaaDoor
set_option linter.unusedVariables false
set_option linter.unusedSimpArgs false
set_option maxHeartbeats 10000000
open Go
set_option maxRecDepth 10000



/-- One state told otherwise. -/
structure Lx (C : Ctx) (st st' : St) : Prop where
  run : ∀ e a w, S C e st a w → S C e st' a w
theorem Lx.le {C : Ctx} {st st' : St} (h : Le st st') : Lx C st st' := ⟨fun _ _ _ hs => hs.weaken h⟩
theorem Lx.frzL {C : Ctx} {st st' : St} (k : Nat) {ver el sz : Nat} {rows : List (List AV)} {rowsR : List (List RV)} (hk : lookR k st.rs = (ver, .sl el sz rows)) (hc : roLL rows = some rowsR) (h : Lx C (frzSt k ver (.rs sz rowsR) st) st') : Lx C st st' :=
  ⟨fun e a w ⟨ho, g, hs⟩ => h.run e a w (by
    have := roLL_ok hc
    subst this
    exact ⟨ho, g, hs.frz hk (by simp) (Bor_sl hk)⟩)⟩
theorem Rn_cutX {C : Ctx} {T : List (Ct C)} {r : List It} {st st' : St} {K : Exit → St → Prop} {c : Code} (Q : Prop) (hr : hasC r = true) (h : Rn C T [.c c] st (thenK (fun s => Q ∧ Lx C s st') (ck C r K))) (hk : Q → Rn C T r st' K) : Rn C T (.c c :: r) st K := by
  unfold Rn at h
  show Rn C T (.c c :: r) st K
  have hx : lwp C c st (ck C r K) := by
    refine lwp_mono (h : lwp C c st (ck C [] _)) fun x s hx => ?_
    have hx' : thenK (fun s => Q ∧ Lx C s st') (ck C r K) x s := by cases x <;> exact hx
    cases x with
    | normal =>
      have := Rn_up (T := T) hr hx'.2.run (hk hx'.1)
      unfold Rn at this; exact this
    | _ => exact hx'
  unfold Rn
  exact hx
/-- An order that goes on. -/
structure Qo (op : Int) (l : List (Int × Int)) : Prop where
  o28 : ¬ (op = 28 ∨ op = 29)
  o31 : ¬ (op = 31 ∧ l = [])
theorem thenK_ret {C : Ctx} {A : St → Prop} {r : List It} {K : Exit → St → Prop} {st : St} (h : K .ret st) : thenK A (ck C r K) .ret st := ck_ret h

theorem known_c (f : FnT) (h0 : 0 < f.code.length) (hk : Cok f) : FC Cx 27 [fnA f] [] (docR f) [] := by
  have h6 := hk.len
  have l1 : (f.code.map insR).length = f.code.length := List.length_map ..
  have d1 : decide ((f.code.length : Int) = 0) = false := by rw [decide_eq_false_iff_not]; omega
  have b1 : (0 : Int) < (f.code.length : Int) := by omega
  have t1 : Int.toNat (f.code.length : Int) = f.code.length := by omega
  have lr : (List.replicate f.code.length [Bv false, (.r (.v (.slice none 0 0)) : AV)]).length = f.code.length := List.length_replicate
  have g0 : (List.replicate f.code.length [Bv false, (.r (.v (.slice none 0 0)) : AV)]).getD 0 [] = [Bv false, .r (.v (.slice none 0 0))] := by
    simp [List.getD, List.getElem?_replicate, h0]
  have hw : within none0 (docR f) = true := by unfold docR; cases (docW f).bad <;> rfl
  refine FCf_of [ct_same'] Tryd.func27 rfl Tryd.ntmps27 (by simp) Tryd.results27 hw ?_
  apply Rn_st; (intro K0; simp only [go_sem]; exact ⟨id⟩)
  refine goR (L := []) (n := 0) ?_
  (apply Rn_frzB 1; (exact rfl); (exact rfl); (exact rfl); (intro K0; (try simp only [go_sem]); exact ⟨id⟩))
  (any_goals refine go lv27 0 ?_)
  repeat' (first | (refine Br.go (fun h h' => ?_) (fun h h' => ?_)) | (refine Br.mk (fun h => ?_) (fun h => ?_)))
  have hi0 := (come_iv (n := 0) (l := []) (W0_iv f).1 (Int.le_refl 0)).1
  (apply Rn_tellS 19 (knC (comeF f 0 [] (W0 f))); (exact rfl); (exact (by rw [knC_len hi0]; simp)); (exact knC_row _); (exact first_tell h0); (exact rfl); (intro K0; (try simp only [go_sem]); exact ⟨id⟩))
  refine Rn_loopA [1, 4, 5, 6] (fun x : WT × Nat => Wiv f x.1 ∧ x.1.bad = false ∧ To f x.1 0 [] ∧ ∃ k, nuW x.1 ≤ k ∧ docW f = knowF f k x.1) (fun x => let u := x.2; ⟨166, [(1, .r (.rp (fnR f))), (4, Iv f.code.length), (5, .os 19 1), (6, Bv (!decide (x.1.todo = [])))], [(1, 2, .gone), (19, 1, .sl 63 2 (knC x.1)), (8, u, .gone), (50, u, .gone), (52, u, .gone), (61, u, .gone), (63, u, .gone), (70, u, .gone), (73, u, .gone), (76, u, .gone), (78, u, .gone), (84, u, .gone), (85, u, .gone), (90, u, .gone), (93, u, .gone), (101, u, .gone), (107, u, .gone)]⟩) (fun x => nuW x.1) (comeF f 0 [] (W0 f), 0) ⟨hi0, by rw [doc_start h0], come_to (W0_iv f).1 (Int.le_refl 0) (by rw [doc_start h0]), 2 * f.code.length + 2, ?_, rfl⟩ ?_ rfl (by rw [doc_start h0]; rfl)
  · have h1 := (come_iv (n := 0) (l := []) (W0_iv f).1 (Int.le_refl 0)).2
    rw [(W0_iv f).2] at h1
    unfold muW at h1
    unfold nuW
    dsimp only
    split <;> omega
  rintro ⟨W, u⟩ ⟨hi, hb, hT, kk, hkk, hdk⟩
  dsimp only at hi hb hT hkk hdk ⊢
  by_cases ht : W.todo = []
  · have dt : decide (W.todo = []) = true := by simpa using ht
    have hD : docW f = W := by rw [hdk]; exact know_stop (.inr ht) _
    have hR : docR f = .tup [.r (.rs 2 (knR W)), Bv true] := by rw [docR_ok (by rw [hD]; exact hb), hD]
    clear hD hdk
    (any_goals refine go lv27 0 ?_)
    repeat' (first | (refine Br.go (fun h h' => ?_) (fun h h' => ?_)) | (refine Br.mk (fun h => ?_) (fun h => ?_)))
    all_goals (try simp only [go_sem, hR])
  have dt : decide (W.todo = []) = false := by simpa using ht
  obtain ⟨hbad, k', rfl, hdk'⟩ := doc_step hdk hkk ht hb
  (any_goals refine go lv27 0 ?_)
  repeat' (first | (refine Br.go (fun h h' => ?_) (fun h h' => ?_)) | (refine Br.mk (fun h => ?_) (fun h => ?_)))
  refine Rn_loopA [1, 4, 5, 6, 27, 28, 29] (fun x : Nat × Nat => x.1 ≤ f.code.length ∧ (passF f x.1 (freshW W)).bad = false) (fun x => let u := x.2; ⟨166, [(1, .r (.rp (fnR f))), (4, Iv f.code.length), (5, .os 19 1), (6, Bv (!decide ((passF f x.1 (freshW W)).todo = []))), (27, inssV f.code), (28, Iv f.code.length), (29, Iv x.1)], [(1, 2, .gone), (19, 1, .sl 63 2 (knC (passF f x.1 (freshW W)))), (8, u, .gone), (50, u, .gone), (52, u, .gone), (61, u, .gone), (63, u, .gone), (70, u, .gone), (73, u, .gone), (76, u, .gone), (78, u, .gone), (84, u, .gone), (85, u, .gone), (90, u, .gone), (93, u, .gone), (101, u, .gone), (107, u, .gone)]⟩) (fun x => f.code.length - x.1) (0, u) ⟨Nat.zero_le _, hb⟩ ?_
  rintro ⟨k, u⟩ ⟨hkl, hkb⟩
  dsimp only at hkl hkb ⊢
  have hP := pass_iv (f := f) hk k _ (fresh_iv hi)
  by_cases hlt : k < f.code.length
  case neg =>
    have e : k = f.code.length := by omega
    subst e
    have c1 : decide ((f.code.length : Int) < (f.code.length : Int)) = false := by rw [decide_eq_false_iff_not]; omega
    (any_goals refine go lv27 0 ?_)
    repeat' (first | (refine Br.go (fun h h' => ?_) (fun h h' => ?_)) | (refine Br.mk (fun h => ?_) (fun h => ?_)))
    all_goals (try simp only [go_sem])
    refine ⟨(passF f f.code.length (freshW W), u), ⟨hP, hkb, pass_to hk _ _ (fresh_iv hi) (fresh_to.2 hT), k', ?_, hdk'⟩, pass_nu hk hi ht, ?_⟩
    · have := pass_nu hk hi ht; dsimp only; omega
    · dsimp only; exact Le_keepA [1, 4, 5, 6]
  have c1 : decide ((k : Int) < (f.code.length : Int)) = true := by rw [decide_eq_true_eq]; omega
  have t2 : Int.toNat (k : Int) = k := by omega
  have hw1 : IntKind.i64.wrap ((k : Int) + 1) = ((k + 1 : Nat) : Int) := by rw [wrap_id] <;> omega
  have lk : (knC (passF f k (freshW W))).length = f.code.length := knC_len hP
  have hat := knC_at hP hlt
  obtain ⟨i, hx⟩ : ∃ x, f.code[k]? = some x := ⟨f.code[k], List.getElem?_eq_getElem hlt⟩
  have hgx := getD_map insR hx ([] : List RV)
  cases hs : (passF f k (freshW W)).seen.getD k false with
  | false =>
    have hp1 := pass_skip hkb hs
    rw [hs] at hat
    simp only [kC, cond_false] at hat
    (any_goals refine go lv27 0 ?_)
    repeat' (first | (refine Br.go (fun h h' => ?_) (fun h h' => ?_)) | (refine Br.mk (fun h => ?_) (fun h => ?_)))
    all_goals (try simp only [go_sem])
    refine ⟨(k + 1, u + 9), ⟨by dsimp only; omega, by dsimp only; rw [hp1]; exact hkb⟩, by dsimp only; omega, ?_⟩
    dsimp only; rw [hp1]; exact Le_keepA [1, 4, 5, 6, 27, 28, 29]
  | true =>
    have hp1 := pass_next hkb hs
    rw [hs] at hat
    simp only [kC, cond_true] at hat
    have hM := fun h => hbad (pass_bad (m := f.code.length) (j := k + 1) (by omega) h)
    rw [hp1] at hM
    generalize hWk : passF f k (freshW W) = V at *
    generalize hl : V.out.getD k [] = l at *
    have hl20 : l.length ≤ 20 := hP.outs l (by have : k < V.out.length := by rw [hP.out]; exact hlt
                                               rw [← hl]; simp [List.getD, List.getElem?_eq_getElem this])
    obtain ⟨op, a, b, c, line⟩ := i
    (any_goals refine go (dropL 17 lv27) 0 ?_)
    repeat' (first | (refine Br.go (fun h h' => ?_) (fun h h' => ?_)) | (refine Br.mk (fun h => ?_) (fun h => ?_)))
    refine goR1 lv27 0 ?_
    refine Rn_cutX (Qo op l) (st' := ⟨166, [(1, .r (.rp (fnR f))), (4, Iv f.code.length), (5, .os 19 1), (6, Bv (!decide (V.todo = []))), (27, inssV f.code), (28, Iv f.code.length), (29, Iv k), (11, .r (.rs 1 ((tsF op a b k).map intR))), (12, .r (.rs 1 ((lsF op a b l).map trsR)))], [(1, 2, .gone), (19, 1, .sl 63 2 (knC V)), (8, u + 9, .gone), (50, u + 9, .gone), (52, u + 9, .gone), (61, u + 9, .gone), (63, u + 9, .gone), (70, u + 9, .gone), (73, u + 9, .gone), (76, u + 9, .gone), (78, u + 9, .gone), (84, u + 9, .gone), (85, u + 9, .gone), (90, u + 9, .gone), (93, u + 9, .gone), (101, u + 9, .gone), (107, u + 9, .gone)]⟩) rfl ?_ ?_
    · by_cases o28 : op = 28 ∨ op = 29
      · have hF := from_out (W := V) hx o28
        rcases o28 with rfl | rfl
        all_goals
          (any_goals refine go lv27 0 ?_)
          repeat' (first | (refine Br.go (fun h h' => ?_) (fun h h' => ?_)) | (refine Br.mk (fun h => ?_) (fun h => ?_)))
          all_goals (try simp only [go_sem])
          refine ⟨(k + 1, u + 9), ⟨by dsimp only; omega, by dsimp only; rw [hp1, hF]; exact hkb⟩, by dsimp only; omega, ?_⟩
          dsimp only; rw [hp1, hF]; exact Le_keepA [1, 4, 5, 6, 27, 28, 29]
      have d28 : decide (op = 28) = false := by rw [decide_eq_false_iff_not]; omega
      have d29 : decide (op = 29) = false := by rw [decide_eq_false_iff_not]; omega
      by_cases o13 : op = 13 ∨ op = 14
      · rcases o13 with rfl | rfl
        all_goals
          (any_goals refine goF ((1000000, [61, 63]) :: lv27) 0 ?_)
          repeat' (first | (refine Br.go (fun h h' => ?_) (fun h h' => ?_)) | (refine Br.mk (fun h => ?_) (fun h => ?_)))
          all_goals (try simp only [go_sem])
          exact ⟨⟨o28, fun h => by have := h.1; omega⟩, Lx.le (Le_keepA [1, 4, 5, 6, 27, 28, 29, 11, 12])⟩
      have d13 : decide (op = 13) = false := by rw [decide_eq_false_iff_not]; omega
      have d14 : decide (op = 14) = false := by rw [decide_eq_false_iff_not]; omega
      have hw2 : IntKind.i64.wrap ((k : Int) + 1) = (k : Int) + 1 := by rw [wrap_id] <;> omega
      clear hw1
      by_cases o15 : op = 15
      · subst o15
        (any_goals refine goF ((1000000, [70, 73]) :: lv27) 0 ?_)
        repeat' (first | (refine Br.go (fun h h' => ?_) (fun h h' => ?_)) | (refine Br.mk (fun h => ?_) (fun h => ?_)))
        all_goals (try simp only [go_sem])
        exact ⟨⟨o28, fun h => by have := h.1; omega⟩, Lx.le (Le_keepA [1, 4, 5, 6, 27, 28, 29, 11, 12])⟩
      have d15 : decide (op = 15) = false := by rw [decide_eq_false_iff_not]; omega
      by_cases o30 : op = 30
      · subst o30
        have ll' : (l.map tryC).length = l.length := List.length_map ..
        have hm : (l.map tryC) ++ [[Iv a, Iv b]] = (l ++ [(a, b)]).map tryC := by simp
        (any_goals refine go (dropL 28 lv27) 0 ?_)
        repeat' (first | (refine Br.go (fun h h' => ?_) (fun h h' => ?_)) | (refine Br.mk (fun h => ?_) (fun h => ?_)))
        (apply Rn_frzS 76 ((l ++ [(a, b)]).map tryR); (exact rfl); (exact (roTryC _).symm); (exact rfl); (intro K0; (try simp only [go_sem]); exact ⟨id⟩))
        (any_goals refine goF ((1000000, [90, 93]) :: lv27) 0 ?_)
        repeat' (first | (refine Br.go (fun h h' => ?_) (fun h h' => ?_)) | (refine Br.mk (fun h => ?_) (fun h => ?_)))
        all_goals (try simp only [go_sem])
        exact ⟨⟨o28, fun h => by have := h.1; omega⟩, Lx.le (Le_keepA [1, 4, 5, 6, 27, 28, 29, 11, 12])⟩
      have d30 : decide (op = 30) = false := by rw [decide_eq_false_iff_not]; omega
      by_cases o31 : op = 31
      · subst o31
        have ll : (l.map tryR).length = l.length := List.length_map ..
        by_cases hl0 : l = []
        · have e0 : decide ((l.length : Int) = 0) = true := by rw [hl0]; rfl
          have hR := docR_bad (hM (from_end hx rfl (by rw [hl]; exact hl0)))
          (any_goals refine go lv27 0 ?_)
          repeat' (first | (refine Br.go (fun h h' => ?_) (fun h h' => ?_)) | (refine Br.mk (fun h => ?_) (fun h => ?_)))
          refine thenK_ret (thenK_ret ?_)
          all_goals (try simp only [go_sem, hR])
        · have hlp := List.length_pos_iff.2 hl0
          have e0 : decide ((l.length : Int) = 0) = false := by rw [decide_eq_false_iff_not]; omega
          have hw3 : IntKind.i64.wrap ((l.length : Int) - 1) = ((l.length - 1 : Nat) : Int) := by rw [wrap_id] <;> omega
          have t4 : Int.toNat ((l.length - 1 : Nat) : Int) = l.length - 1 := by omega
          have hm : List.take (l.length - 1) (l.map tryR) = (l.take (l.length - 1)).map tryR := List.map_take.symm
          (any_goals refine go lv27 0 ?_)
          repeat' (first | (refine Br.go (fun h h' => ?_) (fun h h' => ?_)) | (refine Br.mk (fun h => ?_) (fun h => ?_)))
          all_goals (try simp only [go_sem])
          refine ⟨⟨o28, fun h => hl0 h.2⟩, ?_⟩
          refine Lx.frzL 101 rfl rfl (Lx.frzL 107 rfl rfl (Lx.le ?_))
          simp only [go_sem]
          exact Le_keepA [1, 4, 5, 6, 27, 28, 29, 11, 12]
      have d31 : decide (op = 31) = false := by rw [decide_eq_false_iff_not]; omega
      have q1 : tsF op a b k = [(k : Int) + 1] := by unfold tsF; rw [if_neg o13, if_neg (by omega)]
      have q2 : lsF op a b l = [l] := by unfold lsF; rw [if_neg o13, if_neg o15, if_neg o30, if_neg o31]
      rw [q1, q2]
      (any_goals refine goF ((1000000, [50, 52]) :: lv27) 0 ?_)
      repeat' (first | (refine Br.go (fun h h' => ?_) (fun h h' => ?_)) | (refine Br.mk (fun h => ?_) (fun h => ?_)))
      all_goals (try simp only [go_sem])
      exact ⟨⟨o28, fun h => by have := h.1; omega⟩, Lx.le (Le_keepA [1, 4, 5, 6, 27, 28, 29, 11, 12])⟩
    · rintro ⟨o28, o31⟩
      obtain ⟨hln, hl2⟩ := ts_len op a b k l
      have hts := ts_lo hk hx
      have hls := ls_le (op := op) (a := a) (b := b) hl20
      have hF := from_comes (W := V) hx o28 (by rw [hl]; exact o31)
      rw [hl] at hF
      dsimp only at hts hF
      generalize tsF op a b k = ts at *
      generalize lsF op a b l = ls at *
      have l2 : (ts.map intR).length = ts.length := List.length_map ..
      have l3 : (ls.map trsR).length = ls.length := List.length_map ..
      clear o28 o31 hat
      (any_goals refine go lv27 0 ?_)
      repeat' (first | (refine Br.go (fun h h' => ?_) (fun h h' => ?_)) | (refine Br.mk (fun h => ?_) (fun h => ?_)))
      refine Rn_loopA [1, 4, 5, 6, 27, 28, 29, 12, 108, 109, 110] (fun j : Nat => j ≤ ts.length ∧ (comesF f ts ls j V).bad = false) (fun j => ⟨166, [(1, .r (.rp (fnR f))), (4, Iv f.code.length), (5, .os 19 1), (6, Bv (!decide ((comesF f ts ls j V).todo = []))), (27, inssV f.code), (28, Iv f.code.length), (29, Iv k), (12, .r (.rs 1 (ls.map trsR))), (108, .r (.rs 1 (ts.map intR))), (109, Iv ts.length), (110, Iv j)], [(1, 2, .gone), (19, 1, .sl 63 2 (knC (comesF f ts ls j V))), (8, u + 9, .gone), (50, u + 9, .gone), (52, u + 9, .gone), (61, u + 9, .gone), (63, u + 9, .gone), (70, u + 9, .gone), (73, u + 9, .gone), (76, u + 9, .gone), (78, u + 9, .gone), (84, u + 9, .gone), (85, u + 9, .gone), (90, u + 9, .gone), (93, u + 9, .gone), (101, u + 9, .gone), (107, u + 9, .gone)]⟩) (fun j => ts.length - j) 0 ⟨Nat.zero_le _, hkb⟩ ?_
      rintro j ⟨hj, hjb⟩
      by_cases hjl : j < ts.length
      case neg =>
        have e : j = ts.length := by omega
        subst e
        have c2 : decide ((ts.length : Int) < (ts.length : Int)) = false := by rw [decide_eq_false_iff_not]; omega
        rw [← hF, ← hp1] at hjb
        (any_goals refine go lv27 0 ?_)
        repeat' (first | (refine Br.go (fun h h' => ?_) (fun h h' => ?_)) | (refine Br.mk (fun h => ?_) (fun h => ?_)))
        all_goals (try simp only [go_sem])
        rw [← hF, ← hp1]
        exact ⟨(k + 1, u + 9), ⟨by dsimp only; omega, hjb⟩, by dsimp only; omega, Le_keepA [1, 4, 5, 6, 27, 28, 29]⟩
      have c2 : decide ((j : Int) < (ts.length : Int)) = true := by rw [decide_eq_true_eq]; omega
      have t3 : Int.toNat (j : Int) = j := by omega
      have hw2 : IntKind.i64.wrap ((j : Int) + 1) = ((j + 1 : Nat) : Int) := by rw [wrap_id] <;> omega
      obtain ⟨t, ht'⟩ : ∃ t, ts[j]? = some t := ⟨ts[j], List.getElem?_eq_getElem hjl⟩
      obtain ⟨x, hx'⟩ : ∃ x, ls[j]? = some x := ⟨ls[j]'(by omega), List.getElem?_eq_getElem (by omega)⟩
      have ht0 := hts t (List.mem_of_getElem? ht')
      have hx21 := hls x (List.mem_of_getElem? hx')
      obtain ⟨m, rfl⟩ : ∃ m : Nat, t = m := ⟨t.toNat, by omega⟩
      have gt := getD_map intR ht' ([] : List RV)
      have gx := getD_map trsR hx' ([] : List RV)
      have hU : Wiv f (comesF f ts ls j V) := comes_iv hP hts
      have hN : comesF f ts ls (j + 1) V = comeF f m x (comesF f ts ls j V) := by
        show comeF f (ts.getD j 0) (ls.getD j []) _ = _
        simp [List.getD, ht', hx']
      have hB : (comeF f m x (comesF f ts ls j V)).bad = true → docR f = .tup [.r (.v (.slice none 0 0)), Bv false] := fun h => by
        refine docR_bad (hM ?_)
        rw [hF]
        exact comes_bad (j := j + 1) (by omega) (by rw [hN]; exact h)
      have lU : (knC (comesF f ts ls j V)).length = f.code.length := knC_len hU
      have t4 : Int.toNat (m : Int) = m := by omega
      have lx : (x.map tryR).length = x.length := List.length_map ..
      have rowU := fun h => knC_at (n := m) hU h
      have outU := hU.outs
      have lenU := hU.out
      have sameU := fun h1 h2 => knC_same (n := m) hU h1 h2 (l := x)
      have setU := fun (t' : List Int) (q' : Bool) => knC_set (comesF f ts ls j V) m true x (comesF f ts ls j V).todo t' (comesF f ts ls j V).bad q'
      generalize comesF f ts ls j V = U at *
      clear hbad hM hF hp1 hP hts hls hdk hdk' hT hi0 hx hgx lk hs hlt hkb hWk hl hi hb
      by_cases k1 : f.code.length ≤ m
      · have e1 : decide ((f.code.length : Int) ≤ (m : Int)) = true := by rw [decide_eq_true_eq]; omega
        have hR := hB (by unfold comeF; rw [if_pos (by left; omega)])
        (any_goals refine go lv27 0 ?_)
        repeat' (first | (refine Br.go (fun h h' => ?_) (fun h h' => ?_)) | (refine Br.mk (fun h => ?_) (fun h => ?_)))
        refine thenK_ret (thenK_ret ?_)
        all_goals (try simp only [go_sem, hR])
      have e1 : decide ((f.code.length : Int) ≤ (m : Int)) = false := by rw [decide_eq_false_iff_not]; omega
      have mlt : (m : Int) < (f.code.length : Int) := by omega
      by_cases k2 : 20 < x.length
      · have e2 : decide ((20 : Int) < (x.length : Int)) = true := by rw [decide_eq_true_eq]; omega
        have hR := hB (by unfold comeF; rw [if_pos (by right; exact k2)])
        (any_goals refine go lv27 0 ?_)
        repeat' (first | (refine Br.go (fun h h' => ?_) (fun h h' => ?_)) | (refine Br.mk (fun h => ?_) (fun h => ?_)))
        refine thenK_ret (thenK_ret ?_)
        all_goals (try simp only [go_sem, hR])
      have e2 : decide ((20 : Int) < (x.length : Int)) = false := by rw [decide_eq_false_iff_not]; omega
      have rU := rowU (by omega)
      have oU : (U.out.getD m []).length ≤ 20 := outU _ (by
        have : m < U.out.length := by omega
        simp [List.getD, List.getElem?_eq_getElem this])
      generalize ho : U.out.getD m [] = o at *
      have lo : (o.map tryR).length = o.length := List.length_map ..
      cases hsm : U.seen.getD m false with
      | false =>
        rw [hsm] at rU
        simp only [kC, cond_false] at rU
        have hC : comeF f m x U = ⟨U.seen.set m true, U.out.set m x, U.todo ++ [(m : Int)], U.bad⟩ := by
          unfold comeF; rw [if_neg (by omega), t4, if_pos hsm]
        have hK : (knC U).set m [Bv true, triesV x] = knC (comeF f m x U) := by rw [hC]; exact setU _ _
        have e5 : decide (U.todo ++ [(m : Int)] = []) = false := by simp
        (any_goals refine go lv27 0 ?_)
        repeat' (first | (refine Br.go (fun h h' => ?_) (fun h h' => ?_)) | (refine Br.mk (fun h => ?_) (fun h => ?_)))
        all_goals (try simp only [go_sem])
        all_goals
          refine ⟨j + 1, ⟨by omega, by rw [hN, hC]; exact hjb⟩, by omega, ?_⟩
          rw [hN, hC, hjb, e5]
          exact Le_keepA [1, 4, 5, 6, 27, 28, 29, 12, 108, 109, 110]
      | true =>
        rw [hsm] at rU
        simp only [kC, cond_true] at rU
        by_cases hox : o = x
        · subst hox
          have hC : comeF f m o U = U := by unfold comeF; rw [if_neg (by omega), t4, if_neg (by rw [hsm]; simp), if_pos ho]
          have hK : (knC U).set m [Bv true, triesV o] = knC U := sameU (by omega) hsm rfl
          (any_goals refine go lv27 0 ?_)
          repeat' (first | (refine Br.go (fun h h' => ?_) (fun h h' => ?_)) | (refine Br.mk (fun h => ?_) (fun h => ?_)))
          all_goals (try simp only [go_sem])
          all_goals
            refine ⟨j + 1, ⟨by omega, by rw [hN, hC]; exact hjb⟩, by omega, ?_⟩
            rw [hN, hC, h]
            exact Le_keepA [1, 4, 5, 6, 27, 28, 29, 12, 108, 109, 110]
        · have e7 : decide (o = x) = false := by simpa using hox
          have hR := hB (by unfold comeF; rw [if_neg (by omega), t4, if_neg (by rw [hsm]; simp), if_neg (by rw [ho]; exact hox)])
          (any_goals refine go lv27 0 ?_)
          repeat' (first | (refine Br.go (fun h h' => ?_) (fun h h' => ?_)) | (refine Br.mk (fun h => ?_) (fun h => ?_)))
          refine thenK_ret (thenK_ret ?_)
          all_goals (try simp only [go_sem, hR])
end Go.Proofs.YtjbhpoolghfhiaaDoor
