/- A program's texts and constants. No condition: the contract of the program's function. -/
import Derived.Test.YtjbhpoolghfhiaaDoorCd13
namespace Go.Proofs.YtjbhpoolghfhiaaDoor
set_option linter.unusedVariables false
set_option linter.unusedSimpArgs false
set_option maxHeartbeats 10000000
open Go
set_option maxRecDepth 10000



open Classical in
/-- The texts that were seen. -/
noncomputable def seenT (S : List ByteArray) (k : Value) : Option Value := if ∃ s ∈ S, k = .string s then some (.int .i64 1) else none
theorem seenT_no {S : List ByteArray} {s : ByteArray} (h : s ∉ S) : seenT S (.string s) = none := by
  unfold seenT
  rw [if_neg]
  rintro ⟨q, hq, he⟩
  cases he
  exact h hq
theorem seenT_yes {S : List ByteArray} {s : ByteArray} (h : s ∈ S) : seenT S (.string s) = some (.int .i64 1) := by
  unfold seenT
  rw [if_pos ⟨s, h, rfl⟩]
theorem seenT_upd (S : List ByteArray) (s : ByteArray) : updF (seenT S) (.string s) (.int .i64 1) = seenT (s :: S) := by
  funext k
  unfold updF seenT
  by_cases h : k = .string s
  · rw [if_pos h, if_pos ⟨s, List.mem_cons_self .., h⟩]
  · rw [if_neg h]
    by_cases h2 : ∃ q ∈ S, k = .string q
    · obtain ⟨q, hq, he⟩ := h2
      rw [if_pos ⟨q, hq, he⟩, if_pos ⟨q, List.mem_cons_of_mem _ hq, he⟩]
    · rw [if_neg h2, if_neg]
      rintro ⟨q, hq, he⟩
      rcases List.mem_cons.1 hq with rfl | hq
      · exact h he
      · exact h2 ⟨q, hq, he⟩
theorem seenT_nil : seenT [] = fun _ => none := by
  funext k; unfold seenT; rw [if_neg]; simp

theorem seenT_ok {S : List ByteArray} (hS : ∀ s ∈ S, s.size ≤ 200) {s : ByteArray} (hs : s.size ≤ 200) : MapOk Tryd.prog 98 (seenT S) (.string s) := by
  have hk : ∀ s : ByteArray, s.size ≤ 200 → ∃ l, keyOf Tryd.prog 9 (.string s) = some l := fun s hs => ⟨_, WideMaps.keyOf_string_mk Tryd.underlying9 (Nat.le_trans hs (by decide))⟩
  refine ⟨⟨_, _, Tryd.underlying98, WideMaps.string_law Tryd.underlying9, hk s hs, fun k' v' h => ?_⟩⟩
  unfold seenT at h
  split at h
  · rename_i hq
    obtain ⟨q, hq, rfl⟩ := hq
    exact hk q (hS q hq)
  · cases h

theorem seenT_same {S S' : List ByteArray} (h : ∀ s, s ∈ S ↔ s ∈ S') : seenT S = seenT S' := by
  funext k
  unfold seenT
  have : (∃ s ∈ S, k = .string s) ↔ ∃ s ∈ S', k = .string s := ⟨fun ⟨s, h1, h2⟩ => ⟨s, (h s).1 h1, h2⟩, fun ⟨s, h1, h2⟩ => ⟨s, (h s).2 h1, h2⟩⟩
  by_cases hx : ∃ s ∈ S, k = .string s
  · rw [if_pos hx, if_pos (this.1 hx)]
  · rw [if_neg hx, if_neg fun h => hx (this.2 h)]

theorem nodup_take {l : List ByteArray} : ∀ (k : Nat), k ≤ l.length → (∀ j s, j < k → l[j]? = some s → s ∉ l.take j) → (l.take k).Nodup
  | 0, _, _ => by simp
  | k + 1, hk, h => by
    have hx : l[k]? = some (l[k]'(by omega)) := List.getElem?_eq_getElem (by omega)
    have ih := nodup_take k (by omega) fun j s hj hs => h j s (by omega) hs
    rw [List.take_add_one, hx]
    simp only [Option.toList_some]
    refine List.nodup_append.2 ⟨ih, by simp, fun a ha b hb => ?_⟩
    simp at hb; subst hb
    exact fun e => h k _ (by omega) hx (e ▸ ha)
theorem not_nodup {l : List ByteArray} {k : Nat} {s : ByteArray} (hs : l[k]? = some s) (h : s ∈ l.take k) : ¬ l.Nodup := fun hn => by
  obtain ⟨j, hj⟩ := List.mem_iff_getElem?.1 h
  rw [List.getElem?_take] at hj
  split at hj
  · rename_i hjk
    have h1 := (List.getElem?_eq_some_iff.1 hs).1
    have := (List.getElem?_inj h1 hn).1 (hs.trans hj.symm)
    omega
  · cases hj

def tablesF (p : ProgT) : Bool := decide (19 ≤ p.texts.length) && decide (p.texts.take 19 = wordsL) && decide (p.texts.Nodup) && !(p.consts.any (badV p))

theorem tables_c (p : ProgT) (hp : Pok p) : FC Cx 48 [progV p] [] (Bv (tablesF p)) [] := by
  have l2 : (p.consts.map valR).length = p.consts.length := List.length_map ..
  have l3 : (p.texts.map strR).length = p.texts.length := List.length_map ..
  have ht := hp.texts
  have hA : ∀ y, y = [valsV p.consts, .r (.fn 67 [.rp (progR p)])] → CallOk Cx 66 y (Bv (p.consts.any (badV p))) := fun y hy => by
    subst hy
    refine CallOk_of (anyVal_c p.consts _ [.rp (progR p)] (fun y => ∃ v, y = valA v) (fun y => badV p (valV y)) ?_ (fun x _ => ⟨x, rfl⟩) (by have := hp.consts; omega)) en66 rfl rfl
    rintro _ ⟨v, rfl⟩
    exact CallOk_of (tables1_c p v) en67 rfl rfl
  by_cases h19 : p.texts.length < 19
  · have d0 : decide ((p.texts.length : Int) < 19) = true := by rw [decide_eq_true_eq]; omega
    have hF : tablesF p = false := by unfold tablesF; rw [decide_eq_false (by omega)]; rfl
    rw [hF]
    refine FCp_of [ct_words, ct_eqStr'] Tryd.func48 rfl Tryd.ntmps48 (by simp) Tryd.results48 rfl ?_
    apply Rn_st; (intro K0; simp only [go_sem]; exact ⟨id⟩)
    refine goR (L := []) (n := 0) ?_
    (apply Rn_frzB 1; (exact rfl); (exact rfl); (exact rfl); (intro K0; (try simp only [go_sem]); exact ⟨id⟩))
    (any_goals refine go lv48 0 ?_)
    repeat' (first | (refine Br.go (fun h h' => ?_) (fun h h' => ?_)) | (refine Br.mk (fun h => ?_) (fun h => ?_)))
    all_goals (try simp only [go_sem])
  have d0 : decide ((p.texts.length : Int) < 19) = false := by rw [decide_eq_false_iff_not]; omega
  have b19 : (19 : Int) ≤ (p.texts.length : Int) := by omega
  have k1 : List.drop 0 (List.take 19 (p.texts.map strR)) = (p.texts.take 19).map strR := by rw [List.map_take]; rfl
  have l4 : ((p.texts.take 19).map strR).length = 19 := by simp; omega
  have l5 : (p.texts.take 19).length = 19 := by simp; omega
  by_cases hw : p.texts.take 19 = wordsL
  · have d1 : decide (p.texts.take 19 = wordsL) = true := by simpa using hw
    refine FCp_of [ct_words, ct_eqStr', ctE 66 [valsV p.consts, .r (.fn 67 [.rp (progR p)])] (Bv (p.consts.any (badV p))) hA] Tryd.func48 rfl Tryd.ntmps48 (by simp) Tryd.results48 rfl ?_
    apply Rn_st; (intro K0; simp only [go_sem]; exact ⟨id⟩)
    refine goR (L := []) (n := 0) ?_
    (apply Rn_frzB 1; (exact rfl); (exact rfl); (exact rfl); (intro K0; (try simp only [go_sem]); exact ⟨id⟩))
    (any_goals refine go lv48 0 ?_)
    repeat' (first | (refine Br.go (fun h h' => ?_) (fun h h' => ?_)) | (refine Br.mk (fun h => ?_) (fun h => ?_)))
    refine Rn_loopR [1, 4, 26, 27, 28] (fun x : Nat × Nat => x.1 ≤ p.texts.length ∧ ∀ j s, j < x.1 → p.texts[j]? = some s → s ∉ p.texts.take j)
      (fun x => ⟨44, [(1, .r (.rp (progR p))), (4, .os 24 1), (26, strsV p.texts), (27, Iv p.texts.length), (28, Iv x.1)], [(1, 2, .gone), (24, 1, .mp (seenT (p.texts.take x.1)) x.2)]⟩) (fun x => p.texts.length - x.1) (0, 0) rfl rfl ⟨rfl, .inl ⟨rfl, rfl⟩, rfl, .inl ⟨rfl, by simp [seenT_nil]⟩, trivial⟩ ⟨Nat.zero_le _, fun j s hj => by omega⟩ ?_
    rintro ⟨k, n⟩ ⟨hk, hno⟩
    dsimp only at hk hno
    have t1 : Int.toNat (k : Int) = k := by omega
    clear k1 l4 l5 d0 b19
    by_cases hlt : k < p.texts.length
    · have e1 : decide ((k : Int) < (p.texts.length : Int)) = true := by rw [decide_eq_true_eq]; omega
      obtain ⟨s, hs⟩ : ∃ s, p.texts[k]? = some s := ⟨p.texts[k], List.getElem?_eq_getElem hlt⟩
      have hg := getD_map strR hs ([] : List RV)
      have w1 : IntKind.i64.wrap ((k : Int) + 1) = ((k + 1 : Nat) : Int) := by rw [wrap_id] <;> omega
      have hM : MapOk Tryd.prog 98 (seenT (p.texts.take k)) (.string s) := seenT_ok (fun q hq => hp.bytes q (List.mem_of_mem_take hq)) (hp.bytes s (List.mem_of_getElem? hs))
      by_cases hin : s ∈ p.texts.take k
      · have d5 : seenT (p.texts.take k) (.string s) = some (.int .i64 1) := seenT_yes hin
        have hF : tablesF p = false := by unfold tablesF; rw [decide_eq_false (not_nodup hs hin)]; simp
        (any_goals refine go lv48 0 ?_)
        repeat' (first | (refine Br.go (fun h h' => ?_) (fun h h' => ?_)) | (refine Br.mk (fun h => ?_) (fun h => ?_)))
        all_goals (try simp only [go_sem])
        rw [hF]
      · have d5 : seenT (p.texts.take k) (.string s) = none := seenT_no hin
        (any_goals refine go lv48 0 ?_)
        repeat' (first | (refine Br.go (fun h h' => ?_) (fun h h' => ?_)) | (refine Br.mk (fun h => ?_) (fun h => ?_)))
        all_goals (try simp only [go_sem])
        refine ⟨(k + 1, updN (seenT (p.texts.take k)) (.string s) n), ⟨by show k + 1 ≤ _; omega, fun j q hj hq => ?_⟩, by show p.texts.length - (k + 1) < _; omega, Le_keepR [1, 4, 26, 27, 28] rfl rfl ⟨rfl, .inl ⟨rfl, rfl⟩, rfl, .inl ⟨rfl, ?_⟩, trivial⟩⟩
        · rcases Nat.lt_succ_iff_lt_or_eq.1 hj with h3 | h3
          · exact hno j q h3 hq
          · subst h3
            rw [hs] at hq; cases hq; exact hin
        · refine congrArg (fun f => Res.mp f _) ?_
          rw [seenT_upd]
          refine seenT_same fun q => ?_
          rw [List.take_add_one, hs]
          simp [or_comm]
    · have e1 : decide ((k : Int) < (p.texts.length : Int)) = false := by rw [decide_eq_false_iff_not]; omega
      have hnd : p.texts.Nodup := by
        have := nodup_take p.texts.length (Nat.le_refl _) fun j s hj hs => hno j s (by omega) hs
        rwa [List.take_length] at this
      have hF : tablesF p = !(p.consts.any (badV p)) := by unfold tablesF; rw [d1, decide_eq_true hnd, decide_eq_true (by omega)]; simp
      (any_goals refine go lv48 0 ?_)
      repeat' (first | (refine Br.go (fun h h' => ?_) (fun h h' => ?_)) | (refine Br.mk (fun h => ?_) (fun h => ?_)))
      all_goals (try simp only [go_sem])
      rw [hF]
  · have d1 : decide (p.texts.take 19 = wordsL) = false := by simpa using hw
    have hF : tablesF p = false := by unfold tablesF; rw [d1]; simp
    rw [hF]
    refine FCp_of [ct_words, ct_eqStr'] Tryd.func48 rfl Tryd.ntmps48 (by simp) Tryd.results48 rfl ?_
    apply Rn_st; (intro K0; simp only [go_sem]; exact ⟨id⟩)
    refine goR (L := []) (n := 0) ?_
    (apply Rn_frzB 1; (exact rfl); (exact rfl); (exact rfl); (intro K0; (try simp only [go_sem]); exact ⟨id⟩))
    (any_goals refine go lv48 0 ?_)
    repeat' (first | (refine Br.go (fun h h' => ?_) (fun h h' => ?_)) | (refine Br.mk (fun h => ?_) (fun h => ?_)))
    all_goals (try simp only [go_sem])

theorem tables'_c (xs ys zs : List (List RV)) (h : (xs = (fnsOf xs).map fnR ∧ ys = (valsOf ys).map valR ∧ zs = (strsOf zs).map strR) ∧ Pok ⟨fnsOf xs, valsOf ys, strsOf zs⟩) : FC Cx 48 [.agg [.r (.rs 5 xs), .r (.rs 2 ys), .r (.rs 1 zs)]] [] (Bv (tablesF ⟨fnsOf xs, valsOf ys, strsOf zs⟩)) [] := by
  have := tables_c ⟨fnsOf xs, valsOf ys, strsOf zs⟩ h.2
  rwa [prog_at h.1] at this
/-- How calls of this function are met. -/
def sp_tables' (args : List AV) (K : AV → Prop) : Prop := match args with
  | [.agg [.r (.rs 5 xs), .r (.rs 2 ys), .r (.rs 1 zs)]] => ((xs = (fnsOf xs).map fnR ∧ ys = (valsOf ys).map valR ∧ zs = (strsOf zs).map strR) ∧ Pok ⟨fnsOf xs, valsOf ys, strsOf zs⟩) ∧ K (Bv (tablesF ⟨fnsOf xs, valsOf ys, strsOf zs⟩))
  | _ => False
theorem sp_tables'_ok (args : List AV) (K : AV → Prop) (h : sp_tables' args K) : ∃ r, CallOk Cx 48 args r ∧ K r := by
  unfold sp_tables' at h
  split at h
  · exact ⟨_, CallOk_of (tables'_c _ _ _ h.1) en48 rfl rfl, h.2⟩
  · exact h.elim
noncomputable def ct_tables' : Ct Cx := .pure 48 sp_tables' sp_tables'_ok
@[go_sem] theorem ct_tables'_g : ct_tables'.g = 48 := rfl
@[go_sem] theorem ct_tables'_run (c : Call) (fop : Operand) (caps : List RV) (o : Oper) (st : St) (K : List Loc → List (Loc × Cont) → Prop) : ct_tables'.run c fop caps o st K = callT Cx sp_tables' c fop caps o st K := rfl
@[go_sem] theorem sp_tables'_eq (args : List AV) (K : AV → Prop) : sp_tables' args K = (match args with
    | [.agg [.r (.rs 5 xs), .r (.rs 2 ys), .r (.rs 1 zs)]] => ((xs = (fnsOf xs).map fnR ∧ ys = (valsOf ys).map valR ∧ zs = (strsOf zs).map strR) ∧ Pok ⟨fnsOf xs, valsOf ys, strsOf zs⟩) ∧ K (Bv (tablesF ⟨fnsOf xs, valsOf ys, strsOf zs⟩))
    | _ => False) := rfl

end Go.Proofs.YtjbhpoolghfhiaaDoor
