/- The document's names of shapes. No condition: contracts. -/
import Derived.Test.YtbhnmolmkembdaaGreatDoorV6
import Derived.Test.YtbhnmolmkembdaaGreatDoorV5
namespace Go.Proofs.YtbhnmolmkembdaaGreatDoor.Sh
set_option linter.unusedVariables false
set_option linter.unusedSimpArgs false
set_option maxHeartbeats 10000000
open Go
set_option maxRecDepth 10000
theorem Ups_le {l : List (Int × Int)} {s t : Int} (h : Ups l s) (ht : t ≤ s) : Ups l t := fun k p hp h0 hk => h k p hp h0 (by omega)
theorem namesR_fuelB (l : List (Int × Int)) : ∀ (n m : Nat) (s : Int), Ups l s → s.toNat ≤ n → s.toNat ≤ m → namesR l n s = namesR l m s
 | 0, m, s, _, h1, _ => by
  have h0 : ¬ 0 < s := by omega
  cases m with
  | zero => rfl
  | succ m => unfold namesR; rw [if_neg h0]
 | n + 1, 0, s, _, h1, h2 => by
  have h0 : ¬ 0 < s := by omega
  unfold namesR; rw [if_neg h0]
 | n + 1, m + 1, s, hu, h1, h2 => by
  unfold namesR
  by_cases h0 : 0 < s
  ·rw [if_pos h0, if_pos h0]
   cases hp : l[s.toNat]? with
   | none => rfl
   | some p =>
    have := hu _ p hp (by omega) (by omega)
    exact congrArg (p.2 :: ·) (namesR_fuelB l n m p.1 (Ups_le hu (by omega)) (by omega) (by omega))
  ·rw [if_neg h0, if_neg h0]
theorem namesL_upB {l : List (Int × Int)} {k : Nat} {p : Int × Int} (hp : l[k + 1]? = some p) (hu : Ups l ((k + 1 : Nat) : Int)) : namesL l ((k + 1 : Nat) : Int) = namesL l p.1 ++ [p.2] := by
 have hk := (List.getElem?_eq_some_iff.1 hp).1
 have hup := hu (k + 1) _ hp (by omega) (Int.le_refl _)
 unfold namesL
 obtain ⟨n, hn⟩ : ∃ n, l.length = n + 1 := ⟨l.length - 1, by omega⟩
 have e1 : namesR l l.length ((k + 1 : Nat) : Int) = p.2 :: namesR l n p.1 := by
  rw [hn]
  show (if 0 < ((k + 1 : Nat) : Int) then (match l[((k + 1 : Nat) : Int).toNat]? with | some p => p.2 :: namesR l n p.1 | none => []) else []) = _
  rw [if_pos (by omega), show (((k + 1 : Nat) : Int)).toNat = k + 1 by omega, hp]
 rw [e1, List.reverse_cons, namesR_fuelB l n l.length p.1 (Ups_le hu (by omega)) (by omega) (by omega)]
theorem refN_c (l : List (Int × Int)) (hl : l.length ≤ 1000) : ∀ n : Nat, Ups l n → ∀ z : Int, z.toNat ≤ n → z < l.length → FC Cx 178 [shapesV l, Iv z] [] (.os 0 1) [(0, 1, .sl 3 1 ((namesL l z).map intA))]
 | 0, hu, z, h1, h2 => by
  rw [namesL_rootB l z (by omega)]
  exact refN_0 l z (by rw [decide_eq_true_eq]; omega)
 | n + 1, hu, z, h1, h2 => by
  by_cases h0 : z ≤ 0
  ·rw [namesL_rootB l z h0]
   exact refN_0 l z (by rw [decide_eq_true_eq]; omega)
  ·obtain ⟨k, rfl⟩ : ∃ k : Nat, z = ((k + 1 : Nat) : Int) := ⟨z.toNat - 1, by omega⟩
   have hp : l[k + 1]? = some (l[k + 1]'(by omega)) := List.getElem?_eq_getElem (by omega)
   generalize l[k + 1]'(by omega) = p at hp
   have huk : Ups l ((k + 1 : Nat) : Int) := Ups_le hu (by omega)
   have hup := huk (k + 1) p hp (by omega) (Int.le_refl _)
   rw [namesL_upB hp huk]
   have ih := refN_c l hl n (Ups_le hu (by omega))
   refine refN_1 l n k p hp hl (by omega) (by omega)
    (.res 178 (sp_refN l n) en178 fun st d args K h => ?_) rfl (fun _ _ _ _ _ _ => rfl) (namesL_len l p.1) (by rw [decide_eq_false_iff_not]; omega) (fun l => List.length_map ..) (List.length_map ..) (fun l n => by rw [List.map_append]; rfl) (by omega) (getD_map shapeR hp []) (by omega)
   unfold sp_refN at h
   split at h
   ·rename_i xs z
    obtain ⟨⟨rfl, h3, h4⟩, h5⟩ := h
    exact ⟨_, _, _, CallR.own (ih z h3 h4) rfl (flatI _) rfl d, h5⟩
   ·exact h.elim
theorem refNames_c (xs : List (List RV)) (z : Int) (h : xs = (shapesOf xs).map shapeR ∧ xs.length ≤ 1000 ∧ Ups (shapesOf xs) z ∧ z < xs.length) : FC Cx 178 [.r (.rs 2 xs), Iv z] [] (intsV (namesL (shapesOf xs) z)) [] := by
 have hl : (shapesOf xs).length = xs.length := by simp [shapesOf]
 have h1 : FC Cx 178 [shapesV (shapesOf xs), Iv z] [] (.os 0 1) [(0, 1, .sl 3 1 ((namesL (shapesOf xs) z).map intA))] := by
  by_cases h0 : z ≤ 0
  ·rw [namesL_rootB _ z h0]; exact refN_0 _ z (by rw [decide_eq_true_eq]; omega)
  ·exact refN_c _ (by omega) z.toNat (Ups_le h.2.2.1 (by omega)) z (Nat.le_refl _) (by omega)
 rw [shapes_at h.1] at h1
 exact h1.freeze1 (roI _).symm
def sp_refNames (args : List AV) (K : AV → Prop) : Prop := match args with
 | [.r (.rs 2 xs), .r (.v (.int .i64 z))] => (xs = (shapesOf xs).map shapeR ∧ xs.length ≤ 1000 ∧ Ups (shapesOf xs) z ∧ z < xs.length) ∧ K (intsV (namesL (shapesOf xs) z))
 | _ => False
noncomputable abbrev ct_refNames : Ct Cx := .pure 178 sp_refNames fun args K h => by
 unfold sp_refNames at h; split at h; exact ⟨_, CallOk_of (refNames_c _ _ h.1) en178 rfl rfl, h.2⟩; exact h.elim
@[go_sem] theorem sp_refNames_eq : type_of% @sp_refNames.eq_def := @sp_refNames.eq_def
end Go.Proofs.YtbhnmolmkembdaaGreatDoor.Sh
namespace Go.Proofs.YtbhnmolmkembdaaGreatDoor.Sh
set_option linter.unusedVariables false
set_option linter.unusedSimpArgs false
set_option maxHeartbeats 10000000
open Go
set_option maxRecDepth 10000
section
variable {C : Ctx} {T : List (Ct C)} {r : List It} {st : St} {K : Exit → St → Prop} {A : St → Prop}
theorem ret_ck (h : K .ret st) : thenK A (ck C r K) .ret st := ck_ret h
end
theorem fault_large (l : List (Int × Int)) (hlen : (l.map shapeR).length = l.length) (d0 : decide ((100 : Int) < (l.length : Int)) = true) : FC Cx 137 [shapesV l] [] (Iv 2) [] := by
 refine FCp_st [ct_between, ct_hasI, ct_refNames] Tryz.func137 Tryz.ntmps137 Tryz.results137 ?_
 (any_goals refine go lv137 0 ?_)
 all_goals (try simp only [go_sem])
theorem fault_some (l : List (Int × Int)) (hw : Wf l) (h100 : ¬ 100 < l.length) (hlen : (l.map shapeR).length = l.length) (d0 : decide ((100 : Int) < (l.length : Int)) = false) : FC Cx 137 [shapesV l] [] (Iv (checkF l)) [] := by
 have hlenI : ∀ l : List Int, (l.map intR).length = l.length := fun l => List.length_map ..
 refine FCp_st [ct_between, ct_hasI, ct_refNames] Tryz.func137 Tryz.ntmps137 Tryz.results137 ?_
 (any_goals refine go lv137 0 ?_)
 refine Rn_loopR [0, 10, 11, 12] (fun x : Nat × Nat => x.1 ≤ l.length ∧ (0 < x.1 → l[0]? = some (-1, -1)) ∧ ∀ j p, j + 1 < x.1 → l[j + 1]? = some p → okAt l j p)
  (fun x => ⟨63, [(0, shapesV l), (10, shapesV l), (11, Iv l.length), (12, Iv x.1)], [(4, x.1, .gone), (6, x.2, .gone)]⟩) (fun x => l.length - x.1) (0, 0) rfl rfl ⟨rfl, rfl, rfl, rfl, trivial⟩ ⟨Nat.zero_le _, ⟨fun h => absurd h (Nat.lt_irrefl 0), fun j p hj => absurd hj (Nat.not_lt_zero _)⟩⟩ ?_
 rintro ⟨i, v6⟩ ⟨hi, hroot, hok⟩
 dsimp only at hi hroot hok
 have t1 : Int.toNat (i : Int) = i := by omega
 by_cases hlt : i < l.length
 ·have e1 : decide ((i : Int) < (l.length : Int)) = true := by rw [decide_eq_true_eq]; omega
  obtain ⟨p, hp⟩ : ∃ p, l[i]? = some p := ⟨l[i], List.getElem?_eq_getElem hlt⟩
  have hg1 := getD_map shapeR hp ([] : List RV)
  have w1 : IntKind.i64.wrap ((i : Int) + 1) = ((i + 1 : Nat) : Int) := by rw [wrap_id] <;> omega
  by_cases hz : i ≤ 0
  ·have e2 : decide ((i : Int) = 0) = true := by rw [decide_eq_true_eq]; omega
   have bad : l[0]? ≠ some (-1, -1) → checkF l = 3 := fun hb => by rw [checkF, if_neg h100, if_neg fun h => hb h.1]
   by_cases c1 : p.1 = -1
   ·have d1 : decide (p.1 = -1) = true := by simpa using c1
    by_cases c2 : p.2 = -1
    ·have d2 : decide (p.2 = -1) = true := by simpa using c2
     (any_goals refine go lv137 0 ?_)
     all_goals (try simp only [go_sem])
     refine ⟨(i + 1, v6), ⟨by show i + 1 ≤ _; omega, fun _ => ?_, fun j q hj => ?_⟩, by show l.length - (i + 1) < _; omega, Le_keepR [0, 10, 11, 12] rfl rfl ⟨rfl, .inr ⟨rfl, Nat.le_refl _⟩, rfl, .inl ⟨rfl, rfl⟩, trivial⟩⟩
     ·rw [show i = 0 by omega] at hp; rw [hp]; exact congrArg some (Prod.ext c1 c2)
     ·exact absurd hj (by show ¬ j + 1 < i + 1; omega)
    ·have d2 : decide (p.2 = -1) = false := by simpa using c2
     have hF := bad (by rw [show i = 0 by omega] at hp; rw [hp]; intro h; have := Option.some.inj h; subst this; exact c2 rfl)
     (any_goals refine go lv137 0 ?_)
     all_goals (try simp only [go_sem])
     rw [hF]
   ·have d1 : decide (p.1 = -1) = false := by simpa using c1
    have hF := bad (by rw [show i = 0 by omega] at hp; rw [hp]; intro h; have := Option.some.inj h; subst this; exact c1 rfl)
    (any_goals refine go lv137 0 ?_)
    all_goals (try simp only [go_sem])
    rw [hF]
  ·have e2 : decide ((i : Int) = 0) = false := by rw [decide_eq_false_iff_not]; omega
   obtain ⟨k, hk⟩ : ∃ k, i = k + 1 := ⟨i - 1, by omega⟩
   have w2 : IntKind.i64.wrap ((i : Int) - 1) = (k : Int) := by rw [wrap_id] <;> omega
   have hp1 : l[k + 1]? = some p := hk ▸ hp
   have hwp : WfS p := hw p (List.mem_of_getElem? hp)
   have bad : ¬ okAt l k p → checkF l = 3 := fun hb => by rw [checkF, if_neg h100, if_neg]; exact fun hg => hb (hg.2 k p hp1)
   have hkl : k < l.length := by omega
   have hki : (k : Int) + 1 = i := by omega
   clear hk hp1
   by_cases c1 : p.1 < 0
   ·have d2 : decide (0 ≤ p.1) = false := by simpa using c1
    have hF := bad fun h => by have := h.1; omega
    (any_goals refine go lv137 0 ?_)
    all_goals (try simp only [go_sem])
    rw [hF]
   have d2 : decide (0 ≤ p.1) = true := by simpa using c1
   by_cases c2 : (k : Int) < p.1
   ·have d3 : decide (p.1 ≤ (k : Int)) = false := by rw [decide_eq_false_iff_not]; omega
    have hF := bad fun h => by have := h.2.1; omega
    (any_goals refine go lv137 0 ?_)
    all_goals (try simp only [go_sem])
    rw [hF]
   have d3 : decide (p.1 ≤ (k : Int)) = true := by rw [decide_eq_true_eq]; omega
   by_cases c3 : p.2 < 0
   ·have d4 : decide (p.2 < 0) = true := by simpa using c3
    have hF := bad fun h => by have := h.2.2.1; omega
    (any_goals refine go lv137 0 ?_)
    all_goals (try simp only [go_sem])
    rw [hF]
   have d4 : decide (p.2 < 0) = false := by simpa using c3
   have hU : Ups l p.1 := fun j q hq h0 hj => by
    obtain ⟨j', rfl⟩ : ∃ j', j = j' + 1 := ⟨j - 1, by omega⟩
    have := (hok j' q (by omega) hq).2.1
    omega
   have hn := namesL_len l p.1
   by_cases c5 : p.2 ∈ namesL l p.1
   ·have d5 : decide (p.2 ∈ namesL l p.1) = true := by simpa using c5
    have hF := bad fun h => h.2.2.2.2 c5
    (any_goals refine go lv137 0 ?_)
    all_goals (try simp only [go_sem])
    rw [hF]
   have d5 : decide (p.2 ∈ namesL l p.1) = false := by simpa using c5
   have t2 : List.take i (l.map shapeR) = (l.take i).map shapeR := List.map_take.symm
   have t3 : ((l.take i).map shapeR).length = i := by rw [List.length_map, List.length_take]; omega
   (any_goals refine go lv137 0 ?_)
   refine Rn_loopR [0, 4, 10, 11, 12, 49, 50, 51] (fun j : Nat => j ≤ i ∧ ∀ j', j' < j → l[j']? ≠ some p)
    (fun j => ⟨63, [(0, shapesV l), (10, shapesV l), (11, Iv l.length), (12, Iv i), (4, .os 4 (i + 1)), (49, .r (.rs 2 ((l.take i).map shapeR))), (50, Iv i), (51, Iv j)], [(4, i + 1, .bx [Iv p.1, Iv p.2]), (6, v6 + j, .gone)]⟩) (fun j => i - j) 0 rfl rfl ⟨rfl, .inl ⟨rfl, rfl⟩, rfl, .inl ⟨rfl, rfl⟩, trivial⟩ ⟨Nat.zero_le _, fun j hj => absurd hj (Nat.not_lt_zero _)⟩ ?_
   rintro j ⟨hj, hjno⟩
   have t4 : Int.toNat (j : Int) = j := by omega
   clear t2
   by_cases hlt2 : j < i
   ·obtain ⟨q, hq⟩ : ∃ q, l[j]? = some q := ⟨l[j], List.getElem?_eq_getElem (by omega)⟩
    have hg2 := getD_map shapeR (show (l.take i)[j]? = some q by rw [List.getElem?_take, if_pos hlt2]; exact hq) ([] : List RV)
    have w3 : IntKind.i64.wrap ((j : Int) + 1) = ((j + 1 : Nat) : Int) := by rw [wrap_id] <;> omega
    have d6 : decide ((j : Int) < (i : Int)) = true := by rw [decide_eq_true_eq]; omega
    by_cases hqp : q = p
    ·subst hqp
     have hF := bad fun h => h.2.2.2.1 (by
      cases j with
      | zero =>
       rw [hroot (by omega)] at hq
       have := Option.some.inj hq
       subst this
       exact absurd c1 (by simp)
      | succ j => exact List.mem_of_getElem? (i := j) (by rw [List.getElem?_take, if_pos (by omega), List.getElem?_drop, Nat.add_comm]; exact hq))
     (any_goals refine go lv137 0 ?_)
     all_goals (try simp only [go_sem])
     all_goals (first | exact ret_ck (by rw [hF]; rfl) | rw [hF])
    ·have d7 : (decide (q.1 = p.1) && decide (q.2 = p.2)) = false := by
      rw [← Bool.not_eq_true, Bool.and_eq_true, decide_eq_true_eq, decide_eq_true_eq]
      exact fun h => hqp (Prod.ext h.1 h.2)
     (any_goals refine go lv137 0 ?_)
     refine ⟨j + 1, ⟨by omega, fun j' hj' => ?_⟩, by omega, Le_keepR [0, 4, 10, 11, 12, 49, 50, 51] rfl rfl ⟨rfl, .inl ⟨rfl, rfl⟩, rfl, .inr ⟨rfl, Nat.le_refl _⟩, trivial⟩⟩
     rcases Nat.lt_succ_iff_lt_or_eq.1 hj' with h3 | h3
     ·exact hjno j' h3
     ·rw [h3, hq]; exact fun h4 => hqp (Option.some.inj h4)
   ·have d6 : decide ((j : Int) < (i : Int)) = false := by rw [decide_eq_false_iff_not]; omega
    (any_goals refine go lv137 0 ?_)
    all_goals (try simp only [go_sem])
    refine ⟨(i + 1, v6 + j), ⟨by show i + 1 ≤ _; omega, fun _ => hroot (by omega), fun a q ha hq => ?_⟩, by show l.length - (i + 1) < _; omega, Le_keepR [0, 10, 11, 12] rfl rfl ⟨rfl, .inr ⟨rfl, Nat.le_refl _⟩, rfl, .inl ⟨rfl, rfl⟩, trivial⟩⟩
    have ha' : a + 1 < i + 1 := ha
    by_cases hak : a + 1 < i
    ·exact hok a q hak hq
    ·obtain rfl : a = k := by omega
     have hqp : q = p := by
      have : l[i]? = some q := by rw [show i = a + 1 by omega]; exact hq
      rw [hp] at this; exact (Option.some.inj this).symm
     subst hqp
     refine ⟨by omega, by omega, by omega, fun hm => ?_, c5⟩
     obtain ⟨b, hb⟩ := List.getElem?_of_mem hm
     rw [List.getElem?_take] at hb
     split at hb
     ·rw [List.getElem?_drop] at hb
      exact hjno (1 + b) (by omega) hb
     ·cases hb
 ·have e1 : decide ((i : Int) < (l.length : Int)) = false := by rw [decide_eq_false_iff_not]; omega
  by_cases h0 : l.length ≤ 0
  ·have d1 : decide ((l.length : Int) = 0) = true := by rw [decide_eq_true_eq]; omega
   have hF : checkF l = 3 := by rw [checkF, if_neg h100, if_neg fun h => by have := (List.getElem?_eq_some_iff.1 h.1).1; omega]
   (any_goals refine go lv137 0 ?_)
   all_goals (try simp only [go_sem])
   rw [hF]
  ·have d1 : decide ((l.length : Int) = 0) = false := by rw [decide_eq_false_iff_not]; omega
   have hF : checkF l = 0 := by
    rw [checkF, if_neg h100, if_pos ⟨hroot (by omega), fun j q hq => hok j q (by have := (List.getElem?_eq_some_iff.1 hq).1; omega) hq⟩]
   (any_goals refine go lv137 0 ?_)
   all_goals (try simp only [go_sem])
   rw [hF]
end Go.Proofs.YtbhnmolmkembdaaGreatDoor.Sh
namespace Go.Proofs.YtbhnmolmkembdaaGreatDoor.Sh
set_option linter.unusedVariables false
set_option linter.unusedSimpArgs false
set_option maxHeartbeats 10000000
open Go
set_option maxRecDepth 10000
theorem fault_c (xs : List (List RV)) (h : xs = (shapesOf xs).map shapeR ∧ Wf (shapesOf xs)) : FC Cx 137 [.r (.rs 2 xs)] [] (Iv (checkF (shapesOf xs))) [] := by
 have h1 : FC Cx 137 [shapesV (shapesOf xs)] [] (Iv (checkF (shapesOf xs))) [] := by
  by_cases h100 : 100 < (shapesOf xs).length
  ·have e : checkF (shapesOf xs) = 2 := by rw [checkF, if_pos h100]
   rw [e]
   exact fault_large _ (List.length_map ..) (by rw [decide_eq_true_eq]; omega)
  ·exact fault_some _ h.2 h100 (List.length_map ..) (by rw [decide_eq_false_iff_not]; omega)
 rwa [shapes_at h.1] at h1
def sp_fault (args : List AV) (K : AV → Prop) : Prop := match args with
 | [.r (.rs 2 xs)] => (xs = (shapesOf xs).map shapeR ∧ Wf (shapesOf xs)) ∧ K (Iv (checkF (shapesOf xs)))
 | _ => False
noncomputable abbrev ct_fault : Ct Cx := .pure 137 sp_fault fun args K h => by
 unfold sp_fault at h; split at h; exact ⟨_, CallOk_of (fault_c _ h.1) en137 rfl rfl, h.2⟩; exact h.elim
@[go_sem] theorem sp_fault_eq : type_of% @sp_fault.eq_def := @sp_fault.eq_def
end Go.Proofs.YtbhnmolmkembdaaGreatDoor.Sh
namespace Go.Proofs.YtbhnmolmkembdaaGreatDoor
set_option linter.unusedVariables false
set_option linter.unusedSimpArgs false
set_option maxHeartbeats 10000000
open Go
set_option maxRecDepth 10000
theorem isF'_ref {s : StateT} {v : Int × Int} (q : Int) (h : fitsF s v = true) : isF' s v q = refF s v q := by
 obtain ⟨k, n⟩ := v
 unfold isF' refF
 rw [h, Bool.true_and]
 by_cases h5 : k = 5
 ·subst h5
  obtain ⟨n0, n1, _⟩ := fits_ref h
  rw [decide_eq_true n0, decide_eq_true n1]; simp
 ·have d5 : decide (k = 5) = false := by simpa using h5
  simp [d5]
def RegsC (c : CellT) : Prop := ∀ f ∈ c.frames, f.regs.length ≤ 8796093021952
theorem cellRight_c (s : StateT) (c : CellT) (hs : Swf s) (hc : Cwf c) (hk : Sh.checkF s.shapes = 0) (hrg : RegsC c) : FC Cx 138 [stateV s, cellA c] [] (Bv (cellF s c)) [] := by
 have l1 : (c.vals.map valR).length = c.vals.length := List.length_map ..
 have l2 : (c.frames.map frameR).length = c.frames.length := List.length_map ..
 have l3 : (s.shapes.map valR).length = s.shapes.length := List.length_map ..
 have hcl := hs.len.cells
 have hsl := hs.len.shapes
 have hcv := hc.vals
 have hcf := hc.frames
 have hfr := hc.frame
 have hwi := hc.val
 obtain ⟨hup, h100, _, _⟩ := Sh.good_ups hk c.num
 have w1 : IntKind.i64.wrap ((s.shapes.length : Int) - 1) = (s.shapes.length : Int) - 1 := by rw [wrap_id] <;> omega
 unfold cellF
 by_cases hgw : c.kind = 5 ∧ c.num = 0
 case neg =>
  have eN : framesN c = 0 := if_neg hgw
  rw [eN]
  have hq : (decide (c.kind = 5) && decide (c.num = 0)) = false := by
   rw [Bool.eq_false_iff]; simp only [ne_eq, Bool.and_eq_true, decide_eq_true_eq]; exact hgw
  obtain ⟨kind, num, vals, frames⟩ := c
  dsimp only at *
  cases frames with
  | cons f fs =>
   have d0 : decide ((((f :: fs).length : Nat) : Int) = 0) = false := by rw [decide_eq_false_iff_not, List.length_cons]; omega
   rw [d0]
   simp only [Bool.and_false, Bool.false_and]
   generalize f :: fs = frames at *
   refine FCp_st [ct_rBetween, ct_rfits', ct_rkind', Sh.ct_refNames] Tryz.func138 Tryz.ntmps138 Tryz.results138 ?_
   refine goR ?_
   refine fzB 2 ?_
   refine fzB 3 ?_
   (any_goals refine go lv138 0 ?_)
   all_goals (try simp only [go_sem])
  | nil =>
  clear hfr hcf
  refine FCp_st [ct_rBetween, ct_rfits', ct_rkind', Sh.ct_refNames] Tryz.func138 Tryz.ntmps138 Tryz.results138 ?_
  refine goR ?_
  refine fzB 2 ?_
  refine fzB 3 ?_
  (any_goals refine go lv138 0 ?_)
  all_goals (try simp only [go_sem])
  refine Rn_loopS (fun x : Nat × Nat => x.1 ≤ vals.length ∧ ∀ j v, j < x.1 → vals[j]? = some v → fitsF s v = true) (fun x => ⟨190, [(2, stateP s), (3, .r (.rp (cellR ⟨kind, num, vals, []⟩))), (32, valsV vals), (33, Iv vals.length), (34, Iv x.1)], [(2, 2, .gone), (3, 2, .gone), (7, x.2, .gone)]⟩) (fun x => vals.length - x.1) (0, 0) ⟨Nat.zero_le _, fun j v hj => by omega⟩ ?_
  rintro ⟨i, u⟩ ⟨hi, hno⟩
  dsimp only at hi hno ⊢
  by_cases hlt : i < vals.length
  case pos =>
   obtain ⟨v, hx, hg, h1, h2, hw⟩ := each_at valR vals hlt hcv
   rcases Bool.eq_false_or_eq_true (fitsF s v) with hv | hv
   ·have nx : ∀ j v, j < i + 1 → vals[j]? = some v → fitsF s v = true := fun j v' hj hv' => by
     rcases Nat.lt_succ_iff_lt_or_eq.1 hj with h3 | h3
     ·exact hno j v' h3 hv'
     ·subst h3; rw [hx] at hv'; cases hv'; exact hv
    clear hno
    (any_goals refine go lv138 0 ?_)
    refine ⟨(i + 1, u + 9), ⟨by dsimp only; omega, nx⟩, by dsimp only; omega, ?_⟩
    dsimp only
    exact Le_subA
   ·rw [all_take_no hx hv]
    simp only [Bool.and_false, Bool.false_and]
    clear hno
    (any_goals refine go lv138 0 ?_)
    all_goals (try simp only [go_sem])
  obtain rfl : i = vals.length := by omega
  have e1 := each_end vals
  have hall : ∀ v ∈ vals, fitsF s v = true := fun v hv => by
   obtain ⟨j, hj⟩ := List.mem_iff_getElem?.1 hv
   exact hno j v (List.getElem?_eq_some_iff.1 hj).1 hj
  rw [all_take_yes fun j x hj hx => hno j x hj hx]
  clear hno hi hlt
  (any_goals refine go lv138 0 ?_)
  all_goals (try simp only [go_sem])
  refine Rn_loopS (fun _ : Unit => True) (fun _ => ⟨190, [(2, stateP s), (3, .r (.rp (cellR ⟨kind, num, vals, []⟩))), (44, .r (.rs 8 [])), (45, Iv 0), (46, Iv 0)], [(2, 2, .gone), (3, 2, .gone), (7, u, .gone)]⟩) (fun _ => 0) () trivial ?_
  rintro ⟨⟩ -
  clear e1
  by_cases hkk : 0 ≤ kind ∧ kind ≤ 7
  case neg =>
   rw [decide_eq_false hkk]
   simp only [Bool.false_and]
   have d0 : decide (kind = 0) = false := by rw [decide_eq_false_iff_not]; omega
   have d1 : decide (kind = 1) = false := by rw [decide_eq_false_iff_not]; omega
   have d2 : decide (kind = 2) = false := by rw [decide_eq_false_iff_not]; omega
   have d3 : decide (kind = 3) = false := by rw [decide_eq_false_iff_not]; omega
   have d4 : decide (kind = 4) = false := by rw [decide_eq_false_iff_not]; omega
   have d5 : decide (kind = 5) = false := by rw [decide_eq_false_iff_not]; omega
   have d6 : decide (kind = 6) = false := by rw [decide_eq_false_iff_not]; omega
   have d7 : decide (kind = 7) = false := by rw [decide_eq_false_iff_not]; omega
   (any_goals refine go lv138 0 ?_)
   all_goals (try simp only [go_sem])
  rw [decide_eq_true hkk]
  have k8 : kind = 0 ∨ kind = 1 ∨ kind = 2 ∨ kind = 3 ∨ kind = 4 ∨ kind = 5 ∨ kind = 6 ∨ kind = 7 := by omega
  clear hkk
  rcases k8 with rfl | rfl | rfl | rfl | rfl | rfl | rfl | rfl
  ·rw [show numF s ⟨0, num, vals, []⟩ = decide (num = 0) from rfl, show valsF s ⟨0, num, vals, []⟩ = decide ((vals.length : Int) = 0) from rfl]
   (any_goals refine go lv138 0 ?_)
   all_goals (try simp only [go_sem])
   exact congrArg (fun b => Bv b) (by simp)
  ·have eK : Sh.namesF s.shapes num = if 0 ≤ num ∧ num < s.shapes.length then Sh.namesL s.shapes num else [] := by
    unfold Sh.namesF; simp only [hk, true_and]
   have ln : ((Sh.namesL s.shapes num).map Sh.intR).length = (Sh.namesL s.shapes num).length := List.length_map ..
   rw [show numF s ⟨1, num, vals, []⟩ = decide (0 ≤ num ∧ num ≤ (s.shapes.length : Int) - 1) from rfl, show valsF s ⟨1, num, vals, []⟩ = (decide (0 ≤ num ∧ num ≤ (s.shapes.length : Int) - 1) && decide ((vals.length : Int) = ((Sh.namesF s.shapes num).length : Int))) from rfl, eK]
   by_cases hb : 0 ≤ num ∧ num ≤ (s.shapes.length : Int) - 1
   ·have hlt : num < s.shapes.length := by omega
    rw [if_pos ⟨hb.1, hlt⟩, decide_eq_true hb]
    clear eK
    have hb' : decide (0 ≤ num ∧ num ≤ (s.shapes.length : Int) - 1) = true := decide_eq_true hb
    have h1000 : s.shapes.length ≤ 1000 := by omega
    clear hb
    (any_goals refine go lv138 0 ?_)
    all_goals (try simp only [go_sem])
    exact congrArg (fun b => Bv b) (by simp)
   ·rw [decide_eq_false hb]
    simp only [Bool.and_false, Bool.false_and]
    have hb' : decide (0 ≤ num ∧ num ≤ (s.shapes.length : Int) - 1) = false := decide_eq_false hb
    clear eK ln hb
    (any_goals refine go lv138 0 ?_)
    all_goals (try simp only [go_sem])
  ·rw [show numF s ⟨2, num, vals, []⟩ = decide (num = 0) from rfl, show valsF s ⟨2, num, vals, []⟩ = true from rfl]
   (any_goals refine go lv138 0 ?_)
   all_goals (try simp only [go_sem])
   exact congrArg (fun b => Bv b) (by simp)
  ·rw [show numF s ⟨3, num, vals, []⟩ = decide (num = 0) from rfl, show valsF s ⟨3, num, vals, []⟩ = decide ((vals.length : Int) = 1) from rfl]
   (any_goals refine go lv138 0 ?_)
   all_goals (try simp only [go_sem])
   exact congrArg (fun b => Bv b) (by simp)
  ·rw [show numF s ⟨4, num, vals, []⟩ = decide (0 ≤ num) from rfl, show valsF s ⟨4, num, vals, []⟩ = !(vals.any fun v => !isF' s v 3) from rfl]
   have eA : (vals.any fun v => !isF' s v 3) = !(vals.all fun v => refF s v 3) := by
    rw [List.any_eq_not_all_not]
    refine congrArg (fun b => !b) ?_
    rw [Bool.eq_iff_iff, List.all_eq_true, List.all_eq_true]
    refine forall_congr' fun v => forall_congr' fun hv => ?_
    rw [Bool.not_not, isF'_ref 3 (hall v hv)]
   rw [eA, Bool.not_not]
   clear eA hall
   (any_goals refine go lv138 0 ?_)
   all_goals (try simp only [go_sem])
   refine Rn_loopS (fun x : Nat × Nat => x.1 ≤ vals.length ∧ ∀ j v, j < x.1 → vals[j]? = some v → refF s v 3 = true) (fun x => ⟨190, [(2, stateP s), (3, .r (.rp (cellR ⟨4, num, vals, []⟩))), (121, valsV vals), (122, Iv vals.length), (123, Iv x.1)], [(2, 2, .gone), (3, 2, .gone), (7, u, .gone), (14, x.2, .gone)]⟩) (fun x => vals.length - x.1) (0, 0) ⟨Nat.zero_le _, fun j v hj => by omega⟩ ?_
   rintro ⟨i, u'⟩ ⟨hi, hno⟩
   dsimp only at hi hno ⊢
   by_cases hlt : i < vals.length
   case pos =>
    obtain ⟨v, hx, hg, h1, h2, hw⟩ := each_at valR vals hlt hcv
    rcases Bool.eq_false_or_eq_true (refF s v 3) with hv | hv
    ·have nx : ∀ j v, j < i + 1 → vals[j]? = some v → refF s v 3 = true := fun j v' hj hv' => by
      rcases Nat.lt_succ_iff_lt_or_eq.1 hj with h3 | h3
      ·exact hno j v' h3 hv'
      ·subst h3; rw [hx] at hv'; cases hv'; exact hv
     clear hno
     (any_goals refine go lv138 0 ?_)
     refine ⟨(i + 1, u' + 9), ⟨by dsimp only; omega, nx⟩, by dsimp only; omega, ?_⟩
     dsimp only
     exact Le_subA
    ·rw [all_take_no (q := fun v => refF s v 3) hx hv]
     simp only [Bool.and_false, Bool.false_and]
     clear hno
     (any_goals refine go lv138 0 ?_)
     all_goals (try simp only [go_sem])
   obtain rfl : i = vals.length := by omega
   have e1 := each_end vals
   rw [all_take_yes (q := fun v => refF s v 3) fun j x hj hx => hno j x hj hx]
   have eg : decide (0 ≤ num) = decide (-1 < num) := by rw [decide_eq_decide]; omega
   rw [eg]
   clear hno hi hlt eg
   (any_goals refine go lv138 0 ?_)
   all_goals (try simp only [go_sem])
   exact congrArg (fun b => Bv b) (by simp)
  ·rw [show numF s ⟨5, num, vals, []⟩ = decide (0 ≤ num ∧ num ≤ 2) from rfl, show valsF s ⟨5, num, vals, []⟩ = decide ((vals.length : Int) = 0) from rfl]
   clear hgw hq eN
   (any_goals refine go lv138 0 ?_)
   all_goals (try simp only [go_sem])
   exact congrArg (fun b => Bv b) (by simp)
  ·rw [show numF s ⟨6, num, vals, []⟩ = decide (-1 ≤ num ∧ num ≤ 4) from rfl, show valsF s ⟨6, num, vals, []⟩ = decide ((vals.length : Int) = 0) from rfl]
   (any_goals refine go lv138 0 ?_)
   all_goals (try simp only [go_sem])
   exact congrArg (fun b => Bv b) (by simp)
  ·rw [show numF s ⟨7, num, vals, []⟩ = decide (num = 0) from rfl, show valsF s ⟨7, num, vals, []⟩ = weakF vals from rfl]
   clear hall
   (any_goals refine go lv138 0 ?_)
   all_goals (try simp only [go_sem])
   refine Rn_loopS (fun x : Nat × Nat => x.1 ≤ vals.length ∧ (((evK vals).take ((x.1 + 1) / 2)).all fun v => decide (v.1 = 5)) = true ∧ (((evK vals).take ((x.1 + 1) / 2)).map (·.2)).Nodup) (fun x => ⟨190, [(3, .r (.rp (cellR ⟨7, num, vals, []⟩))), (154, valsV vals), (155, Iv vals.length), (156, Iv x.1)], [(2, 2, .gone), (3, 2, .gone), (7, u, .gone), (16, x.2, .gone)]⟩) (fun x => vals.length - x.1) (0, 0) ⟨Nat.zero_le _, rfl, List.nodup_nil⟩ ?_
   rintro ⟨i, u'⟩ ⟨hi, h5, hn⟩
   dsimp only at hi h5 hn ⊢
   by_cases hlt : i < vals.length
   case neg =>
    obtain rfl : i = vals.length := by omega
    have e1 := each_end vals
    have hl := evK_len vals
    rw [List.take_of_length_le (by omega)] at h5 hn
    rw [weakF_take h5 hn]
    have em : decide (vals.length % 2 = 0) = decide (((vals.length : Int)).tmod 2 = 0) := by
     rw [decide_eq_decide, show ((vals.length : Int)).tmod 2 = ((vals.length % 2 : Nat) : Int) from rfl]; omega
    rw [em]
    clear em h5 hn hi hlt hl
    (any_goals refine go lv138 0 ?_)
    all_goals (try simp only [go_sem])
    exact congrArg (fun b => Bv b) (by simp)
   obtain ⟨v, hx, hg, h1, h2, hw⟩ := each_at valR vals hlt hcv
   rcases Nat.mod_two_eq_zero_or_one i with hm | hm
   case inr =>
    have e1 : decide (((i : Int)).tmod 2 = 1) = true := by
     rw [decide_eq_true_eq, show ((i : Int)).tmod 2 = ((i % 2 : Nat) : Int) from rfl]; omega
    have eq : (i + 1 + 1) / 2 = (i + 1) / 2 := by omega
    (any_goals refine go lv138 0 ?_)
    refine ⟨(i + 1, u' + 9), ⟨by dsimp only; omega, by dsimp only; rw [eq]; exact h5, by dsimp only; rw [eq]; exact hn⟩, by dsimp only; omega, ?_⟩
    dsimp only
    exact Le_subA
   obtain ⟨q, rfl⟩ : ∃ q, i = 2 * q := ⟨i / 2, by omega⟩
   have e1 : decide ((((2 * q : Nat) : Int)).tmod 2 = 1) = false := by
    rw [decide_eq_false_iff_not, show (((2 * q : Nat) : Int)).tmod 2 = (((2 * q) % 2 : Nat) : Int) from rfl]; omega
   rw [show (2 * q + 1) / 2 = q by omega] at h5 hn
   have hev : (evK vals)[q]? = some v := by rw [evK_at]; exact hx
   by_cases hv5 : v.1 = 5
   case neg =>
    have d5 : decide (v.1 = 5) = false := by simpa using hv5
    rw [weakF_kind hev hv5]
    simp only [Bool.and_false, Bool.false_and]
    clear h5 hn
    (any_goals refine go lv138 0 ?_)
    all_goals (try simp only [go_sem])
   obtain ⟨vk, n⟩ := v
   dsimp only at hv5
   subst hv5
   (any_goals refine go lv138 0 ?_)
   refine Rn_loopS (fun j : Nat => j ≤ q ∧ (5, n) ∉ (evK vals).take j) (fun j => ⟨190, [(3, .r (.rp (cellR ⟨7, num, vals, []⟩))), (154, valsV vals), (155, Iv vals.length), (156, Iv ((2 * q : Nat) : Int)), (16, .os 16 (u' + 1)), (15, Iv ((2 * q : Nat) : Int)), (17, Iv ((2 * j : Nat) : Int))], [(2, 2, .gone), (3, 2, .gone), (7, u, .gone), (16, u' + 1, .bx [Iv 5, Iv n])]⟩) (fun j => q - j) 0 ⟨Nat.zero_le _, by simp⟩ ?_
   rintro j ⟨hj, hno⟩
   by_cases hjq : j < q
   case neg =>
    obtain rfl : j = q := by omega
    have e2 : decide (((2 * j : Nat) : Int) < ((2 * j : Nat) : Int)) = false := by simp
    (any_goals refine go lv138 0 ?_)
    have et : (evK vals).take (j + 1) = (evK vals).take j ++ [(5, n)] := by rw [List.take_add_one, hev]; rfl
    refine ⟨(2 * j + 1, u' + 9), ⟨by dsimp only; omega, ?_, ?_⟩, by dsimp only; omega, ?_⟩
    ·dsimp only
     rw [show (2 * j + 1 + 1) / 2 = j + 1 by omega, et, List.all_append, h5]; simp
    ·dsimp only
     rw [show (2 * j + 1 + 1) / 2 = j + 1 by omega, et, List.map_append]
     refine List.nodup_append.2 ⟨hn, by simp, ?_⟩
     rintro a ha b hb rfl
     obtain ⟨w, hw1, hw2⟩ := List.mem_map.1 ha
     have hw3 := List.all_eq_true.1 h5 w hw1
     simp at hb hw3
     exact hno (by rw [← hb, ← hw2, ← hw3]; exact hw1)
    ·dsimp only; exact Le_subA
   obtain ⟨w, hwj⟩ : ∃ w, vals[2 * j]? = some w := ⟨vals[2 * j]'(by omega), List.getElem?_eq_getElem _⟩
   have gw := getD_map valR hwj ([] : List RV)
   have e2 : decide (((2 * j : Nat) : Int) < ((2 * q : Nat) : Int)) = true := by rw [decide_eq_true_eq]; omega
   have t2 : Int.toNat ((2 * j : Nat) : Int) = 2 * j := by omega
   have w2 : IntKind.i64.wrap (((2 * j : Nat) : Int) + 2) = ((2 * (j + 1) : Nat) : Int) := by rw [wrap_id] <;> omega
   have hew : (evK vals)[j]? = some w := by rw [evK_at]; exact hwj
   have yes : w = (5, n) → weakF vals = false := fun h => by
    refine weakF_twice hev (List.mem_map.2 ⟨w, List.mem_of_getElem? (i := j) ?_, by rw [h]⟩)
    rw [List.getElem?_take, if_pos hjq]; exact hew
   have nx : w ≠ (5, n) → (5, n) ∉ (evK vals).take (j + 1) := fun h => by
    rw [List.take_add_one, hew]
    simp only [Option.toList, List.mem_append, List.mem_singleton, not_or]
    exact ⟨hno, fun e => h e.symm⟩
   clear hx hg h1 h2 hw hm hno h5 hn hev hew e1
   (any_goals refine go lv138 0 ?_)
   repeat' (first | (refine Br.go (fun h h' => ?_) (fun h h' => ?_)) | (refine Br.mk (fun h => ?_) (fun h => ?_)))
   all_goals (try simp only [go_sem])
   ·rw [yes (by simp at h; exact Prod.ext h.1 h.2)]
    exact congrArg (fun b => Bv b) (by simp)
   ·refine ⟨j + 1, ⟨by omega, nx (by rintro rfl; simp at h)⟩, by omega, Le_subA⟩
 obtain ⟨kind, num, vals, frames⟩ := c
 obtain ⟨h5, h0⟩ := hgw
 dsimp only at h5 h0
 subst h5 h0
 rw [show framesN ⟨5, 0, vals, frames⟩ = 1 from if_pos ⟨rfl, rfl⟩, show numF s ⟨5, 0, vals, frames⟩ = true from rfl, show valsF s ⟨5, 0, vals, frames⟩ = decide ((vals.length : Int) = 0) from rfl, show decide (0 ≤ (5 : Int) ∧ (5 : Int) ≤ 7) = true from rfl, Bool.true_and, Bool.true_and]
 dsimp only at *
 by_cases hf1 : frames.length = 1
 case neg =>
  have d0 : decide ((frames.length : Int) = 1) = false := by rw [decide_eq_false_iff_not]; omega
  rw [d0]
  simp only [Bool.and_false, Bool.false_and]
  clear hf1 hfr hcf hcv hwi
  refine FCp_st [ct_rBetween, ct_rfits', ct_rkind', Sh.ct_refNames] Tryz.func138 Tryz.ntmps138 Tryz.results138 ?_
  refine goR ?_
  refine fzB 2 ?_
  refine fzB 3 ?_
  (any_goals refine go lv138 0 ?_)
  all_goals (try simp only [go_sem])
 obtain ⟨f, rfl⟩ := List.length_eq_one_iff.1 hf1
 clear hf1 l2
 have hreg := hrg f (List.mem_singleton.2 rfl)
 rw [show decide ((([f] : List FrameT).length : Int) = 1) = true from rfl, Bool.and_true, show [f].all (heldF s) = heldF s f from by simp]
 clear hfr hcf
 refine FCp_st [ct_rBetween, ct_rfits', ct_rkind', Sh.ct_refNames] Tryz.func138 Tryz.ntmps138 Tryz.results138 ?_
 refine goR ?_
 refine fzB 2 ?_
 refine fzB 3 ?_
 (any_goals refine go lv138 0 ?_)
 refine Rn_loopS (fun x : Nat × Nat => x.1 ≤ vals.length ∧ ∀ j v, j < x.1 → vals[j]? = some v → fitsF s v = true) (fun x => ⟨190, [(2, stateP s), (3, .r (.rp (cellR ⟨5, 0, vals, [f]⟩))), (32, valsV vals), (33, Iv vals.length), (34, Iv x.1)], [(2, 2, .gone), (3, 2, .gone), (7, x.2, .gone)]⟩) (fun x => vals.length - x.1) (0, 0) ⟨Nat.zero_le _, fun j v hj => by omega⟩ ?_
 rintro ⟨i, u⟩ ⟨hi, hno⟩
 dsimp only at hi hno ⊢
 by_cases hlt : i < vals.length
 case pos =>
  obtain ⟨v, hx, hg, h1, h2, hw⟩ := each_at valR vals hlt hcv
  rcases Bool.eq_false_or_eq_true (fitsF s v) with hv | hv
  ·have nx : ∀ j v, j < i + 1 → vals[j]? = some v → fitsF s v = true := fun j v' hj hv' => by
    rcases Nat.lt_succ_iff_lt_or_eq.1 hj with h3 | h3
    ·exact hno j v' h3 hv'
    ·subst h3; rw [hx] at hv'; cases hv'; exact hv
   clear hno
   (any_goals refine go lv138 0 ?_)
   refine ⟨(i + 1, u + 9), ⟨by dsimp only; omega, nx⟩, by dsimp only; omega, ?_⟩
   dsimp only
   exact Le_subA
  ·rw [all_take_no hx hv]
   simp only [Bool.and_false, Bool.false_and]
   clear hno
   (any_goals refine go lv138 0 ?_)
   all_goals (try simp only [go_sem])
 obtain rfl : i = vals.length := by omega
 have e1 := each_end vals
 rw [all_take_yes fun j x hj hx => hno j x hj hx]
 clear hno hi hlt
 (any_goals refine go lv138 0 ?_)
 all_goals (try simp only [go_sem])
 refine Rn_loopS (fun x : Nat × Nat => (x.1 = 0 ∨ x.1 = 1) ∧ (x.1 = 1 → heldF s f = true)) (fun x => ⟨190, [(2, stateP s), (3, .r (.rp (cellR ⟨5, 0, vals, [f]⟩))), (44, framesV [f]), (45, Iv 1), (46, Iv x.1)], [(2, 2, .gone), (3, 2, .gone), (7, u, .gone), (9, x.2, .gone), (11, x.2, .gone), (52, x.2, .gone), (55, x.2, .gone)]⟩) (fun x => 1 - x.1) (0, 0) ⟨.inl rfl, by simp⟩ ?_
 rintro ⟨i, w⟩ ⟨hi, hyes⟩
 dsimp only at hi hyes ⊢
 rcases hi with rfl | rfl
 case inr =>
  rw [hyes rfl, Bool.and_true]
  clear hyes
  (any_goals refine go lv138 0 ?_)
  all_goals (try simp only [go_sem])
 clear hyes
 have hheld : heldF s f = (f.self :: f.regs).all (fitsF s) := by unfold heldF; rw [List.all_cons, Bool.and_comm]
 rw [hheld]
 obtain ⟨fn, pc, tov, gen, ⟨sk, sn⟩, regs, tries⟩ := f
 dsimp only at hreg hheld ⊢
 have l6 : (regs.map valC).length = regs.length := List.length_map ..
 have b1 : 1 + regs.length ≤ 9223372036854775807 := by omega
 have b2 : (1 + regs.length) * 16 ≤ 140737488355328 := by omega
 have l4 : (regs.map valR).length = regs.length := List.length_map ..
 (any_goals refine go lv138 0 ?_)
 all_goals (try simp only [go_sem])
 (apply Rn_frzS 52 (((sk, sn) :: regs).map valR); (exact rfl); (exact (roValC ((sk, sn) :: regs)).symm); (exact rfl); (intro K0; (try simp only [go_sem]); exact ⟨id⟩))
 have hl : ((sk, sn) :: regs).length ≤ 9223372036854775807 := by rw [List.length_cons]; omega
 have l7 : (((sk, sn) :: regs).map valR).length = ((sk, sn) :: regs).length := List.length_map ..
 have l8 : ((regs.length : Int) + 1) = (((sk, sn) :: regs).length : Int) := by rw [List.length_cons]; omega
 clear l4 l6 b1 b2
 refine Rn_loopS (fun y : Nat × Nat => y.1 ≤ ((sk, sn) :: regs).length ∧ ∀ j v, j < y.1 → ((sk, sn) :: regs)[j]? = some v → fitsF s v = true) (fun y => ⟨190, [(2, stateP s), (3, .r (.rp (cellR ⟨5, 0, vals, [⟨fn, pc, tov, gen, (sk, sn), regs, tries⟩]⟩))), (44, framesV [⟨fn, pc, tov, gen, (sk, sn), regs, tries⟩]), (45, Iv 1), (46, Iv 0), (55, valsV ((sk, sn) :: regs)), (56, Iv ((sk, sn) :: regs).length), (57, Iv y.1)], [(2, 2, .gone), (3, 2, .gone), (7, u, .gone), (9, y.2, .gone), (11, y.2, .gone), (52, y.2, .gone), (55, y.2, .gone)]⟩) (fun y => ((sk, sn) :: regs).length - y.1) (0, w + 9) ⟨Nat.zero_le _, fun j v hj => by omega⟩ ?_
 rintro ⟨i, y⟩ ⟨hi, hno⟩
 dsimp only at hi hno ⊢
 clear hreg l8
 generalize hL : (sk, sn) :: regs = L at *
 by_cases hlt : i < L.length
 case pos =>
  obtain ⟨v, hx, hg, h1, h2, hw⟩ := each_at valR L hlt hl
  rcases Bool.eq_false_or_eq_true (fitsF s v) with hv | hv
  ·have nx : ∀ j v, j < i + 1 → L[j]? = some v → fitsF s v = true := fun j v' hj hv' => by
    rcases Nat.lt_succ_iff_lt_or_eq.1 hj with h3 | h3
    ·exact hno j v' h3 hv'
    ·subst h3; rw [hx] at hv'; cases hv'; exact hv
   clear hno hL
   (any_goals refine go lv138 0 ?_)
   refine ⟨(i + 1, y + 9), ⟨by dsimp only; omega, nx⟩, by dsimp only; omega, ?_⟩
   dsimp only
   exact Le_subA
  ·rw [all_take_no hx hv]
   simp only [Bool.and_false, Bool.false_and]
   clear hno hL
   (any_goals refine go lv138 0 ?_)
   all_goals (try simp only [go_sem])
 obtain rfl : i = L.length := by omega
 have e2 := each_end L
 have hall : L.all (fitsF s) = true := all_take_yes fun j x hj hx => hno j x hj hx
 clear hno hi hlt hL
 (any_goals refine go lv138 0 ?_)
 refine ⟨(1, y + 9), ⟨.inr rfl, fun _ => hall⟩, by dsimp only; omega, ?_⟩
 dsimp only
 exact Le_subA
theorem cellRight'_c (ca sh tx th en sd : List (List RV)) (aq sq : Int) (c1 c2 : Int) (us vs : List (List RV)) (h : ((ca = (cellsOf ca).map cellR ∧ sh = (valsOf sh).map valR ∧ tx = (strsOf tx).map strR ∧ th = (threadsOf th).map threadR ∧ en = (endsOf en).map endR ∧ sd = (valsOf sd).map valR) ∧ us = (valsOf us).map valR ∧ vs = (framesOf vs).map frameR) ∧ Swf ⟨cellsOf ca, valsOf sh, strsOf tx, threadsOf th, endsOf en, valsOf sd, aq, sq⟩ ∧ Cwf ⟨c1, c2, valsOf us, framesOf vs⟩ ∧ Sh.checkF (valsOf sh) = 0 ∧ RegsC ⟨c1, c2, valsOf us, framesOf vs⟩) : FC Cx 138 [.agg [.r (.rs 4 ca), .r (.rs 2 sh), .r (.rs 1 tx), .r (.rs 5 th), .r (.rs 3 en), .r (.rs 2 sd), Iv aq, Iv sq], .agg [Iv c1, Iv c2, .r (.rs 2 us), .r (.rs 8 vs)]] [] (Bv (cellF ⟨cellsOf ca, valsOf sh, strsOf tx, threadsOf th, endsOf en, valsOf sd, aq, sq⟩ ⟨c1, c2, valsOf us, framesOf vs⟩)) [] := by
 have := cellRight_c ⟨cellsOf ca, valsOf sh, strsOf tx, threadsOf th, endsOf en, valsOf sd, aq, sq⟩ ⟨c1, c2, valsOf us, framesOf vs⟩ h.2.1 h.2.2.1 h.2.2.2.1 h.2.2.2.2
 rwa [state_at _ _ _ _ _ _ _ _ h.1.1, show cellA ⟨c1, c2, valsOf us, framesOf vs⟩ = .agg [Iv c1, Iv c2, .r (.rs 2 us), .r (.rs 8 vs)] from by
  show AV.agg [Iv c1, Iv c2, valsV (valsOf us), framesV (framesOf vs)] = _
  rw [valsOf_at h.1.2.1, framesOf_at h.1.2.2]] at this
def sp_cellRight' (args : List AV) (K : AV → Prop) : Prop := match args with
 | [.agg [.r (.rs 4 ca), .r (.rs 2 sh), .r (.rs 1 tx), .r (.rs 5 th), .r (.rs 3 en), .r (.rs 2 sd), .r (.v (.int .i64 aq)), .r (.v (.int .i64 sq))], .agg [.r (.v (.int .i64 c1)), .r (.v (.int .i64 c2)), .r (.rs 2 us), .r (.rs 8 vs)]] => (((ca = (cellsOf ca).map cellR ∧ sh = (valsOf sh).map valR ∧ tx = (strsOf tx).map strR ∧ th = (threadsOf th).map threadR ∧ en = (endsOf en).map endR ∧ sd = (valsOf sd).map valR) ∧ us = (valsOf us).map valR ∧ vs = (framesOf vs).map frameR) ∧ Swf ⟨cellsOf ca, valsOf sh, strsOf tx, threadsOf th, endsOf en, valsOf sd, aq, sq⟩ ∧ Cwf ⟨c1, c2, valsOf us, framesOf vs⟩ ∧ Sh.checkF (valsOf sh) = 0 ∧ RegsC ⟨c1, c2, valsOf us, framesOf vs⟩) ∧ K (Bv (cellF ⟨cellsOf ca, valsOf sh, strsOf tx, threadsOf th, endsOf en, valsOf sd, aq, sq⟩ ⟨c1, c2, valsOf us, framesOf vs⟩))
 | _ => False
noncomputable abbrev ct_cellRight' : Ct Cx := .pure 138 sp_cellRight' fun args K h => by
 unfold sp_cellRight' at h; split at h; exact ⟨_, CallOk_of (cellRight'_c _ _ _ _ _ _ _ _ _ _ _ _ h.1) en138 rfl rfl, h.2⟩; exact h.elim
@[go_sem] theorem sp_cellRight'_eq : type_of% @sp_cellRight'.eq_def := @sp_cellRight'.eq_def
def gensF (fs : List FrameT) : List Int := (fs.filter fun f => !decide (f.gen = -1)).map (·.gen)
def gensD (ts : List ThreadT) : List Int := (ts.map fun t => gensF t.frames).flatten
theorem gensF_take {fs : List FrameT} {i : Nat} {f : FrameT} (hf : fs[i]? = some f) : gensF (fs.take (i + 1)) = gensF (fs.take i) ++ (if f.gen = -1 then [] else [f.gen]) := by
 unfold gensF
 rw [List.take_add_one, hf, List.filter_append, List.map_append]
 by_cases h : f.gen = -1
 ·rw [if_pos h]; simp [h]
 ·rw [if_neg h]; simp [h]
theorem gensD_take {ts : List ThreadT} {i : Nat} {t : ThreadT} (ht : ts[i]? = some t) : gensD (ts.take (i + 1)) = gensD (ts.take i) ++ gensF t.frames := by
 unfold gensD
 rw [List.take_add_one, ht, List.map_append, List.flatten_append]
 simp
theorem gensF_len (fs : List FrameT) : (gensF fs).length ≤ fs.length := by
 unfold gensF; rw [List.length_map]; exact List.length_filter_le _ _
theorem gensD_len : ∀ {ts : List ThreadT}, (∀ t ∈ ts, t.frames.length ≤ 30) → (gensD ts).length ≤ 30 * ts.length
 | [], _ => by simp [gensD]
 | t :: ts, h => by
  have h1 := gensD_len (ts := ts) fun u hu => h u (List.mem_cons_of_mem _ hu)
  have h2 := gensF_len t.frames
  have h3 := h t (List.mem_cons_self ..)
  have e : gensD (t :: ts) = gensF t.frames ++ gensD ts := rfl
  rw [e, List.length_append, List.length_cons]
  omega
theorem gensOf_c (s : StateT) (hl : s.threads.length ≤ 5) (hf : ∀ t ∈ s.threads, t.frames.length ≤ 30) : FC Cx 79 [stateV s] [] (intsV (gensD s.threads)) [] := by
 have l1 : (s.threads.map threadR).length = s.threads.length := List.length_map ..
 refine FCf_of [] Tryz.func79 rfl Tryz.ntmps79 (by simp) Tryz.results79 rfl ?_
 refine rnst ?_
 refine goR ?_
 refine fzB 1 ?_
 (any_goals refine go lv79 0 ?_)
 (apply Rn_ownnil 3 1003 3 1; (exact rfl); (exact rfl); (intro K0; (try simp only [go_sem]); exact ⟨id⟩))
 refine Rn_loopS (fun x : Nat × Nat => x.1 ≤ s.threads.length) (fun x => ⟨33, [(3, .os 1003 (1 + (gensD (s.threads.take x.1)).length)), (9, threadsV s.threads), (10, Iv s.threads.length), (11, Iv x.1)], [(1, 2, .gone), (1003, 1 + (gensD (s.threads.take x.1)).length, .sl 3 1 ((gensD (s.threads.take x.1)).map fun k => [Iv k])), (5, x.2, .gone), (7, x.2, .gone), (28, x.2, .gone)]⟩) (fun x => s.threads.length - x.1) (0, 0) (Nat.zero_le _) ?_
 rintro ⟨i, u⟩ hi
 dsimp only at hi ⊢
 by_cases hlt : i < s.threads.length
 case neg =>
  obtain rfl : i = s.threads.length := by omega
  have e1 := each_end s.threads
  rw [List.take_length]
  (any_goals refine go lv79 0 ?_)
  all_goals (try simp only [go_sem])
 obtain ⟨t, hx, hg, h1, h2, hw⟩ := each_at threadR s.threads hlt (by omega)
 have hfl := hf t (List.mem_of_getElem? hx)
 have l2 : (t.frames.map frameR).length = t.frames.length := List.length_map ..
 have hnx := gensD_take hx
 have hL : (gensD (s.threads.take i)).length ≤ 150 := by
  have := gensD_len (ts := s.threads.take i) fun u hu => hf u (List.mem_of_mem_take hu)
  rw [List.length_take] at this
  omega
 generalize gensD (s.threads.take i) = L at *
 (any_goals refine go lv79 0 ?_)
 refine Rn_loopS (fun y : Nat × Nat => y.1 ≤ t.frames.length ∧ u ≤ y.2) (fun y => ⟨33, [(3, .os 1003 (1 + (L ++ gensF (t.frames.take y.1)).length)), (9, threadsV s.threads), (10, Iv s.threads.length), (11, Iv i), (16, framesV t.frames), (17, Iv t.frames.length), (18, Iv y.1)], [(1, 2, .gone), (1003, 1 + (L ++ gensF (t.frames.take y.1)).length, .sl 3 1 ((L ++ gensF (t.frames.take y.1)).map fun k => [Iv k])), (5, u + 1, .gone), (7, y.2, .gone), (28, y.2, .gone)]⟩) (fun y => t.frames.length - y.1) (0, u) ⟨Nat.zero_le _, Nat.le_refl _⟩ ?_ rfl ?_ ?_
 rotate_left
 ·exact ⟨by simp [lookT, gensF], rfl, rfl, rfl, rfl, rfl, rfl, trivial⟩
 ·exact ⟨rfl, .inl ⟨rfl, rfl⟩, by simp [gensF], .inl ⟨by simp [gensF], by simp [gensF]⟩, rfl, .inr ⟨rfl, by omega⟩, rfl, .inl ⟨rfl, rfl⟩, rfl, .inl ⟨rfl, rfl⟩, trivial⟩
 rintro ⟨j, w⟩ ⟨hj, hwu⟩
 dsimp only at hj hwu ⊢
 by_cases hjl : j < t.frames.length
 case neg =>
  obtain rfl : j = t.frames.length := by omega
  have e1 := each_end t.frames
  rw [List.take_length]
  have hnx2 : ∀ z, z = s.threads.take (i + 1) → gensD z = L ++ gensF t.frames := fun z hz => by rw [hz, hnx]
  clear hnx
  (any_goals refine go lv79 0 ?_)
  refine ⟨(i + 1, w + 9), by dsimp only; omega, by dsimp only; omega, ?_⟩
  dsimp only
  rw [hnx2 _ rfl]
  exact Le_subA
 obtain ⟨f, hx', hg', j1, j2, jw⟩ := each_at frameR t.frames hjl (by omega)
 have hn2 := gensF_take hx'
 have hM : (gensF (t.frames.take j)).length ≤ 30 := by
  have := gensF_len (t.frames.take j)
  rw [List.length_take] at this
  omega
 generalize gensF (t.frames.take j) = M at *
 have lr : ((L ++ M).map fun k => [Iv k]).length = (L ++ M).length := List.length_map ..
 have lb : (L ++ M).length ≤ 1000 := by rw [List.length_append]; omega
 by_cases hgn : f.gen = -1
 ·have d0 : decide (f.gen = -1) = true := by simpa using hgn
  rw [if_pos hgn, List.append_nil] at hn2
  have hn3 : ∀ z, z = t.frames.take (j + 1) → gensF z = M := fun z hz => by rw [hz, hn2]
  clear hgn hn2
  (any_goals refine go lv79 0 ?_)
  refine ⟨(j + 1, w + 9), ⟨by dsimp only; omega, by dsimp only; omega⟩, by dsimp only; omega, ?_⟩
  dsimp only
  rw [hn3 _ rfl]
  exact Le_subA
 ·have d0 : decide (f.gen = -1) = false := by simpa using hgn
  rw [if_neg hgn] at hn2
  have hn3 : ∀ z, z = t.frames.take (j + 1) → L ++ gensF z = (L ++ M) ++ [f.gen] := fun z hz => by rw [hz, hn2, List.append_assoc]
  clear hgn hn2
  generalize L ++ M = LM at *
  (any_goals refine go lv79 0 ?_)
  refine ⟨(j + 1, w + 9), ⟨by dsimp only; omega, by dsimp only; omega⟩, by dsimp only; omega, ?_⟩
  dsimp only
  rw [hn3 _ rfl]
  simp only [List.length_append, List.length_cons, List.length_nil, List.map_append, List.map_cons, List.map_nil]
  exact Le_subA
def stackD (p : ProgT) (s : StateT) : Nat → Int → List FrameT → Bool
 | _, _, [] => true
 | k, low, f :: fs => frameF p s f && decide (-1 ≤ f.tov ∧ f.tov ≤ low - 1) && ((p.fns.getD f.fn.toNat fn0).gen == !decide (f.gen = -1)) && (!(p.fns.getD f.fn.toNat fn0).gen || goesF s k f) && stackD p s (k + 1) f.regs.length fs
def threadD (p : ProgT) (s : StateT) (t : ThreadT) : Bool := headF p s t && stackD p s 0 0 t.frames
theorem stackD_iff (p : ProgT) (s : StateT) : ∀ (fs : List FrameT) (k : Nat) (low : Int), stackD p s k low fs = true ↔ stackR p s k low fs
 | [], k, low => by unfold stackD stackR; simp
 | f :: fs, k, low => by
  unfold stackD stackR
  simp only [Bool.and_eq_true, beq_iff_eq, Bool.or_eq_true, Bool.not_eq_true', decide_eq_true_eq]
  rw [stackD_iff p s fs]
  constructor
  ·rintro ⟨⟨⟨⟨a1, a2⟩, a3⟩, a4⟩, a5⟩
   have hg : (p.fns.getD f.fn.toNat fn0).gen = true → 0 ≤ f.gen := fun h => by
    have := a4.resolve_left (by rw [h]; simp)
    unfold goesF at this
    simp only [Bool.and_eq_true] at this
    exact (ref_on this.1.2).1
   refine ⟨⟨?_, fun h0 => ?_⟩, a5⟩
   ·unfold onF
    rw [a1, decide_eq_true a2]
    by_cases h1 : f.gen = -1
    ·rw [a3, h1]; rfl
    ·have h2 : (p.fns.getD f.fn.toNat fn0).gen = true := by rw [a3]; simp [h1]
     have h3 := hg h2
     rw [h2, decide_eq_true h3, decide_eq_false (by omega)]; rfl
   ·refine a4.resolve_left ?_
    rw [a3]
    simp; omega
  ·rintro ⟨⟨a1, a2⟩, a3⟩
   have h0 := onF_gen a1
   unfold onF at a1
   simp only [Bool.and_eq_true, Bool.not_eq_true', decide_eq_true_eq, decide_eq_false_iff_not] at a1
   obtain ⟨⟨⟨b1, b2⟩, _⟩, b4⟩ := a1
   refine ⟨⟨⟨⟨b1, b2⟩, ?_⟩, ?_⟩, a3⟩
   ·rw [h0]
    by_cases h1 : 0 ≤ f.gen
    ·rw [decide_eq_true h1, decide_eq_false (by omega)]; rfl
    ·rw [decide_eq_false h1, decide_eq_true (show f.gen = -1 by omega)]; rfl
   ·by_cases h1 : 0 ≤ f.gen
    ·exact .inr (a2 h1)
    ·left; rw [h0, decide_eq_false h1]
theorem threadD_iff {p : ProgT} {s : StateT} {t : ThreadT} : threadD p s t = true ↔ threadR' p s t := by
 unfold threadD threadR'
 rw [Bool.and_eq_true, stackD_iff]
theorem threadRight_no (p : ProgT) (s : StateT) (t : ThreadT) (hp : Pgo p) (hfs : ∀ f ∈ t.frames, Gwf f) (hl : t.frames.length ≤ 30) (hl2 : s.threads.length ≤ 9223372036854775807) (hsl : s.cells.length ≤ 9223372036854775807) (hno : (((decide (t.state = 3) || decide (t.state = 4)) == decide ((t.frames.length : Int) = 0)) && ((decide (t.state = 3) || decide (t.state = 4)) || (decide (t.val.1 = 0) && decide (t.val.2 = 0))) && fitsF s t.val && decide (0 ≤ t.state ∧ t.state ≤ 4)) = false) :
  FC Cx 82 [progV p, stateV s, threadA t] [] (Bv false) [] := by
 have l0 : (t.frames.map frameR).length = t.frames.length := List.length_map ..
 have l1 : (s.threads.map threadR).length = s.threads.length := List.length_map ..
 have l2 : (p.fns.map fnR).length = p.fns.length := List.length_map ..
 have lc : (s.cells.map cellR).length = s.cells.length := List.length_map ..
 obtain ⟨fs, state, on, ⟨vk, vn⟩⟩ := t
 dsimp only at *
 have w1 : IntKind.i64.wrap ((s.threads.length : Int) - 1) = (s.threads.length : Int) - 1 := by rw [wrap_id] <;> omega
 have hlen : decide ((0 : Int) < (fs.length : Int)) = !decide ((fs.length : Int) = 0) := by
  rw [← decide_not, decide_eq_decide]; omega
 obtain ⟨o3, r1⟩ : ∃ c, decide (state = 3) = c := ⟨_, rfl⟩
 obtain ⟨o4, r2⟩ : ∃ c, decide (state = 4) = c := ⟨_, rfl⟩
 obtain ⟨e, r3⟩ : ∃ c, decide ((fs.length : Int) = 0) = c := ⟨_, rfl⟩
 obtain ⟨v1, r4⟩ : ∃ c, decide (vk = 0) = c := ⟨_, rfl⟩
 obtain ⟨v2, r5⟩ : ∃ c, decide (vn = 0) = c := ⟨_, rfl⟩
 obtain ⟨ff, r6⟩ : ∃ c, fitsF s (vk, vn) = c := ⟨_, rfl⟩
 obtain ⟨w, r7⟩ : ∃ c, decide (0 ≤ state ∧ state ≤ 4) = c := ⟨_, rfl⟩
 rw [r1, r2, r3, r4, r5, r6, r7] at hno
 rw [r3] at hlen
 cases w with
 | false =>
  refine FCp_st [ct_rBetween, ct_rkind', ct_rfits', ct_frameRight'] Tryz.func82 Tryz.ntmps82 Tryz.results82 ?_
  refine goR ?_
  refine fzB 3 ?_
  refine fzB 4 ?_
  refine fzB 5 ?_
  (any_goals refine go lv82 0 ?_)
  all_goals (try simp only [go_sem])
 | true =>
 by_cases hoe : ((o3 || o4) == e) = false
 ·skip
  cases o3 <;> cases o4 <;> cases e <;> first | cases hoe | skip
  all_goals
   refine FCp_st [ct_rBetween, ct_rkind', ct_rfits', ct_frameRight'] Tryz.func82 Tryz.ntmps82 Tryz.results82 ?_
   refine goR ?_
   refine fzB 3 ?_
   refine fzB 4 ?_
   refine fzB 5 ?_
   (any_goals refine go lv82 0 ?_)
   all_goals (try simp only [go_sem])
 by_cases hov : ((o3 || o4) || (v1 && v2)) = false
 ·skip
  cases o3 <;> cases o4 <;> cases v1 <;> cases v2 <;> first | cases hov | skip
  all_goals cases e <;> first | cases hoe rfl | skip
  all_goals
   refine FCp_st [ct_rBetween, ct_rkind', ct_rfits', ct_frameRight'] Tryz.func82 Tryz.ntmps82 Tryz.results82 ?_
   refine goR ?_
   refine fzB 3 ?_
   refine fzB 4 ?_
   refine fzB 5 ?_
   (any_goals refine go lv82 0 ?_)
   all_goals (try simp only [go_sem])
 rw [Bool.not_eq_false] at hoe hov
 cases ff with
 | false =>
  cases o3 <;> cases o4 <;> cases e <;> first | cases hoe | skip
  all_goals cases v1 <;> cases v2 <;> first | cases hov | skip
  all_goals
   refine FCp_st [ct_rBetween, ct_rkind', ct_rfits', ct_frameRight'] Tryz.func82 Tryz.ntmps82 Tryz.results82 ?_
   refine goR ?_
   refine fzB 3 ?_
   refine fzB 4 ?_
   refine fzB 5 ?_
   (any_goals refine go lv82 0 ?_)
   all_goals (try simp only [go_sem])
 | true =>
  rw [hoe, hov] at hno
  cases hno
theorem isF'_is {s : StateT} (v : Int × Int) {q : Int} (hq : q ≠ 0) : isF' s v q = refF s v q := by
 obtain ⟨k, n⟩ := v
 unfold isF' refF fitsF
 dsimp only
 by_cases h5 : k = 5
 ·subst h5
  rw [show rightF 5 n = decide (0 ≤ n) from rfl, if_neg (by decide), if_pos rfl, Bool.eq_iff_iff]
  simp only [Bool.and_eq_true, decide_eq_true_eq, Bool.not_eq_true', decide_eq_false_iff_not, decide_true, true_and]
  constructor
  ·rintro ⟨⟨⟨a, b, c⟩, _⟩, d⟩; exact ⟨⟨a, b⟩, d⟩
  ·rintro ⟨⟨a, b⟩, d⟩; exact ⟨⟨⟨a, b, by rw [d]; exact hq⟩, trivial⟩, d⟩
 ·have d5 : decide (k = 5) = false := by simpa using h5
  rw [d5]; simp
noncomputable def rightH (s : StateT) : Bool := textsF s.texts && (s.shapes.all fun x => decide (x.2 < (s.texts.length : Int))) && s.cells.all (cellF s) && (s.said.all fun v => decide (v.1 = 4) && fitsF s v) && (s.ends.all fun e => decide (0 ≤ e.cell ∧ e.cell ≤ (s.cells.length : Int) - 1) && refF s e.fn 4)
theorem any_not {α : Type} {l : List α} {p q : α → Bool} (h : ∀ x, p x = !q x) : l.any p = !l.all q := by
 rw [List.any_eq_not_all_not]
 refine congrArg (fun b => !b) (congrArg l.all (funext fun x => ?_))
 rw [h, Bool.not_not]
theorem checkS_D (s : StateT) : checkS s = if largeS s = true then 2 else if Sh.checkF s.shapes ≠ 0 then Sh.checkF s.shapes else if rightH s = true then 0 else 3 := by
 unfold checkS rightH
 rw [any_not (l := s.shapes) (q := fun x => decide (x.2 < (s.texts.length : Int))) (fun x => by rw [← decide_not, decide_eq_decide]; omega), any_not (l := s.cells) (q := cellF s) (fun _ => rfl),
  any_not (l := s.said) (q := fun v => decide (v.1 = 4) && fitsF s v) (fun v => by unfold badS; simp), any_not (l := s.ends) (q := fun e => decide (0 ≤ e.cell ∧ e.cell ≤ (s.cells.length : Int) - 1) && refF s e.fn 4) (fun e => by unfold badE; rw [isF'_is e.fn (by decide)]; simp)]
 cases textsF s.texts <;> cases s.shapes.all _ <;> cases s.cells.all _ <;> cases s.said.all _ <;> cases s.ends.all _ <;> simp
def cellD (p : ProgT) (s : StateT) (x : CellT × Nat) : Bool := heapF p s x.1 && (!(decide (x.1.kind = 5) && decide (x.1.num = 1)) || decide ((x.2 : Int) ∈ gensD s.threads))
def preD (p : ProgT) (s : StateT) : Bool := decide (0 < s.threads.length) && decide (p.texts.length ≤ s.texts.length) && decide (0 ≤ s.steps ∧ s.steps ≤ 1000000000) && decide (0 ≤ s.asked ∧ s.asked ≤ 1000000000) && decide (s.texts.take p.texts.length = p.texts)
def rightD (p : ProgT) (s : StateT) : Bool := preD p s && (decide (gensD s.threads).Nodup && s.cells.zipIdx.all (cellD p s) && s.threads.all (threadD p s))
theorem stackR_gens {p : ProgT} {s : StateT} : ∀ {fs : List FrameT} {k : Nat} {low : Int}, stackR p s k low fs → gensF fs = gensL fs
 | [], _, _, _ => rfl
 | f :: fs, k, low, h => by
  unfold stackR at h
  have h2 := stackR_gens h.2
  have h3 : ¬ f.gen < -1 := by
   have := h.1.1
   unfold onF at this
   simp only [Bool.and_eq_true, Bool.not_eq_true', decide_eq_false_iff_not] at this
   exact this.2
  unfold gensF gensL at h2 ⊢
  by_cases h1 : 0 ≤ f.gen
  ·rw [List.filter_cons_of_pos (by simp; omega), List.filter_cons_of_pos (by simpa using h1), List.map_cons, List.map_cons, h2]
  ·rw [List.filter_cons_of_neg (by simp; omega), List.filter_cons_of_neg (by simpa using h1), h2]
theorem threads_gens {p : ProgT} {s : StateT} : ∀ {ts : List ThreadT}, (∀ t ∈ ts, threadR' p s t) → gensD ts = gensT ts
 | [], _ => rfl
 | t :: ts, h => by
  show gensF t.frames ++ gensD ts = gensL t.frames ++ gensT ts
  rw [stackR_gens (h t (List.mem_cons_self ..)).2, threads_gens fun u hu => h u (List.mem_cons_of_mem _ hu)]
theorem rightD_iff (p : ProgT) (s : StateT) : rightD p s = rightS p s := by
 rw [Bool.eq_iff_iff]
 unfold rightD rightS preD
 simp only [Bool.and_eq_true, decide_eq_true_eq, Bool.not_eq_true', decide_eq_false_iff_not, List.all_eq_true]
 constructor
 ·rintro ⟨⟨⟨⟨⟨a1, a2⟩, a3⟩, a4⟩, a5⟩, ⟨a6, a7⟩, a8⟩
  have ht : ∀ t ∈ s.threads, threadR' p s t := fun t h => threadD_iff.1 (a8 t h)
  have eg := threads_gens ht
  rw [eg] at a6
  have hg : (threadsG p s s.threads []).1 = true := threadsG_true.2 ⟨ht, a6⟩
  refine ⟨⟨⟨⟨⟨⟨⟨a2, a5⟩, a3⟩, a4⟩, by omega⟩, fun c hc => ?_⟩, hg⟩, fun x hx => ?_⟩
  ·obtain ⟨k, hk⟩ := List.mem_iff_getElem?.1 hc
   have := a7 (c, k) (by rw [List.mem_zipIdx_iff_getElem?]; exact hk)
   unfold cellD at this
   rw [Bool.and_eq_true] at this
   exact this.1
  ·have := a7 x hx
   unfold cellD at this
   rw [Bool.and_eq_true, eg] at this
   have e : decide ((x.2 : Int) ∈ (threadsG p s s.threads []).2) = decide ((x.2 : Int) ∈ gensT s.threads) := by rw [decide_eq_decide]; exact threadsG_mem hg _
   rw [e]; exact this.2
 ·rintro ⟨⟨⟨⟨⟨⟨⟨a1, a2⟩, a3⟩, a4⟩, a5⟩, a6⟩, a7⟩, a8⟩
  have h9 := threadsG_true.1 a7
  have eg := threads_gens h9.1
  refine ⟨⟨⟨⟨⟨by omega, a1⟩, a3⟩, a4⟩, a2⟩, ⟨by rw [eg]; exact h9.2, fun x hx => ?_⟩, fun t h => threadD_iff.2 (h9.1 t h)⟩
  unfold cellD
  rw [Bool.and_eq_true, eg]
  refine ⟨a6 x.1 ?_, ?_⟩
  ·obtain ⟨c, k⟩ := x
   rw [List.mem_zipIdx_iff_getElem?] at hx
   exact List.mem_of_getElem? hx
  ·have e : decide ((x.2 : Int) ∈ (threadsG p s s.threads []).2) = decide ((x.2 : Int) ∈ gensT s.threads) := by rw [decide_eq_decide]; exact threadsG_mem a7 _
   rw [← e]; exact a8 x hx
theorem faultS_D (p : ProgT) (s : StateT) : faultS p s = if checkF p ≠ 0 then checkF p else if checkS s ≠ 0 then checkS s else if manyS s = true then 2 else if rightD p s = true then 0 else 3 := by
 unfold faultS; rw [rightD_iff]
def RegsOk (s : StateT) : Prop := ∀ c ∈ s.cells, RegsC c
theorem heapFault_c (s : StateT) (hs : Swf s) (hrg : RegsOk s) : FC Cx 78 [stateV s] [] (Iv (checkS s)) [] := by
 have hl := hs.len
 obtain ⟨s1, s2, s3, s4, s5, s6⟩ := hs.len
 have l1 : (s.cells.map cellR).length = s.cells.length := List.length_map ..
 have l2 : (s.texts.map strR).length = s.texts.length := List.length_map ..
 have l3 : (s.said.map valR).length = s.said.length := List.length_map ..
 have l4 : (s.ends.map endR).length = s.ends.length := List.length_map ..
 have l5 : (s.shapes.map valR).length = s.shapes.length := List.length_map ..
 have hshw := hs.shapes
 rw [checkS_D]
 refine FCp_st [Sh.ct_fault, ct_ownWords, ct_cellRight', ct_rfits', ct_rkind', ct_rBetween] Tryz.func78 Tryz.ntmps78 Tryz.results78 ?_
 refine goR ?_
 refine fzB 1 ?_
 (any_goals refine go lv78 0 ?_)
 -- texts that are too long
 generalize hA0 : (decide ((300 : Int) < (s.cells.length : Int)) || decide ((300 : Int) < (s.texts.length : Int)) || decide ((200 : Int) < (s.said.length : Int)) || decide ((100 : Int) < (s.ends.length : Int))) = A0
 refine Rn_loopA [1, 3, 46, 47, 48] (fun k : Nat => k ≤ s.texts.length) (fun k => ⟨203, [(1, stateP s), (3, Bv (A0 || (s.texts.take k).any bigS)), (46, strsV s.texts), (47, Iv s.texts.length), (48, Iv k)], [(1, 2, .gone)]⟩) (fun k => s.texts.length - k) 0 (Nat.zero_le _) ?_ rfl (by simp [trimT, memN, hA0])
 intro k hk
 by_cases hlt : k < s.texts.length
 case pos =>
  obtain ⟨x, hx, hg, h1, h2, hw⟩ := each_at strR s.texts hlt (by omega)
  (any_goals refine go lv78 0 ?_)
  refine ⟨k + 1, by omega, by omega, ?_⟩
  rw [any_take hx, ← Bool.or_assoc]
  exact Le_keepA [1, 3, 46, 47, 48]
 obtain rfl : k = s.texts.length := by omega
 have e1 := each_end s.texts
 have c2 : (A0 || s.texts.any bigS || s.cells.any bigC) = largeS s := by rw [← hA0]; rfl
 rw [List.take_length]
 clear hlt hk
 generalize hA1 : (A0 || s.texts.any bigS) = A1 at *
 (any_goals refine go lv78 0 ?_)
 clear e1
 -- cells that are too large
 refine Rn_loopA [1, 3, 60, 61, 62] (fun x : Nat × Nat => x.1 ≤ s.cells.length) (fun x => let k := x.1; let u := x.2; ⟨203, [(1, stateP s), (3, Bv (A1 || (s.cells.take k).any bigC)), (60, cellsV s.cells), (61, Iv s.cells.length), (62, Iv k)], [(1, 2, .gone), (7, u, .gone), (16, u, .gone), (18, u, .gone), (20, u, .gone), (22, u, .gone)]⟩) (fun x => s.cells.length - x.1) (0, 0) (Nat.zero_le _) ?_ rfl (by simp [trimT, memN])
 rintro ⟨k, u⟩ hk
 dsimp only at hk ⊢
 by_cases hlt : k < s.cells.length
 case pos =>
  obtain ⟨c, hx, hg, h1, h2, hw⟩ := each_at cellR s.cells hlt (by omega)
  have lv : (c.vals.map valR).length = c.vals.length := List.length_map ..
  have hb : bigC c = (if c.kind = 7 then decide ((600 : Int) < (c.vals.length : Int)) else decide ((100 : Int) < (c.vals.length : Int))) := by
   unfold bigC
   by_cases h7 : c.kind = 7
   ·rw [if_pos h7, decide_eq_true h7, Bool.not_true, Bool.false_or, Bool.eq_iff_iff]; simp; omega
   ·rw [if_neg h7, decide_eq_false h7, Bool.not_false, Bool.true_or, Bool.and_true]
  have eb := any_take (q := bigC) hx
  by_cases h7 : c.kind = 7
  ·rw [if_pos h7] at hb
   have d7 : decide (c.kind = 7) = true := by simpa using h7
   clear h7
   (any_goals refine go lv78 0 ?_)
   refine ⟨(k + 1, u + 9), by dsimp only; omega, by dsimp only; omega, ?_⟩
   dsimp only
   rw [eb, hb, ← Bool.or_assoc]
   exact Le_keepA [1, 3, 60, 61, 62]
  ·rw [if_neg h7] at hb
   have d7 : decide (c.kind = 7) = false := by simpa using h7
   clear h7
   (any_goals refine go lv78 0 ?_)
   refine ⟨(k + 1, u + 9), by dsimp only; omega, by dsimp only; omega, ?_⟩
   dsimp only
   rw [eb, hb, ← Bool.or_assoc]
   exact Le_keepA [1, 3, 60, 61, 62]
 obtain rfl : k = s.cells.length := by omega
 have e1 := each_end s.cells
 rw [List.take_length, c2]
 clear hlt hk c2 hA1
 cases hL : largeS s with
 | true =>
  rw [if_pos rfl]
  (any_goals refine go lv78 0 ?_)
  all_goals (try simp only [go_sem])
 | false =>
 rw [if_neg (by simp)]
 have hp := large_no hL
 by_cases hk : Sh.checkF s.shapes = 0
 case neg =>
  rw [if_pos hk]
  have d0 : decide (Sh.checkF s.shapes = 0) = false := by simpa using hk
  (any_goals refine go lv78 0 ?_)
  all_goals (try simp only [go_sem])
 rw [if_neg (by simpa using hk)]
 have d0 : decide (Sh.checkF s.shapes = 0) = true := by simpa using hk
 have hc3 := hp.cells
 (any_goals refine go lv78 0 ?_)
 clear e1
 -- texts
 generalize hB0 : decide ((19 : Int) ≤ (s.texts.length : Int)) = B0
 refine Rn_loopA [1, 10, 90, 91, 92] (fun k : Nat => k ≤ s.texts.length) (fun k => ⟨203, [(1, stateP s), (10, Bv (B0 && tOk s.texts k)), (90, strsV s.texts), (91, Iv s.texts.length), (92, Iv k)], [(1, 2, .gone), (7, u, .gone), (16, u, .gone), (18, u, .gone), (20, u, .gone), (22, u, .gone)]⟩) (fun k => s.texts.length - k) 0 (Nat.zero_le _) ?_ rfl (by simp [trimT, memN, hB0, tOk])
 intro k hk
 by_cases hlt : k < s.texts.length
 case pos =>
  have c1 : decide ((k : Int) < (s.texts.length : Int)) = true := by rw [decide_eq_true_eq]; omega
  have t1 : Int.toNat (k : Int) = k := by omega
  have w1 : IntKind.i64.wrap ((k : Int) + 1) = ((k + 1 : Nat) : Int) := by rw [wrap_id] <;> omega
  obtain ⟨t, ht⟩ : ∃ t, s.texts[k]? = some t := ⟨s.texts[k], List.getElem?_eq_getElem hlt⟩
  have hg := getD_map strR ht ([] : List RV)
  have hm : List.drop 0 (List.take k (s.texts.map strR)) = (s.texts.take k).map strR := by rw [List.map_take]; rfl
  have lm : ((s.texts.take k).map strR).length = k := by simp; omega
  have ek : s.texts.getD k ⟨#[]⟩ = t := by simp [List.getD, ht]
  (any_goals refine go (dropL 24 lv78) 0 ?_)
  refine Rn_cutX (st' := ⟨203, [(1, stateP s), (10, Bv (B0 && tOk s.texts k && (decide (19 ≤ k) || decide (t = wordsL.getD k ⟨#[]⟩)))), (90, strsV s.texts), (91, Iv s.texts.length), (92, Iv k), (11, Iv k), (12, Sv t)], [(1, 2, .gone), (7, u, .gone), (16, u, .gone), (18, u, .gone), (20, u, .gone), (22, u, .gone)]⟩) True rfl ?_ fun _ => ?_
  ·cases hq : (B0 && tOk s.texts k) with
   | false =>
    simp only [Bool.false_and]
    (any_goals refine go lv78 0 ?_)
    all_goals (try simp only [go_sem])
    exact Lx.le (Le_keepA [1, 10, 90, 91, 92, 11, 12])
   | true =>
    by_cases h19 : 19 ≤ k
    ·have e2 : decide ((19 : Int) ≤ (k : Int)) = true := by rw [decide_eq_true_eq]; omega
     rw [decide_eq_true h19]
     (any_goals refine go lv78 0 ?_)
     all_goals (try simp only [go_sem])
     exact Lx.le (Le_keepA [1, 10, 90, 91, 92, 11, 12])
    ·have e2 : decide ((19 : Int) ≤ (k : Int)) = false := by rw [decide_eq_false_iff_not]; omega
     rw [decide_eq_false h19]
     obtain ⟨x, hx⟩ : ∃ x, wordsL[k]? = some x := ⟨wordsL[k]'(by rw [words_length]; omega), List.getElem?_eq_getElem _⟩
     have hgw := getD_map strR hx ([] : List RV)
     have ew : wordsL.getD k ⟨#[]⟩ = x := by simp [List.getD, hx]
     rw [ew]
     (any_goals refine go lv78 0 ?_)
     all_goals (try simp only [go_sem])
     exact Lx.le (Le_keepA [1, 10, 90, 91, 92, 11, 12])
  generalize hX : (B0 && tOk s.texts k && (decide (19 ≤ k) || decide (t = wordsL.getD k ⟨#[]⟩))) = X
  (any_goals refine go lv78 0 ?_)
  refine Rn_loopA [1, 10, 90, 91, 92, 12, 113, 114, 115] (fun i : Nat => i ≤ k) (fun i => ⟨203, [(1, stateP s), (10, Bv (X && ((s.texts.take k).take i).all fun u => !decide (t = u))), (90, strsV s.texts), (91, Iv s.texts.length), (92, Iv k), (12, Sv t), (113, strsV (s.texts.take k)), (114, Iv k), (115, Iv i)], [(1, 2, .gone), (7, u, .gone), (16, u, .gone), (18, u, .gone), (20, u, .gone), (22, u, .gone)]⟩) (fun i => k - i) 0 (Nat.zero_le _) ?_ rfl (by simp [trimT, memN])
  intro i hi
  by_cases hik : i < k
  case pos =>
   have c2 : decide ((i : Int) < (k : Int)) = true := by rw [decide_eq_true_eq]; omega
   have t2 : Int.toNat (i : Int) = i := by omega
   have w2 : IntKind.i64.wrap ((i : Int) + 1) = ((i + 1 : Nat) : Int) := by rw [wrap_id] <;> omega
   obtain ⟨y, hy⟩ : ∃ s', (s.texts.take k)[i]? = some s' := ⟨(s.texts.take k)[i]'(by simp; omega), List.getElem?_eq_getElem _⟩
   have hgy := getD_map strR hy ([] : List RV)
   (any_goals refine go lv78 0 ?_)
   refine ⟨i + 1, by omega, by omega, ?_⟩
   rw [all_take hy, ← Bool.and_assoc]
   exact Le_keepA [1, 10, 90, 91, 92, 12, 113, 114, 115]
  obtain rfl : i = k := by omega
  have c2 : decide ((i : Int) < (i : Int)) = false := by rw [decide_eq_false_iff_not]; omega
  have eX : (X && ((s.texts.take i).take i).all fun u => !decide (t = u)) = (B0 && tOk s.texts (i + 1)) := by
   rw [tOk_succ, ← hX]
   unfold tOne
   rw [ek, List.take_of_length_le (l := s.texts.take i) (by simp; omega)]
   simp only [Bool.and_assoc]
  rw [eX]
  (any_goals refine go lv78 0 ?_)
  refine ⟨i + 1, by omega, by omega, ?_⟩
  exact Le_keepA [1, 10, 90, 91, 92]
 obtain rfl : k = s.texts.length := by omega
 have e1 := each_end s.texts
 have hC0 : (B0 && tOk s.texts s.texts.length) = textsF s.texts := by
  unfold textsF
  by_cases h19 : 19 ≤ s.texts.length
  ·rw [← hB0, decide_eq_true (show (19 : Int) ≤ (s.texts.length : Int) by omega), decide_eq_true h19, Bool.true_and, Bool.true_and, tOk_all _ h19]
  ·rw [← hB0, decide_eq_false (show ¬ (19 : Int) ≤ (s.texts.length : Int) by omega), decide_eq_false h19]; rfl
 rw [hC0]
 clear hlt hC0 hB0 hk
 unfold rightH
 generalize textsF s.texts = C0
 (any_goals refine go lv78 0 ?_)
 clear e1
 -- shapes
 refine Rn_loopA [1, 10, 128, 129, 130] (fun x : Nat × Nat => x.1 ≤ s.shapes.length) (fun x => let k := x.1; let u := x.2; ⟨203, [(1, stateP s), (10, Bv (C0 && (s.shapes.take k).all (fun x => decide (x.2 < (s.texts.length : Int))))), (128, valsV s.shapes), (129, Iv s.shapes.length), (130, Iv k)], [(1, 2, .gone), (7, u, .gone), (16, u, .gone), (18, u, .gone), (20, u, .gone), (22, u, .gone)]⟩) (fun x => s.shapes.length - x.1) (0, u) (Nat.zero_le _) ?_ rfl (by simp [trimT, memN])
 clear u
 rintro ⟨k, u⟩ hk
 dsimp only at hk ⊢
 by_cases hlt : k < s.shapes.length
 case pos =>
  obtain ⟨x, hx, hg, h1, h2, hw⟩ := each_at valR s.shapes hlt (by omega)
  have eb := all_take (q := (fun x => decide (x.2 < (s.texts.length : Int)))) hx
  generalize (s.shapes.take k).all (fun x => decide (x.2 < (s.texts.length : Int))) = T at *
  (any_goals refine go lv78 0 ?_)
  refine ⟨(k + 1, u + 9), by dsimp only; omega, by dsimp only; omega, ?_⟩
  dsimp only
  rw [eb, ← Bool.and_assoc]
  exact Le_keepA [1, 10, 128, 129, 130]
 obtain rfl : k = s.shapes.length := by omega
 have e1 := each_end s.shapes
 rw [List.take_length]
 clear hlt hk
 generalize (C0 && s.shapes.all (fun x => decide (x.2 < (s.texts.length : Int)))) = C1
 (any_goals refine go lv78 0 ?_)
 clear e1
 -- cells
 refine Rn_loopA [1, 10, 145, 146, 147] (fun x : Nat × Nat => x.1 ≤ s.cells.length) (fun x => let k := x.1; let u := x.2; ⟨203, [(1, stateP s), (10, Bv (C1 && (s.cells.take k).all (cellF s))), (145, cellsV s.cells), (146, Iv s.cells.length), (147, Iv k)], [(1, 2, .gone), (7, u, .gone), (16, u, .gone), (18, u, .gone), (20, u, .gone), (22, u, .gone)]⟩) (fun x => s.cells.length - x.1) (0, u) (Nat.zero_le _) ?_ rfl (by simp [trimT, memN])
 clear u
 rintro ⟨k, u⟩ hk
 dsimp only at hk ⊢
 by_cases hlt : k < s.cells.length
 case pos =>
  obtain ⟨x, hx, hg, h1, h2, hw⟩ := each_at cellR s.cells hlt (by omega)
  have hcw := hs.cell x (List.mem_of_getElem? hx)
  have hcr := hrg x (List.mem_of_getElem? hx)
  have eb := all_take (q := (cellF s)) hx
  generalize (s.cells.take k).all (cellF s) = T at *
  (any_goals refine go lv78 0 ?_)
  refine ⟨(k + 1, u + 9), by dsimp only; omega, by dsimp only; omega, ?_⟩
  dsimp only
  rw [eb, ← Bool.and_assoc]
  exact Le_keepA [1, 10, 145, 146, 147]
 obtain rfl : k = s.cells.length := by omega
 have e1 := each_end s.cells
 rw [List.take_length]
 clear hlt hk
 generalize (C1 && s.cells.all (cellF s)) = C2
 (any_goals refine go lv78 0 ?_)
 clear e1
 -- what was said
 refine Rn_loopA [1, 10, 159, 160, 161] (fun x : Nat × Nat => x.1 ≤ s.said.length) (fun x => let k := x.1; let u := x.2; ⟨203, [(1, stateP s), (10, Bv (C2 && (s.said.take k).all (fun v => decide (v.1 = 4) && fitsF s v))), (159, valsV s.said), (160, Iv s.said.length), (161, Iv k)], [(1, 2, .gone), (7, u, .gone), (16, u, .gone), (18, u, .gone), (20, u, .gone), (22, u, .gone)]⟩) (fun x => s.said.length - x.1) (0, u) (Nat.zero_le _) ?_ rfl (by simp [trimT, memN])
 clear u
 rintro ⟨k, u⟩ hk
 dsimp only at hk ⊢
 by_cases hlt : k < s.said.length
 case pos =>
  obtain ⟨x, hx, hg, h1, h2, hw⟩ := each_at valR s.said hlt (by omega)
  have eb := all_take (q := (fun v => decide (v.1 = 4) && fitsF s v)) hx
  generalize (s.said.take k).all (fun v => decide (v.1 = 4) && fitsF s v) = T at *
  (any_goals refine go lv78 0 ?_)
  refine ⟨(k + 1, u + 9), by dsimp only; omega, by dsimp only; omega, ?_⟩
  dsimp only
  rw [eb, ← Bool.and_assoc, ← Bool.and_assoc]
  exact Le_keepA [1, 10, 159, 160, 161]
 obtain rfl : k = s.said.length := by omega
 have e1 := each_end s.said
 rw [List.take_length]
 clear hlt hk
 generalize (C2 && s.said.all (fun v => decide (v.1 = 4) && fitsF s v)) = C3
 (any_goals refine go lv78 0 ?_)
 clear e1
 -- ends
 refine Rn_loopA [1, 10, 178, 179, 180] (fun x : Nat × Nat => x.1 ≤ s.ends.length) (fun x => let k := x.1; let u := x.2; ⟨203, [(1, stateP s), (10, Bv (C3 && (s.ends.take k).all (fun e => decide (0 ≤ e.cell ∧ e.cell ≤ (s.cells.length : Int) - 1) && refF s e.fn 4))), (178, endsV s.ends), (179, Iv s.ends.length), (180, Iv k)], [(1, 2, .gone), (7, u, .gone), (16, u, .gone), (18, u, .gone), (20, u, .gone), (22, u, .gone)]⟩) (fun x => s.ends.length - x.1) (0, u) (Nat.zero_le _) ?_ rfl (by simp [trimT, memN])
 clear u
 rintro ⟨k, u⟩ hk
 dsimp only at hk ⊢
 by_cases hlt : k < s.ends.length
 case pos =>
  obtain ⟨x, hx, hg, h1, h2, hw⟩ := each_at endR s.ends hlt (by omega)
  have w1 : IntKind.i64.wrap ((s.cells.length : Int) - 1) = (s.cells.length : Int) - 1 := by rw [wrap_id] <;> omega
  have eb := all_take (q := (fun e => decide (0 ≤ e.cell ∧ e.cell ≤ (s.cells.length : Int) - 1) && refF s e.fn 4)) hx
  generalize (s.ends.take k).all (fun e => decide (0 ≤ e.cell ∧ e.cell ≤ (s.cells.length : Int) - 1) && refF s e.fn 4) = T at *
  (any_goals refine go lv78 0 ?_)
  refine ⟨(k + 1, u + 9), by dsimp only; omega, by dsimp only; omega, ?_⟩
  dsimp only
  rw [eb, ← Bool.and_assoc, ← Bool.and_assoc]
  exact Le_keepA [1, 10, 178, 179, 180]
 obtain rfl : k = s.ends.length := by omega
 have e1 := each_end s.ends
 rw [List.take_length]
 clear hlt hk
 generalize (C3 && s.ends.all (fun e => decide (0 ≤ e.cell ∧ e.cell ≤ (s.cells.length : Int) - 1) && refF s e.fn 4)) = C4
 cases C4
 all_goals
  (any_goals refine go lv78 0 ?_)
  all_goals (try simp only [go_sem])
theorem heapFault'_c (ca sh tx th en sd : List (List RV)) (aq sq : Int) (h : (ca = (cellsOf ca).map cellR ∧ sh = (valsOf sh).map valR ∧ tx = (strsOf tx).map strR ∧ th = (threadsOf th).map threadR ∧ en = (endsOf en).map endR ∧ sd = (valsOf sd).map valR) ∧ Swf ⟨cellsOf ca, valsOf sh, strsOf tx, threadsOf th, endsOf en, valsOf sd, aq, sq⟩ ∧ RegsOk ⟨cellsOf ca, valsOf sh, strsOf tx, threadsOf th, endsOf en, valsOf sd, aq, sq⟩) : FC Cx 78 [.agg [.r (.rs 4 ca), .r (.rs 2 sh), .r (.rs 1 tx), .r (.rs 5 th), .r (.rs 3 en), .r (.rs 2 sd), Iv aq, Iv sq]] [] (Iv (checkS ⟨cellsOf ca, valsOf sh, strsOf tx, threadsOf th, endsOf en, valsOf sd, aq, sq⟩)) [] := by
 have := heapFault_c ⟨cellsOf ca, valsOf sh, strsOf tx, threadsOf th, endsOf en, valsOf sd, aq, sq⟩ h.2.1 h.2.2
 rwa [state_at _ _ _ _ _ _ _ _ h.1] at this
def sp_heapFault' (args : List AV) (K : AV → Prop) : Prop := match args with
 | [.agg [.r (.rs 4 ca), .r (.rs 2 sh), .r (.rs 1 tx), .r (.rs 5 th), .r (.rs 3 en), .r (.rs 2 sd), .r (.v (.int .i64 aq)), .r (.v (.int .i64 sq))]] => ((ca = (cellsOf ca).map cellR ∧ sh = (valsOf sh).map valR ∧ tx = (strsOf tx).map strR ∧ th = (threadsOf th).map threadR ∧ en = (endsOf en).map endR ∧ sd = (valsOf sd).map valR) ∧ Swf ⟨cellsOf ca, valsOf sh, strsOf tx, threadsOf th, endsOf en, valsOf sd, aq, sq⟩ ∧ RegsOk ⟨cellsOf ca, valsOf sh, strsOf tx, threadsOf th, endsOf en, valsOf sd, aq, sq⟩) ∧ K (Iv (checkS ⟨cellsOf ca, valsOf sh, strsOf tx, threadsOf th, endsOf en, valsOf sd, aq, sq⟩))
 | _ => False
noncomputable abbrev ct_heapFault' : Ct Cx := .pure 78 sp_heapFault' fun args K h => by
 unfold sp_heapFault' at h; split at h; exact ⟨_, CallOk_of (heapFault'_c _ _ _ _ _ _ _ _ h.1) en78 rfl rfl, h.2⟩; exact h.elim
@[go_sem] theorem sp_heapFault'_eq : type_of% @sp_heapFault'.eq_def := @sp_heapFault'.eq_def
end Go.Proofs.YtbhnmolmkembdaaGreatDoor
namespace Go.Proofs.YtbhnmolmkembdaaGreatDoor
set_option linter.unusedVariables false
set_option linter.unusedSimpArgs false
set_option maxHeartbeats 10000000
open Go Go.ChangeShapes Go.WideShapes Go.ChangeAt Go.RowKit
theorem b_val : Tryz.prog.bytesOf 50 = 16 := by kernel_rfl
theorem Ro_frameB {row : List RV} (h : Ro Tryz.prog 61 row) : ∃ f : FrameT, row = frameR f ∧ Gwf f ∧ f.regs.length ≤ 8796093021952 := by
 obtain ⟨f, rfl, hf⟩ := Ro_frame h
 refine ⟨f, rfl, hf, ?_⟩
 obtain ⟨rows, hr, h1, h2⟩ := Ro_struct h Tryz.underlying61
 match rows, h1 with
 | [a, b, c, d, e, u, v], _ =>
  obtain ⟨x1, rfl, _⟩ := Ro_int (h2 0 _ a rfl rfl) Tryz.underlying3
  obtain ⟨x2, rfl, _⟩ := Ro_int (h2 1 _ b rfl rfl) Tryz.underlying3
  obtain ⟨x3, rfl, _⟩ := Ro_int (h2 2 _ c rfl rfl) Tryz.underlying3
  obtain ⟨x4, rfl, q4⟩ := Ro_int (h2 3 _ d rfl rfl) Tryz.underlying3
  obtain ⟨x5, rfl, _⟩ := Ro_vall (h2 4 _ e rfl rfl)
  have h6 := h2 5 _ u rfl rfl
  obtain ⟨x6, rfl, m6, _⟩ := Ro_list valR (fun v => WI v.2) h6 Tryz.underlying23 c_val fun r hr => Ro_vall hr
  have h7 := Ro_sliceB h6 Tryz.underlying23
  rw [b_val, List.length_map] at h7
  have e : f.regs.map valR = x6.map valR := by
   have h8 := congrArg (fun l => l[6]?) hr
   simpa [frameR, valR] using h8
  have e2 := congrArg List.length e
  rw [List.length_map, List.length_map] at e2
  have : reachBytes = 140737488351232 := rfl
  omega
theorem Ro_cellB {row : List RV} (h : Ro Tryz.prog 48 row) : ∃ c : CellT, row = cellR c ∧ Cwf c ∧ RegsC c := by
 obtain ⟨rows, rfl, h1, h2⟩ := Ro_struct h Tryz.underlying48
 match rows, h1 with
 | [a, b, u, v], _ =>
  obtain ⟨x1, rfl, _⟩ := Ro_int (h2 0 _ a rfl rfl) Tryz.underlying3
  obtain ⟨x2, rfl, _⟩ := Ro_int (h2 1 _ b rfl rfl) Tryz.underlying3
  obtain ⟨x3, rfl, m3, q3⟩ := Ro_list valR (fun v => WI v.2) (h2 2 _ u rfl rfl) Tryz.underlying23 c_val fun r hr => Ro_vall hr
  obtain ⟨x4, rfl, m4, q4⟩ := Ro_list frameR (fun f => Gwf f ∧ f.regs.length ≤ 8796093021952) (h2 3 _ v rfl rfl) Tryz.underlying46 c_frame fun r hr => Ro_frameB hr
  exact ⟨⟨x1, x2, x3, x4⟩, rfl, ⟨m3, q3, m4, fun f hf => (q4 f hf).1⟩, fun f hf => (q4 f hf).2⟩
theorem Ro_stateB {row : List RV} (h : Ro Tryz.prog 32 row) : ∃ s : StateT, row = stateR s ∧ Swf s ∧ RegsOk s := by
 obtain ⟨rows, rfl, h1, h2⟩ := Ro_struct h Tryz.underlying32
 match rows, h1 with
 | [a, b, c, d, e, u, v, w], _ =>
  obtain ⟨x1, rfl, m1, q1⟩ := Ro_list cellR (fun c => Cwf c ∧ RegsC c) (h2 0 _ a rfl rfl) Tryz.underlying27 c_cell fun r hr => Ro_cellB hr
  obtain ⟨x2, rfl, m2, q2⟩ := Ro_list valR Sh.WfS (h2 1 _ b rfl rfl) Tryz.underlying28 c_shape fun r hr => Ro_shapel hr
  obtain ⟨x3, rfl, m3, _⟩ := Ro_list strR (fun _ => True) (h2 2 _ c rfl rfl) Tryz.underlying24 c_str fun r hr => by
   obtain ⟨s, hs, _⟩ := Ro_str hr Tryz.underlying9
   exact ⟨s, hs, trivial⟩
  obtain ⟨x4, rfl, m4, q4⟩ := Ro_list threadR (fun t => t.frames.length ≤ 9223372036854775807 ∧ ∀ f ∈ t.frames, Gwf f) (h2 3 _ d rfl rfl) Tryz.underlying29 c_thread fun r hr => Ro_thread hr
  obtain ⟨x5, rfl, m5, _⟩ := Ro_list endR (fun _ => True) (h2 4 _ e rfl rfl) Tryz.underlying30 c_end fun r hr => Ro_end hr
  obtain ⟨x6, rfl, m6, _⟩ := Ro_list valR (fun v => WI v.2) (h2 5 _ u rfl rfl) Tryz.underlying23 c_val fun r hr => Ro_vall hr
  obtain ⟨x7, rfl, _⟩ := Ro_int (h2 6 _ v rfl rfl) Tryz.underlying3
  obtain ⟨x8, rfl, _⟩ := Ro_int (h2 7 _ w rfl rfl) Tryz.underlying3
  exact ⟨⟨x1, x2, x3, x4, x5, x6, x7, x8⟩, rfl, ⟨⟨m1, m2, m3, m4, m5, m6⟩, q2, fun c hc => (q1 c hc).1, q4⟩, fun c hc => (q1 c hc).2⟩
end Go.Proofs.YtbhnmolmkembdaaGreatDoor
namespace Go.Proofs.YtbhnmolmkembdaaGreatDoor
set_option linter.unusedVariables false
set_option linter.unusedSimpArgs false
set_option maxHeartbeats 10000000
open Go
set_option maxRecDepth 10000
def sp_same (args : List AV) (K : AV → Prop) : Prop := match args with
 | [.agg [.r (.rs 4 ca), .r (.rs 2 sh), .r (.rs 1 tx), .r (.rs 5 th), .r (.rs 3 en), .r (.rs 2 sd), .r (.v (.int .i64 aq)), .r (.v (.int .i64 sq))], .agg [.r (.rs 4 ca'), .r (.rs 2 sh'), .r (.rs 1 tx'), .r (.rs 5 th'), .r (.rs 3 en'), .r (.rs 2 sd'), .r (.v (.int .i64 aq')), .r (.v (.int .i64 sq'))]] => (((ca = (cellsOf ca).map cellR ∧ sh = (valsOf sh).map valR ∧ tx = (strsOf tx).map strR ∧ th = (threadsOf th).map threadR ∧ en = (endsOf en).map endR ∧ sd = (valsOf sd).map valR) ∧ (ca' = (cellsOf ca').map cellR ∧ sh' = (valsOf sh').map valR ∧ tx' = (strsOf tx').map strR ∧ th' = (threadsOf th').map threadR ∧ en' = (endsOf en').map endR ∧ sd' = (valsOf sd').map valR)) ∧ Swf ⟨cellsOf ca, valsOf sh, strsOf tx, threadsOf th, endsOf en, valsOf sd, aq, sq⟩ ∧ Swf ⟨cellsOf ca', valsOf sh', strsOf tx', threadsOf th', endsOf en', valsOf sd', aq', sq'⟩) ∧ K (Bv (decide (⟨cellsOf ca, valsOf sh, strsOf tx, threadsOf th, endsOf en, valsOf sd, aq, sq⟩ = (⟨cellsOf ca', valsOf sh', strsOf tx', threadsOf th', endsOf en', valsOf sd', aq', sq'⟩ : StateT))))
 | _ => False
attribute [go_sem] sp_same
@[go_sem] theorem threadsOf_cons (k1 k2 k3 k4 : IntKind) (sz : Nat) (fs : List (List RV)) (a b c d : Int) (xs : List (List RV)) : threadsOf ([.rs sz fs, .v (.int k1 a), .v (.int k2 b), .v (.int k3 c), .v (.int k4 d)] :: xs) = ⟨framesOf fs, a, b, (c, d)⟩ :: threadsOf xs := rfl
@[go_sem] theorem threadsOf_nil : threadsOf [] = [] := rfl
@[go_sem] theorem framesOf_cons (k1 k2 k3 k4 k5 k6 : IntKind) (s1 s2 : Nat) (us vs : List (List RV)) (a b c d e f : Int) (xs : List (List RV)) : framesOf ([.v (.int k1 a), .v (.int k2 b), .v (.int k3 c), .v (.int k4 d), .v (.int k5 e), .v (.int k6 f), .rs s1 us, .rs s2 vs] :: xs) = ⟨a, b, c, d, (e, f), valsOf us, triesOf vs⟩ :: framesOf xs := rfl
@[go_sem] theorem framesOf_nil : framesOf [] = [] := rfl
@[go_sem] theorem valsOf_nil : valsOf [] = [] := rfl
@[go_sem] theorem triesOf_nil : triesOf [] = [] := rfl
@[go_sem] theorem intsOf_cons (k : IntKind) (n : Int) (xs : List (List RV)) : intsOf ([.v (.int k n)] :: xs) = n :: intsOf xs := rfl
@[go_sem] theorem intsOf_nil : intsOf [] = [] := rfl
def elB : AV → RV → Prop
 | .r z, y => z = y
 | .nd _ s rs, y => y = .rs s (ndRs rs)
 | _, _ => False
def rowEB : List AV → List RV → Prop
 | [], [] => True
 | x :: l, y :: m => elB x y ∧ rowEB l m
 | _, _ => False
def rowsEB : List (List AV) → List (List RV) → Prop
 | [], [] => True
 | x :: l, y :: m => rowEB x y ∧ rowsEB l m
 | _, _ => False
theorem rowEB_len : ∀ {l : List AV} {m : List RV}, rowEB l m → m.length = l.length
 | [], [], _ => rfl
 | _ :: _, _ :: _, h => by simp [rowEB_len h.2]
 | [], _ :: _, h => h.elim
 | _ :: _, [], h => h.elim
theorem rowEB_at : ∀ {l : List AV} {m : List RV} {j : Nat} {x : AV} {y : RV}, rowEB l m → l[j]? = some x → m[j]? = some y → elB x y
 | x' :: l, y' :: m, 0, x, y, h, hx, hy => by simp at hx hy; subst hx; subst hy; exact h.1
 | x' :: l, y' :: m, j + 1, x, y, h, hx, hy => rowEB_at h.2 (by simpa using hx) (by simpa using hy)
 | [], _, _, _, _, _, hx, _ => by simp at hx
 | _ :: _, [], _, _, _, _, _, hy => by simp at hy
theorem rowsEB_len : ∀ {l : List (List AV)} {m : List (List RV)}, rowsEB l m → m.length = l.length
 | [], [], _ => rfl
 | _ :: _, _ :: _, h => by simp [rowsEB_len h.2]
 | [], _ :: _, h => h.elim
 | _ :: _, [], h => h.elim
theorem rowsEB_at : ∀ {l : List (List AV)} {m : List (List RV)} {j : Nat} {x : List AV} {y : List RV}, rowsEB l m → l[j]? = some x → m[j]? = some y → rowEB x y
 | x' :: l, y' :: m, 0, x, y, h, hx, hy => by simp at hx hy; subst hx; subst hy; exact h.1
 | x' :: l, y' :: m, j + 1, x, y, h, hx, hy => rowsEB_at h.2 (by simpa using hx) (by simpa using hy)
 | [], _, _, _, _, _, hx, _ => by simp at hx
 | _ :: _, [], _, _, _, _, _, hy => by simp at hy
theorem rowsEB_map {α : Type} {f : α → List AV} {g : α → List RV} (h : ∀ x, rowEB (f x) (g x)) : ∀ {l : List α}, rowsEB (l.map f) (l.map g)
 | [] => trivial
 | x :: _ => ⟨h x, rowsEB_map h⟩
theorem elB_bor {ls : List Loc} {st : St} {x : AV} {y : RV} (h : elB x y) : Bor ls st x (.r y) := by
 unfold elB at h
 split at h
 ·subst h; exact .same _ rfl
 ·subst h; exact .nd _ _ _
 ·exact h.elim
theorem Bor_rows {st : St} {k ver e sz : Nat} {rows : List (List AV)} {rowsR : List (List RV)} (hk : lookR k st.rs = (ver, .sl e sz rows)) (h : rowsEB rows rowsR) : Bor [.R k] st (.os k ver) (.r (.rs sz rowsR)) :=
 .sl k ver e sz rows rowsR (by simp) hk (rowsEB_len h) (fun i row rowR h1 h2 => rowEB_len (rowsEB_at h h1 h2)) fun i j row rowR x y h1 h2 h3 h4 => elB_bor (rowEB_at (rowsEB_at h h1 h2) h3 h4)
section
variable {C : Ctx} {T : List (Ct C)} {r : List It} {st st' : St} {K : Exit → St → Prop}
theorem Rn_frzX (k : Nat) {ver e sz : Nat} {rows : List (List AV)} (rowsR : List (List RV)) (hk : lookR k st.rs = (ver, .sl e sz rows)) (h : rowsEB rows rowsR) (hr : hasC r = true) (hst : ∀ K0 : St → Prop, Imp (K0 st') (K0 (frzSt k ver (.rs sz rowsR) st))) (hk2 : Rn C T r st' K) : Rn C T r st K := by
 have hk' := (hst fun s => Rn C T r s K).run hk2
 exact Rn_up hr (fun e a w ⟨ho, g, hs⟩ => ⟨ho, g, hs.frz hk (by simp) (Bor_rows hk h)⟩) hk'
end
abbrev cellC (c : CellT) : List AV := [Iv c.kind, Iv c.num, valsV c.vals, framesV c.frames]
abbrev threadC (t : ThreadT) : List AV := [framesV t.frames, Iv t.state, Iv t.on, Iv t.val.1, Iv t.val.2]
abbrev frameC (f : FrameT) : List AV := [Iv f.fn, Iv f.pc, Iv f.tov, Iv f.gen, Iv f.self.1, Iv f.self.2, valsV f.regs, triesV f.tries]
abbrev endC (e : EndT) : List AV := [Iv e.cell, Iv e.fn.1, Iv e.fn.2]
theorem flatCellC (l : List CellT) : ∀ row ∈ l.map cellC, withinL none0 row = true := fun row h => by
 obtain ⟨x, _, rfl⟩ := List.mem_map.1 h; rfl
@[go_sem] theorem okCellC : ∀ l : List CellT, okRows (l.map cellC) = true
 | [] => rfl
 | x :: l => okCellC l
@[go_sem] theorem roCellC (l : List CellT) : ((l.map cellR).map fun r => r.map AV.r) = l.map cellC := by rw [List.map_map]; rfl
theorem cloneCellP_rows (xs : List (List RV)) : ∀ row ∈ (cellsOf xs).map cellC, withinL none0 row = true := flatCellC _
theorem cloneCellP_c (xs : List (List RV)) (h : xs = (cellsOf xs).map cellR ∧ xs.length ≤ 1000000000) : FC Cx 21 [.r (.rs 4 xs)] [] (.os 0 1) [(0, 1, .sl 48 4 ((cellsOf xs).map cellC))] := by
 have hl : (cellsOf xs).length = xs.length := by simp [cellsOf]
 have hlenS : ∀ l : List CellT, (l.map cellC).length = l.length := fun l => List.length_map ..
 obtain ⟨h1, h2⟩ := h
 generalize cellsOf xs = l at h1 hl
 subst h1
 rw [← hl] at h2
 refine FCo_of [] (i := 0) [.os 0 1] Tryz.func21 rfl Tryz.ntmps21 (by simp) Tryz.results21 (flatCellC _) ?_
 refine rnst ?_
 iterate 8 (any_goals (first | (focus (intro K0; (try simp only [go_sem, *]); (first | exact ⟨id⟩ | (refine ⟨fun h => ?_⟩; (repeat' (first | exact h | refine And.intro ?_ ?_ | omega | rfl)); done)))) | (refine Rn_seq ?_) | (refine Rn_block ?_) | (apply Rn_region' lv21; (exact rfl)) | (refine Rn_region ?_) | (apply Rn_op'; (exact rfl)) | (refine Rn_o_nil ?_) | ((first | apply Rn_g | apply Rd_g); (exact rfl); (exact rfl); (focus (intro K0; (try simp only [lookT, ev, Nat.reduceEqDiff, ↓reduceIte]); exact ⟨id⟩))) | (with_reducible (first | apply RnG_yes | apply RdG_yes)) | ((with_reducible (first | apply RnG_t_no | apply RnG_f_no | apply RnG_un | apply RdG_t_no | apply RdG_f_no | apply RdG_un)); (exact rfl)) | ((first | apply RnG_never | apply RdG_never); (focus (intro K0; (try simp only [go_sem]); exact ⟨id⟩)); (exact rfl)) | ((first | apply RnG_lazy | apply RdG_lazy); (exact rfl); (focus (intro K0; (try simp only [go_sem]); exact ⟨id⟩)); (focus (first | (simp only [Nat.reduceLT]; done) | omega)); (focus (intro hw0; (try simp only [Bool.and_eq_true, Bool.not_eq_true', beq_true', beq_false'] at hw0); (focus (intro K0; (try simp only [go_sem, *]); (first | exact ⟨id⟩ | (refine ⟨fun h => ?_⟩; (repeat' (first | exact h | refine And.intro ?_ ?_ | omega | rfl)); done))))))) | (apply Rn_c; (focus (intro K0; (try simp only [lookT, ev, Nat.reduceEqDiff, ↓reduceIte]); exact ⟨id⟩))) | (with_reducible (first | refine RnC_t ?_ | refine RnC_f ?_)) | (refine Rn_skip ?_) | (refine Rn_exit rfl ?_) | (refine Rn_b ?_) | (apply Rn_draw' lv21; (exact rfl)) | (refine Rn_draw ?_) | (apply Rd_op'; (exact rfl)) | (refine Rd_nil (by kernel_rfl) ?_) | ((with_reducible (first | refine RnG_split (fun h => ?_) (fun h => ?_) | refine RdG_split (fun h => ?_) (fun h => ?_) | refine RnC_split (fun h => ?_) (fun h => ?_))) <;> (have h' := h) <;> (try simp only [decide_eq_true_eq, decide_eq_false_iff_not, Bool.not_eq_true', Bool.not_eq_false', Bool.and_eq_true, Bool.or_eq_true, Bool.or_eq_false_iff, beq_iff_eq, bne_iff_ne, ne_eq, Bool.not_true, Bool.not_false, not_false_eq_true, reduceCtorEq, beq_eq_false_iff_ne, bne_eq_false_iff_eq] at h') <;> (first | apply Rn_st | apply Rd_st)) | (refine Rn_out_ck rfl rfl ?_) | (first | refine Rn_ret_ck ?_ | refine Rn_ret ?_ | refine Rn_nil_then ?_) | (refine LoopN_step (T := []) ?_) | (refine Rn_nil ?_)))
 ·intro K0; (try simp only [go_sem]); exact ⟨id⟩
 refine Rn_isnil (sz := 4) rfl (.inl rfl) rfl rfl (Nat.le_of_ble_eq_true rfl) rfl rfl (by kernel_rfl) (fun q hq => ?_)
 apply Rn_o_st
 ·intro K0; (try simp only [go_sem]); exact ⟨id⟩
 cases q with
 | true =>
  have h0 : l = [] := by have := hq rfl; simpa using this
  subst h0
  (any_goals refine go lv21 0 ?_)
  all_goals (try simp only [go_sem])
 | false =>
  clear hq
  (any_goals refine go lv21 0 ?_)
  all_goals (try simp only [go_sem])
def sp_cloneCellP (st : St) (d : Nat) (args : List AV) (K : AV → List Loc → List (Loc × Cont) → Prop) : Prop := match args with
 | [.r (.rs 4 xs)] => (xs = (cellsOf xs).map cellR ∧ xs.length ≤ 1000000000) ∧ K (ren (fun _ => d) (fun _ => st.cur d) (.os 0 1)) [.R d] [(.R d, .s (1 + st.cur d) (.sl 48 4 ((cellsOf xs).map cellC)))]
 | _ => False
theorem sp_cloneCellP_ok (st : St) (d : Nat) (args : List AV) (K : AV → List Loc → List (Loc × Cont) → Prop) (h : sp_cloneCellP st d args K) : ∃ r ls outs, CallR Cx 21 st args r ls outs ∧ K r ls outs := by
 unfold sp_cloneCellP at h
 split at h
 ·exact ⟨_, _, _, CallR.own (cloneCellP_c _ h.1) rfl (cloneCellP_rows _) rfl d, h.2⟩
 ·exact h.elim
noncomputable def ct_cloneCellP : Ct Cx := .res 21 sp_cloneCellP en21 sp_cloneCellP_ok
@[go_sem] theorem ct_cloneCellP_g : ct_cloneCellP.g = 21 := rfl
@[go_sem] theorem ct_cloneCellP_run (c : Call) (fop : Operand) (caps : List AV) (o : Oper) (st : St) (K : List Loc → List (Loc × Cont) → Prop) : ct_cloneCellP.run c fop caps o st K = callG sp_cloneCellP c fop caps o st K := rfl
@[go_sem] theorem sp_cloneCellP_eq : type_of% @sp_cloneCellP.eq_def := @sp_cloneCellP.eq_def
theorem flatThreadC (l : List ThreadT) : ∀ row ∈ l.map threadC, withinL none0 row = true := fun row h => by
 obtain ⟨x, _, rfl⟩ := List.mem_map.1 h; rfl
@[go_sem] theorem okThreadC : ∀ l : List ThreadT, okRows (l.map threadC) = true
 | [] => rfl
 | x :: l => okThreadC l
@[go_sem] theorem roThreadC (l : List ThreadT) : ((l.map threadR).map fun r => r.map AV.r) = l.map threadC := by rw [List.map_map]; rfl
theorem cloneThreadP_rows (xs : List (List RV)) : ∀ row ∈ (threadsOf xs).map threadC, withinL none0 row = true := flatThreadC _
theorem cloneThreadP_c (xs : List (List RV)) (h : xs = (threadsOf xs).map threadR ∧ xs.length ≤ 1000000000) : FC Cx 25 [.r (.rs 5 xs)] [] (.os 0 1) [(0, 1, .sl 56 5 ((threadsOf xs).map threadC))] := by
 have hl : (threadsOf xs).length = xs.length := by simp [threadsOf]
 have hlenS : ∀ l : List ThreadT, (l.map threadC).length = l.length := fun l => List.length_map ..
 obtain ⟨h1, h2⟩ := h
 generalize threadsOf xs = l at h1 hl
 subst h1
 rw [← hl] at h2
 refine FCo_of [] (i := 0) [.os 0 1] Tryz.func25 rfl Tryz.ntmps25 (by simp) Tryz.results25 (flatThreadC _) ?_
 refine rnst ?_
 iterate 8 (any_goals (first | (focus (intro K0; (try simp only [go_sem, *]); (first | exact ⟨id⟩ | (refine ⟨fun h => ?_⟩; (repeat' (first | exact h | refine And.intro ?_ ?_ | omega | rfl)); done)))) | (refine Rn_seq ?_) | (refine Rn_block ?_) | (apply Rn_region' lv25; (exact rfl)) | (refine Rn_region ?_) | (apply Rn_op'; (exact rfl)) | (refine Rn_o_nil ?_) | ((first | apply Rn_g | apply Rd_g); (exact rfl); (exact rfl); (focus (intro K0; (try simp only [lookT, ev, Nat.reduceEqDiff, ↓reduceIte]); exact ⟨id⟩))) | (with_reducible (first | apply RnG_yes | apply RdG_yes)) | ((with_reducible (first | apply RnG_t_no | apply RnG_f_no | apply RnG_un | apply RdG_t_no | apply RdG_f_no | apply RdG_un)); (exact rfl)) | ((first | apply RnG_never | apply RdG_never); (focus (intro K0; (try simp only [go_sem]); exact ⟨id⟩)); (exact rfl)) | ((first | apply RnG_lazy | apply RdG_lazy); (exact rfl); (focus (intro K0; (try simp only [go_sem]); exact ⟨id⟩)); (focus (first | (simp only [Nat.reduceLT]; done) | omega)); (focus (intro hw0; (try simp only [Bool.and_eq_true, Bool.not_eq_true', beq_true', beq_false'] at hw0); (focus (intro K0; (try simp only [go_sem, *]); (first | exact ⟨id⟩ | (refine ⟨fun h => ?_⟩; (repeat' (first | exact h | refine And.intro ?_ ?_ | omega | rfl)); done))))))) | (apply Rn_c; (focus (intro K0; (try simp only [lookT, ev, Nat.reduceEqDiff, ↓reduceIte]); exact ⟨id⟩))) | (with_reducible (first | refine RnC_t ?_ | refine RnC_f ?_)) | (refine Rn_skip ?_) | (refine Rn_exit rfl ?_) | (refine Rn_b ?_) | (apply Rn_draw' lv25; (exact rfl)) | (refine Rn_draw ?_) | (apply Rd_op'; (exact rfl)) | (refine Rd_nil (by kernel_rfl) ?_) | ((with_reducible (first | refine RnG_split (fun h => ?_) (fun h => ?_) | refine RdG_split (fun h => ?_) (fun h => ?_) | refine RnC_split (fun h => ?_) (fun h => ?_))) <;> (have h' := h) <;> (try simp only [decide_eq_true_eq, decide_eq_false_iff_not, Bool.not_eq_true', Bool.not_eq_false', Bool.and_eq_true, Bool.or_eq_true, Bool.or_eq_false_iff, beq_iff_eq, bne_iff_ne, ne_eq, Bool.not_true, Bool.not_false, not_false_eq_true, reduceCtorEq, beq_eq_false_iff_ne, bne_eq_false_iff_eq] at h') <;> (first | apply Rn_st | apply Rd_st)) | (refine Rn_out_ck rfl rfl ?_) | (first | refine Rn_ret_ck ?_ | refine Rn_ret ?_ | refine Rn_nil_then ?_) | (refine LoopN_step (T := []) ?_) | (refine Rn_nil ?_)))
 ·intro K0; (try simp only [go_sem]); exact ⟨id⟩
 refine Rn_isnil (sz := 5) rfl (.inl rfl) rfl rfl (Nat.le_of_ble_eq_true rfl) rfl rfl (by kernel_rfl) (fun q hq => ?_)
 apply Rn_o_st
 ·intro K0; (try simp only [go_sem]); exact ⟨id⟩
 cases q with
 | true =>
  have h0 : l = [] := by have := hq rfl; simpa using this
  subst h0
  (any_goals refine go lv25 0 ?_)
  all_goals (try simp only [go_sem])
 | false =>
  clear hq
  (any_goals refine go lv25 0 ?_)
  all_goals (try simp only [go_sem])
def sp_cloneThreadP (st : St) (d : Nat) (args : List AV) (K : AV → List Loc → List (Loc × Cont) → Prop) : Prop := match args with
 | [.r (.rs 5 xs)] => (xs = (threadsOf xs).map threadR ∧ xs.length ≤ 1000000000) ∧ K (ren (fun _ => d) (fun _ => st.cur d) (.os 0 1)) [.R d] [(.R d, .s (1 + st.cur d) (.sl 56 5 ((threadsOf xs).map threadC)))]
 | _ => False
theorem sp_cloneThreadP_ok (st : St) (d : Nat) (args : List AV) (K : AV → List Loc → List (Loc × Cont) → Prop) (h : sp_cloneThreadP st d args K) : ∃ r ls outs, CallR Cx 25 st args r ls outs ∧ K r ls outs := by
 unfold sp_cloneThreadP at h
 split at h
 ·exact ⟨_, _, _, CallR.own (cloneThreadP_c _ h.1) rfl (cloneThreadP_rows _) rfl d, h.2⟩
 ·exact h.elim
noncomputable def ct_cloneThreadP : Ct Cx := .res 25 sp_cloneThreadP en25 sp_cloneThreadP_ok
@[go_sem] theorem ct_cloneThreadP_g : ct_cloneThreadP.g = 25 := rfl
@[go_sem] theorem ct_cloneThreadP_run (c : Call) (fop : Operand) (caps : List AV) (o : Oper) (st : St) (K : List Loc → List (Loc × Cont) → Prop) : ct_cloneThreadP.run c fop caps o st K = callG sp_cloneThreadP c fop caps o st K := rfl
@[go_sem] theorem sp_cloneThreadP_eq : type_of% @sp_cloneThreadP.eq_def := @sp_cloneThreadP.eq_def
theorem flatFrameC (l : List FrameT) : ∀ row ∈ l.map frameC, withinL none0 row = true := fun row h => by
 obtain ⟨x, _, rfl⟩ := List.mem_map.1 h; rfl
@[go_sem] theorem okFrameC : ∀ l : List FrameT, okRows (l.map frameC) = true
 | [] => rfl
 | x :: l => okFrameC l
@[go_sem] theorem roFrameC (l : List FrameT) : ((l.map frameR).map fun r => r.map AV.r) = l.map frameC := by rw [List.map_map]; rfl
theorem cloneFrameP_rows (xs : List (List RV)) : ∀ row ∈ (framesOf xs).map frameC, withinL none0 row = true := flatFrameC _
theorem cloneFrameP_c (xs : List (List RV)) (h : xs = (framesOf xs).map frameR ∧ xs.length ≤ 1000000000) : FC Cx 26 [.r (.rs 8 xs)] [] (.os 0 1) [(0, 1, .sl 61 8 ((framesOf xs).map frameC))] := by
 have hl : (framesOf xs).length = xs.length := by simp [framesOf]
 have hlenS : ∀ l : List FrameT, (l.map frameC).length = l.length := fun l => List.length_map ..
 obtain ⟨h1, h2⟩ := h
 generalize framesOf xs = l at h1 hl
 subst h1
 rw [← hl] at h2
 refine FCo_of [] (i := 0) [.os 0 1] Tryz.func26 rfl Tryz.ntmps26 (by simp) Tryz.results26 (flatFrameC _) ?_
 refine rnst ?_
 iterate 8 (any_goals (first | (focus (intro K0; (try simp only [go_sem, *]); (first | exact ⟨id⟩ | (refine ⟨fun h => ?_⟩; (repeat' (first | exact h | refine And.intro ?_ ?_ | omega | rfl)); done)))) | (refine Rn_seq ?_) | (refine Rn_block ?_) | (apply Rn_region' lv26; (exact rfl)) | (refine Rn_region ?_) | (apply Rn_op'; (exact rfl)) | (refine Rn_o_nil ?_) | ((first | apply Rn_g | apply Rd_g); (exact rfl); (exact rfl); (focus (intro K0; (try simp only [lookT, ev, Nat.reduceEqDiff, ↓reduceIte]); exact ⟨id⟩))) | (with_reducible (first | apply RnG_yes | apply RdG_yes)) | ((with_reducible (first | apply RnG_t_no | apply RnG_f_no | apply RnG_un | apply RdG_t_no | apply RdG_f_no | apply RdG_un)); (exact rfl)) | ((first | apply RnG_never | apply RdG_never); (focus (intro K0; (try simp only [go_sem]); exact ⟨id⟩)); (exact rfl)) | ((first | apply RnG_lazy | apply RdG_lazy); (exact rfl); (focus (intro K0; (try simp only [go_sem]); exact ⟨id⟩)); (focus (first | (simp only [Nat.reduceLT]; done) | omega)); (focus (intro hw0; (try simp only [Bool.and_eq_true, Bool.not_eq_true', beq_true', beq_false'] at hw0); (focus (intro K0; (try simp only [go_sem, *]); (first | exact ⟨id⟩ | (refine ⟨fun h => ?_⟩; (repeat' (first | exact h | refine And.intro ?_ ?_ | omega | rfl)); done))))))) | (apply Rn_c; (focus (intro K0; (try simp only [lookT, ev, Nat.reduceEqDiff, ↓reduceIte]); exact ⟨id⟩))) | (with_reducible (first | refine RnC_t ?_ | refine RnC_f ?_)) | (refine Rn_skip ?_) | (refine Rn_exit rfl ?_) | (refine Rn_b ?_) | (apply Rn_draw' lv26; (exact rfl)) | (refine Rn_draw ?_) | (apply Rd_op'; (exact rfl)) | (refine Rd_nil (by kernel_rfl) ?_) | ((with_reducible (first | refine RnG_split (fun h => ?_) (fun h => ?_) | refine RdG_split (fun h => ?_) (fun h => ?_) | refine RnC_split (fun h => ?_) (fun h => ?_))) <;> (have h' := h) <;> (try simp only [decide_eq_true_eq, decide_eq_false_iff_not, Bool.not_eq_true', Bool.not_eq_false', Bool.and_eq_true, Bool.or_eq_true, Bool.or_eq_false_iff, beq_iff_eq, bne_iff_ne, ne_eq, Bool.not_true, Bool.not_false, not_false_eq_true, reduceCtorEq, beq_eq_false_iff_ne, bne_eq_false_iff_eq] at h') <;> (first | apply Rn_st | apply Rd_st)) | (refine Rn_out_ck rfl rfl ?_) | (first | refine Rn_ret_ck ?_ | refine Rn_ret ?_ | refine Rn_nil_then ?_) | (refine LoopN_step (T := []) ?_) | (refine Rn_nil ?_)))
 ·intro K0; (try simp only [go_sem]); exact ⟨id⟩
 refine Rn_isnil (sz := 8) rfl (.inl rfl) rfl rfl (Nat.le_of_ble_eq_true rfl) rfl rfl (by kernel_rfl) (fun q hq => ?_)
 apply Rn_o_st
 ·intro K0; (try simp only [go_sem]); exact ⟨id⟩
 cases q with
 | true =>
  have h0 : l = [] := by have := hq rfl; simpa using this
  subst h0
  (any_goals refine go lv26 0 ?_)
  all_goals (try simp only [go_sem])
 | false =>
  clear hq
  (any_goals refine go lv26 0 ?_)
  all_goals (try simp only [go_sem])
def sp_cloneFrameP (st : St) (d : Nat) (args : List AV) (K : AV → List Loc → List (Loc × Cont) → Prop) : Prop := match args with
 | [.r (.rs 8 xs)] => (xs = (framesOf xs).map frameR ∧ xs.length ≤ 1000000000) ∧ K (ren (fun _ => d) (fun _ => st.cur d) (.os 0 1)) [.R d] [(.R d, .s (1 + st.cur d) (.sl 61 8 ((framesOf xs).map frameC)))]
 | _ => False
theorem sp_cloneFrameP_ok (st : St) (d : Nat) (args : List AV) (K : AV → List Loc → List (Loc × Cont) → Prop) (h : sp_cloneFrameP st d args K) : ∃ r ls outs, CallR Cx 26 st args r ls outs ∧ K r ls outs := by
 unfold sp_cloneFrameP at h
 split at h
 ·exact ⟨_, _, _, CallR.own (cloneFrameP_c _ h.1) rfl (cloneFrameP_rows _) rfl d, h.2⟩
 ·exact h.elim
noncomputable def ct_cloneFrameP : Ct Cx := .res 26 sp_cloneFrameP en26 sp_cloneFrameP_ok
@[go_sem] theorem ct_cloneFrameP_g : ct_cloneFrameP.g = 26 := rfl
@[go_sem] theorem ct_cloneFrameP_run (c : Call) (fop : Operand) (caps : List AV) (o : Oper) (st : St) (K : List Loc → List (Loc × Cont) → Prop) : ct_cloneFrameP.run c fop caps o st K = callG sp_cloneFrameP c fop caps o st K := rfl
@[go_sem] theorem sp_cloneFrameP_eq : type_of% @sp_cloneFrameP.eq_def := @sp_cloneFrameP.eq_def
theorem flatShapeC (l : List (Int × Int)) : ∀ row ∈ l.map valC, withinL none0 row = true := fun row h => by
 obtain ⟨x, _, rfl⟩ := List.mem_map.1 h; rfl
@[go_sem] theorem roShapeC (l : List (Int × Int)) : ((l.map valR).map fun r => r.map AV.r) = l.map valC := by rw [List.map_map]; rfl
theorem cloneShapeP_c (xs : List (List RV)) (h : xs = (valsOf xs).map valR ∧ xs.length ≤ 1000000000) : FC Cx 139 [.r (.rs 2 xs)] [] (.os 0 1) [(0, 1, .sl 97 2 ((valsOf xs).map valC))] := by
 have hl : (valsOf xs).length = xs.length := by simp [valsOf]
 have hlenS : ∀ l : List (Int × Int), (l.map valC).length = l.length := fun l => List.length_map ..
 obtain ⟨h1, h2⟩ := h
 generalize valsOf xs = l at h1 hl
 subst h1
 rw [← hl] at h2
 refine FCo_of [] (i := 0) [.os 0 1] Tryz.func139 rfl Tryz.ntmps139 (by simp) Tryz.results139 (flatShapeC _) ?_
 refine rnst ?_
 iterate 8 (any_goals (first | (focus (intro K0; (try simp only [go_sem, *]); (first | exact ⟨id⟩ | (refine ⟨fun h => ?_⟩; (repeat' (first | exact h | refine And.intro ?_ ?_ | omega | rfl)); done)))) | (refine Rn_seq ?_) | (refine Rn_block ?_) | (apply Rn_region' lv139; (exact rfl)) | (refine Rn_region ?_) | (apply Rn_op'; (exact rfl)) | (refine Rn_o_nil ?_) | ((first | apply Rn_g | apply Rd_g); (exact rfl); (exact rfl); (focus (intro K0; (try simp only [lookT, ev, Nat.reduceEqDiff, ↓reduceIte]); exact ⟨id⟩))) | (with_reducible (first | apply RnG_yes | apply RdG_yes)) | ((with_reducible (first | apply RnG_t_no | apply RnG_f_no | apply RnG_un | apply RdG_t_no | apply RdG_f_no | apply RdG_un)); (exact rfl)) | ((first | apply RnG_never | apply RdG_never); (focus (intro K0; (try simp only [go_sem]); exact ⟨id⟩)); (exact rfl)) | ((first | apply RnG_lazy | apply RdG_lazy); (exact rfl); (focus (intro K0; (try simp only [go_sem]); exact ⟨id⟩)); (focus (first | (simp only [Nat.reduceLT]; done) | omega)); (focus (intro hw0; (try simp only [Bool.and_eq_true, Bool.not_eq_true', beq_true', beq_false'] at hw0); (focus (intro K0; (try simp only [go_sem, *]); (first | exact ⟨id⟩ | (refine ⟨fun h => ?_⟩; (repeat' (first | exact h | refine And.intro ?_ ?_ | omega | rfl)); done))))))) | (apply Rn_c; (focus (intro K0; (try simp only [lookT, ev, Nat.reduceEqDiff, ↓reduceIte]); exact ⟨id⟩))) | (with_reducible (first | refine RnC_t ?_ | refine RnC_f ?_)) | (refine Rn_skip ?_) | (refine Rn_exit rfl ?_) | (refine Rn_b ?_) | (apply Rn_draw' lv139; (exact rfl)) | (refine Rn_draw ?_) | (apply Rd_op'; (exact rfl)) | (refine Rd_nil (by kernel_rfl) ?_) | ((with_reducible (first | refine RnG_split (fun h => ?_) (fun h => ?_) | refine RdG_split (fun h => ?_) (fun h => ?_) | refine RnC_split (fun h => ?_) (fun h => ?_))) <;> (have h' := h) <;> (try simp only [decide_eq_true_eq, decide_eq_false_iff_not, Bool.not_eq_true', Bool.not_eq_false', Bool.and_eq_true, Bool.or_eq_true, Bool.or_eq_false_iff, beq_iff_eq, bne_iff_ne, ne_eq, Bool.not_true, Bool.not_false, not_false_eq_true, reduceCtorEq, beq_eq_false_iff_ne, bne_eq_false_iff_eq] at h') <;> (first | apply Rn_st | apply Rd_st)) | (refine Rn_out_ck rfl rfl ?_) | (first | refine Rn_ret_ck ?_ | refine Rn_ret ?_ | refine Rn_nil_then ?_) | (refine LoopN_step (T := []) ?_) | (refine Rn_nil ?_)))
 ·intro K0; (try simp only [go_sem]); exact ⟨id⟩
 refine Rn_isnil (sz := 2) rfl (.inl rfl) rfl rfl (Nat.le_of_ble_eq_true rfl) rfl rfl (by kernel_rfl) (fun q hq => ?_)
 apply Rn_o_st
 ·intro K0; (try simp only [go_sem]); exact ⟨id⟩
 cases q with
 | true =>
  have h0 : l = [] := by have := hq rfl; simpa using this
  subst h0
  (any_goals refine go lv139 0 ?_)
  all_goals (try simp only [go_sem])
 | false =>
  clear hq
  (any_goals refine go lv139 0 ?_)
  all_goals (try simp only [go_sem])
theorem cloneShape_c (xs : List (List RV)) (h : xs = (valsOf xs).map valR ∧ xs.length ≤ 1000000000) : FC Cx 139 [.r (.rs 2 xs)] [] (valsV (valsOf xs)) [] := (cloneShapeP_c xs h).freeze1 (roShapeC _).symm
def sp_cloneShape (args : List AV) (K : AV → Prop) : Prop := match args with
 | [.r (.rs 2 xs)] => (xs = (valsOf xs).map valR ∧ xs.length ≤ 1000000000) ∧ K (valsV (valsOf xs))
 | _ => False
noncomputable abbrev ct_cloneShape : Ct Cx := .pure 139 sp_cloneShape fun args K h => by
 unfold sp_cloneShape at h; split at h; exact ⟨_, CallOk_of (cloneShape_c _ h.1) en139 rfl rfl, h.2⟩; exact h.elim
@[go_sem] theorem sp_cloneShape_eq : type_of% @sp_cloneShape.eq_def := @sp_cloneShape.eq_def
theorem flatEndC (l : List EndT) : ∀ row ∈ l.map endC, withinL none0 row = true := fun row h => by
 obtain ⟨x, _, rfl⟩ := List.mem_map.1 h; rfl
@[go_sem] theorem okEndC : ∀ l : List EndT, okRows (l.map endC) = true
 | [] => rfl
 | x :: l => okEndC l
@[go_sem] theorem roEndC (l : List EndT) : ((l.map endR).map fun r => r.map AV.r) = l.map endC := by rw [List.map_map]; rfl
theorem cloneEndP_c (xs : List (List RV)) (h : xs = (endsOf xs).map endR ∧ xs.length ≤ 1000000000) : FC Cx 140 [.r (.rs 3 xs)] [] (.os 0 1) [(0, 1, .sl 127 3 ((endsOf xs).map endC))] := by
 have hl : (endsOf xs).length = xs.length := by simp [endsOf]
 have hlenS : ∀ l : List EndT, (l.map endC).length = l.length := fun l => List.length_map ..
 obtain ⟨h1, h2⟩ := h
 generalize endsOf xs = l at h1 hl
 subst h1
 rw [← hl] at h2
 refine FCo_of [] (i := 0) [.os 0 1] Tryz.func140 rfl Tryz.ntmps140 (by simp) Tryz.results140 (flatEndC _) ?_
 refine rnst ?_
 iterate 8 (any_goals (first | (focus (intro K0; (try simp only [go_sem, *]); (first | exact ⟨id⟩ | (refine ⟨fun h => ?_⟩; (repeat' (first | exact h | refine And.intro ?_ ?_ | omega | rfl)); done)))) | (refine Rn_seq ?_) | (refine Rn_block ?_) | (apply Rn_region' lv140; (exact rfl)) | (refine Rn_region ?_) | (apply Rn_op'; (exact rfl)) | (refine Rn_o_nil ?_) | ((first | apply Rn_g | apply Rd_g); (exact rfl); (exact rfl); (focus (intro K0; (try simp only [lookT, ev, Nat.reduceEqDiff, ↓reduceIte]); exact ⟨id⟩))) | (with_reducible (first | apply RnG_yes | apply RdG_yes)) | ((with_reducible (first | apply RnG_t_no | apply RnG_f_no | apply RnG_un | apply RdG_t_no | apply RdG_f_no | apply RdG_un)); (exact rfl)) | ((first | apply RnG_never | apply RdG_never); (focus (intro K0; (try simp only [go_sem]); exact ⟨id⟩)); (exact rfl)) | ((first | apply RnG_lazy | apply RdG_lazy); (exact rfl); (focus (intro K0; (try simp only [go_sem]); exact ⟨id⟩)); (focus (first | (simp only [Nat.reduceLT]; done) | omega)); (focus (intro hw0; (try simp only [Bool.and_eq_true, Bool.not_eq_true', beq_true', beq_false'] at hw0); (focus (intro K0; (try simp only [go_sem, *]); (first | exact ⟨id⟩ | (refine ⟨fun h => ?_⟩; (repeat' (first | exact h | refine And.intro ?_ ?_ | omega | rfl)); done))))))) | (apply Rn_c; (focus (intro K0; (try simp only [lookT, ev, Nat.reduceEqDiff, ↓reduceIte]); exact ⟨id⟩))) | (with_reducible (first | refine RnC_t ?_ | refine RnC_f ?_)) | (refine Rn_skip ?_) | (refine Rn_exit rfl ?_) | (refine Rn_b ?_) | (apply Rn_draw' lv140; (exact rfl)) | (refine Rn_draw ?_) | (apply Rd_op'; (exact rfl)) | (refine Rd_nil (by kernel_rfl) ?_) | ((with_reducible (first | refine RnG_split (fun h => ?_) (fun h => ?_) | refine RdG_split (fun h => ?_) (fun h => ?_) | refine RnC_split (fun h => ?_) (fun h => ?_))) <;> (have h' := h) <;> (try simp only [decide_eq_true_eq, decide_eq_false_iff_not, Bool.not_eq_true', Bool.not_eq_false', Bool.and_eq_true, Bool.or_eq_true, Bool.or_eq_false_iff, beq_iff_eq, bne_iff_ne, ne_eq, Bool.not_true, Bool.not_false, not_false_eq_true, reduceCtorEq, beq_eq_false_iff_ne, bne_eq_false_iff_eq] at h') <;> (first | apply Rn_st | apply Rd_st)) | (refine Rn_out_ck rfl rfl ?_) | (first | refine Rn_ret_ck ?_ | refine Rn_ret ?_ | refine Rn_nil_then ?_) | (refine LoopN_step (T := []) ?_) | (refine Rn_nil ?_)))
 ·intro K0; (try simp only [go_sem]); exact ⟨id⟩
 refine Rn_isnil (sz := 3) rfl (.inl rfl) rfl rfl (Nat.le_of_ble_eq_true rfl) rfl rfl (by kernel_rfl) (fun q hq => ?_)
 apply Rn_o_st
 ·intro K0; (try simp only [go_sem]); exact ⟨id⟩
 cases q with
 | true =>
  have h0 : l = [] := by have := hq rfl; simpa using this
  subst h0
  (any_goals refine go lv140 0 ?_)
  all_goals (try simp only [go_sem])
 | false =>
  clear hq
  (any_goals refine go lv140 0 ?_)
  all_goals (try simp only [go_sem])
theorem cloneEnd_c (xs : List (List RV)) (h : xs = (endsOf xs).map endR ∧ xs.length ≤ 1000000000) : FC Cx 140 [.r (.rs 3 xs)] [] (endsV (endsOf xs)) [] := (cloneEndP_c xs h).freeze1 (roEndC _).symm
def sp_cloneEnd (args : List AV) (K : AV → Prop) : Prop := match args with
 | [.r (.rs 3 xs)] => (xs = (endsOf xs).map endR ∧ xs.length ≤ 1000000000) ∧ K (endsV (endsOf xs))
 | _ => False
noncomputable abbrev ct_cloneEnd : Ct Cx := .pure 140 sp_cloneEnd fun args K h => by
 unfold sp_cloneEnd at h; split at h; exact ⟨_, CallOk_of (cloneEnd_c _ h.1) en140 rfl rfl, h.2⟩; exact h.elim
@[go_sem] theorem sp_cloneEnd_eq : type_of% @sp_cloneEnd.eq_def := @sp_cloneEnd.eq_def
abbrev valN (v : Int × Int) : List NV := [.r (.v (.int .i64 v.1)), .r (.v (.int .i64 v.2))]
abbrev frameM (f : FrameT) : List NV := [.r (.v (.int .i64 f.fn)), .r (.v (.int .i64 f.pc)), .r (.v (.int .i64 f.tov)), .r (.v (.int .i64 f.gen)), .r (.v (.int .i64 f.self.1)), .r (.v (.int .i64 f.self.2)), .nd 50 2 (f.regs.map valN), .r (.rs 2 (f.tries.map tryR))]
abbrev frameA2 (f : FrameT) : List AV := [Iv f.fn, Iv f.pc, Iv f.tov, Iv f.gen, Iv f.self.1, Iv f.self.2, .nd 50 2 (f.regs.map valN), triesV f.tries]
theorem valN_C (l : List (Int × Int)) : (l.map valN).map (List.map nvC) = l.map valC := by rw [List.map_map]; rfl
theorem frameM_A (l : List FrameT) : (l.map frameM).map (List.map nvC) = l.map frameA2 := by rw [List.map_map]; rfl
theorem flatFrameM (l : List FrameT) : ∀ row ∈ l.map frameA2, withinL none0 row = true := fun row h => by
 obtain ⟨x, _, rfl⟩ := List.mem_map.1 h; rfl
def mixL {α β : Type} (f g : α → β) (l : List α) (i : Nat) : List β := (l.take i).map f ++ (l.drop i).map g
theorem mixL_len {α β : Type} (f g : α → β) (l : List α) (i : Nat) : (mixL f g l i).length = l.length := by
 unfold mixL; rw [List.length_append, List.length_map, List.length_map, List.length_take, List.length_drop]; omega
theorem mixL_at {α β : Type} (f g : α → β) {l : List α} {i : Nat} {x : α} (h : l[i]? = some x) : (mixL f g l i)[i]? = some (g x) := by
 have hi := (List.getElem?_eq_some_iff.1 h).1
 unfold mixL
 rw [List.getElem?_append_right (by rw [List.length_map, List.length_take]; omega), List.length_map, List.length_take, List.getElem?_map, List.getElem?_drop]
 rw [show i + (i - min i l.length) = i by omega, h]; rfl
theorem mixL_set {α β : Type} (f g : α → β) {l : List α} {i : Nat} {x : α} (h : l[i]? = some x) : (mixL f g l i).set i (f x) = mixL f g l (i + 1) := by
 have hi := (List.getElem?_eq_some_iff.1 h).1
 unfold mixL
 rw [List.set_append_right _ _ (by rw [List.length_map, List.length_take]; omega), List.length_map, List.length_take, show i - min i l.length = 0 by omega]
 have hd : l.drop i = x :: l.drop (i + 1) := by
  rw [List.drop_eq_getElem_cons hi]
  congr 1
  rw [List.getElem?_eq_getElem hi] at h; exact Option.some.inj h
 rw [hd, List.map_cons, List.set_cons_zero, List.take_add_one, h, List.map_append, List.append_assoc]; rfl
theorem mixL_end {α β : Type} (f g : α → β) (l : List α) : mixL f g l l.length = l.map f := by
 unfold mixL; rw [List.take_length, List.drop_length]; simp
theorem frames0_c (fs : List FrameT) (hl : fs.length ≤ 1000000000) (hr : ∀ f ∈ fs, f.regs.length ≤ 1000000000 ∧ f.tries.length ≤ 1000000000) : FC Cx 141 [framesV fs] [] (.os 0 1) [(0, 1, .sl 61 8 (fs.map frameA2))] := by
 have l1 : (fs.map frameR).length = fs.length := List.length_map ..
 have l2 : (fs.map frameC).length = fs.length := List.length_map ..
 refine FCo_of [ct_cloneFrameP, ct_cloneValP, ct_cloneTry] (i := 0) [.os 0 1] Tryz.func141 rfl Tryz.ntmps141 (by simp) Tryz.results141 (flatFrameM _) ?_
 refine rnst ?_
 (any_goals refine go lv141 0 ?_)
 refine Rn_loopS (fun x : Nat × Nat => x.1 ≤ fs.length) (fun x => ⟨33, [(0, .os 5 1), (7, Iv fs.length), (8, Iv x.1)], [(5, 1, .sl 61 8 (mixL frameA2 frameC fs x.1)), (20, x.2, .gone)]⟩) (fun x => fs.length - x.1) (0, 0) (Nat.zero_le _) ?_
 rintro ⟨i, u⟩ hi
 dsimp only at hi ⊢
 by_cases hlt : i < fs.length
 case neg =>
  obtain rfl : i = fs.length := by omega
  have e1 := each_end fs
  rw [mixL_end]
  (any_goals refine go lv141 0 ?_)
  all_goals (try simp only [go_sem])
 obtain ⟨f, hx, hg, h1, h2, hw⟩ := each_at frameR fs hlt (by omega)
 obtain ⟨r1, r2⟩ := hr f (List.mem_of_getElem? hx)
 have l3 : (f.regs.map valR).length = f.regs.length := List.length_map ..
 have l4 : (f.tries.map tryR).length = f.tries.length := List.length_map ..
 have q1 := mixL_len frameA2 frameC fs i
 have q2 := mixL_at frameA2 frameC hx
 have q3 := mixL_set frameA2 frameC hx
 have q5 : (mixL frameA2 frameC fs i).getD i [] = frameC f := by rw [List.getD_eq_getElem?_getD, q2]; rfl
 generalize mixL frameA2 frameC fs i = R at *
 have q4 : ∀ X, (R.set i X).length = R.length := fun X => List.length_set
 have q6 : ∀ X, (R.set i X).getD i [] = X := fun X => by rw [List.getD_eq_getElem?_getD, List.getElem?_set_self (by omega)]; rfl
 have q7 : ∀ X Y, (R.set i X).set i Y = R.set i Y := fun X Y => List.set_set ..
 (any_goals refine go (dropL 6 lv141) 0 ?_)
 (apply Rn_closeS 5 i 6 20 (f.regs.map valN); (exact rfl); (exact List.getElem?_set_self (by rw [q1]; exact hlt)); (exact rfl); (exact (by decide)); (exact congrArg (fun z => (1 + u, Res.sl 50 2 z)) (valN_C f.regs).symm); (exact rfl); (intro K0; (try simp only [go_sem, q7]); exact ⟨id⟩))
 clear q2 q4 q5 q6 q7
 (any_goals refine go lv141 0 ?_)
 refine ⟨(i + 1, u + 9), by dsimp only; omega, by dsimp only; omega, ?_⟩
 dsimp only
 rw [← q3]
 exact Le_subA
theorem frames_rows (xs : List (List RV)) : ∀ row ∈ (framesOf xs).map frameA2, withinL none0 row = true := flatFrameM _
theorem frames_c (xs : List (List RV)) (h : xs = (framesOf xs).map frameR ∧ (framesOf xs).length ≤ 1000000000 ∧ ∀ f ∈ framesOf xs, f.regs.length ≤ 1000000000 ∧ f.tries.length ≤ 1000000000) : FC Cx 141 [.r (.rs 8 xs)] [] (.os 0 1) [(0, 1, .sl 61 8 ((framesOf xs).map frameA2))] := by
 have := frames0_c (framesOf xs) h.2.1 h.2.2
 rwa [show framesV (framesOf xs) = .r (.rs 8 xs) from by show AV.r (RV.rs 8 ((framesOf xs).map frameR)) = _; rw [← h.1]] at this
def sp_frames (st : St) (d : Nat) (args : List AV) (K : AV → List Loc → List (Loc × Cont) → Prop) : Prop := match args with
 | [.r (.rs 8 xs)] => (xs = (framesOf xs).map frameR ∧ (framesOf xs).length ≤ 1000000000 ∧ ∀ f ∈ framesOf xs, f.regs.length ≤ 1000000000 ∧ f.tries.length ≤ 1000000000) ∧ K (ren (fun _ => d) (fun _ => st.cur d) (.os 0 1)) [.R d] [(.R d, .s (1 + st.cur d) (.sl 61 8 ((framesOf xs).map frameA2)))]
 | _ => False
theorem sp_frames_ok (st : St) (d : Nat) (args : List AV) (K : AV → List Loc → List (Loc × Cont) → Prop) (h : sp_frames st d args K) : ∃ r ls outs, CallR Cx 141 st args r ls outs ∧ K r ls outs := by
 unfold sp_frames at h
 split at h
 ·exact ⟨_, _, _, CallR.own (frames_c _ h.1) rfl (frames_rows _) rfl d, h.2⟩
 ·exact h.elim
noncomputable def ct_frames : Ct Cx := .res 141 sp_frames en141 sp_frames_ok
@[go_sem] theorem ct_frames_g : ct_frames.g = 141 := rfl
@[go_sem] theorem ct_frames_run (c : Call) (fop : Operand) (caps : List AV) (o : Oper) (st : St) (K : List Loc → List (Loc × Cont) → Prop) : ct_frames.run c fop caps o st K = callG sp_frames c fop caps o st K := rfl
@[go_sem] theorem sp_frames_eq : type_of% @sp_frames.eq_def := @sp_frames.eq_def
abbrev cellA2 (c : CellT) : List AV := [Iv c.kind, Iv c.num, valsV c.vals, .nd 61 8 (c.frames.map frameM)]
abbrev threadA2 (t : ThreadT) : List AV := [.nd 61 8 (t.frames.map frameM), Iv t.state, Iv t.on, Iv t.val.1, Iv t.val.2]
structure SmF (fs : List FrameT) : Prop where
 len : fs.length ≤ 1000000000
 each : ∀ f ∈ fs, f.regs.length ≤ 1000000000 ∧ f.tries.length ≤ 1000000000
structure Sml (s : StateT) : Prop where
 cells : s.cells.length ≤ 1000000000
 shapes : s.shapes.length ≤ 1000000000
 texts : s.texts.length ≤ 1000000000
 threads : s.threads.length ≤ 1000000000
 ends : s.ends.length ≤ 1000000000
 said : s.said.length ≤ 1000000000
 vals : ∀ c ∈ s.cells, c.vals.length ≤ 1000000000
 cell : ∀ c ∈ s.cells, SmF c.frames
 thread : ∀ t ∈ s.threads, SmF t.frames
abbrev ownC (k v : Nat) (cs : List CellT) : Nat × Nat × Res := (k, v, .sl 48 4 (cs.map cellA2))
abbrev ownT (k v : Nat) (ts : List ThreadT) : Nat × Nat × Res := (k, v, .sl 56 5 (ts.map threadA2))
theorem insCp (cs : List CellT) (ts : List ThreadT) (k : Nat) : withinRes (domR [ownC 7 1 cs, ownT 16 1 ts]) (lookR k [ownC 7 1 cs, ownT 16 1 ts]).2 := by
 have e : lookR k [ownC 7 1 cs, ownT 16 1 ts] = if k = 7 then (1, .sl 48 4 (cs.map cellA2)) else if k = 16 then (1, .sl 56 5 (ts.map threadA2)) else (0, .gone) := rfl
 rw [e]
 split
 ·exact fun row h => by obtain ⟨x, _, rfl⟩ := List.mem_map.1 h; rfl
 ·split
  ·exact fun row h => by obtain ⟨x, _, rfl⟩ := List.mem_map.1 h; rfl
  ·trivial
theorem copy_c (s : StateT) (hm : Sml s) : FC Cx 84 [stateV s] [] (.agg [.os 7 1, valsV s.shapes, strsV s.texts, .os 16 1, endsV s.ends, valsV s.said, Iv s.asked, Iv s.steps]) [ownC 7 1 s.cells, ownT 16 1 s.threads] := by
 obtain ⟨m1, m2, m3, m4, m5, m6, m7, m8, m9⟩ := hm
 have l1 : (s.cells.map cellR).length = s.cells.length := List.length_map ..
 have l2 : (s.shapes.map valR).length = s.shapes.length := List.length_map ..
 have l3 : (s.texts.map strR).length = s.texts.length := List.length_map ..
 have l4 : (s.threads.map threadR).length = s.threads.length := List.length_map ..
 have l5 : (s.ends.map endR).length = s.ends.length := List.length_map ..
 have l6 : (s.said.map valR).length = s.said.length := List.length_map ..
 have l7 : (s.cells.map cellC).length = s.cells.length := List.length_map ..
 have l8 : (s.threads.map threadC).length = s.threads.length := List.length_map ..
 refine FCm_of [ct_cloneCellP, ct_cloneThreadP, ct_cloneShape, ct_cloneStr, ct_cloneEnd, ct_cloneVal, ct_frames]  Tryz.func84 rfl Tryz.ntmps84 (by simp) Tryz.results84 rfl (insCp _ _) ?_
 refine rnst ?_
 (any_goals refine go lv84 0 ?_)
 refine Rn_loopS (fun x : Nat × Nat => x.1 ≤ s.cells.length) (fun x => ⟨80, [(1, .os 1 1), (2, .os 2 1), (31, Iv s.cells.length), (32, Iv x.1)], [(1, 1, .bx [.os 7 1, valsV s.shapes, strsV s.texts, .os 16 1, endsV s.ends, valsV s.said, Iv s.asked, Iv s.steps]), (2, 1, .bx [NilS, NilS, NilS, NilS, NilS, NilS, Iv 0, Iv 0]), (7, 1, .sl 48 4 (mixL cellA2 cellC s.cells x.1)), (16, 1, .sl 56 5 (s.threads.map threadC)), (54, x.2, .gone)]⟩) (fun x => s.cells.length - x.1) (0, 0) (Nat.zero_le _) ?_
 rintro ⟨i, u⟩ hi
 dsimp only at hi ⊢
 by_cases hlt : i < s.cells.length
 case pos =>
  obtain ⟨c, hx, hg, h1, h2, hw⟩ := each_at cellR s.cells hlt (by omega)
  have r1 := m7 c (List.mem_of_getElem? hx)
  obtain ⟨r2, r3⟩ := m8 c (List.mem_of_getElem? hx)
  have l9 : (c.vals.map valR).length = c.vals.length := List.length_map ..
  have l10 : (c.frames.map frameR).length = c.frames.length := List.length_map ..
  have q1 := mixL_len cellA2 cellC s.cells i
  have q2 := mixL_at cellA2 cellC hx
  have q3 := mixL_set cellA2 cellC hx
  have q5 : (mixL cellA2 cellC s.cells i).getD i [] = cellC c := by rw [List.getD_eq_getElem?_getD, q2]; rfl
  generalize mixL cellA2 cellC s.cells i = R at *
  have q4 : ∀ X, (R.set i X).length = R.length := fun X => List.length_set
  have q6 : ∀ X, (R.set i X).getD i [] = X := fun X => by rw [List.getD_eq_getElem?_getD, List.getElem?_set_self (by omega)]; rfl
  have q7 : ∀ X Y, (R.set i X).set i Y = R.set i Y := fun X Y => List.set_set ..
  clear m7 m8 m9
  (any_goals refine go (dropL 6 lv84) 0 ?_)
  (apply Rn_closeS 7 i 3 54 (c.frames.map frameM); (exact rfl); (exact List.getElem?_set_self (by rw [q1]; exact hlt)); (exact rfl); (exact (by decide)); (exact congrArg (fun z => (1 + u, Res.sl 61 8 z)) (frameM_A c.frames).symm); (exact rfl); (intro K0; (try simp only [go_sem, q7]); exact ⟨id⟩))
  clear q2 q4 q5 q6 q7
  (any_goals refine go lv84 0 ?_)
  refine ⟨(i + 1, u + 9), by dsimp only; omega, by dsimp only; omega, ?_⟩
  dsimp only
  rw [← q3]
  exact Le_subA
 obtain rfl : i = s.cells.length := by omega
 have e1 := each_end s.cells
 rw [mixL_end]
 clear hi hlt
 (any_goals refine go lv84 0 ?_)
 clear e1
 refine Rn_loopS (fun x : Nat × Nat => x.1 ≤ s.threads.length) (fun x => ⟨80, [(1, .os 1 1), (2, .os 2 1), (62, Iv s.threads.length), (63, Iv x.1)], [(1, 1, .bx [.os 7 1, valsV s.shapes, strsV s.texts, .os 16 1, endsV s.ends, valsV s.said, Iv s.asked, Iv s.steps]), (2, 1, .bx [NilS, NilS, NilS, NilS, NilS, NilS, Iv 0, Iv 0]), (7, 1, .sl 48 4 (s.cells.map cellA2)), (16, 1, .sl 56 5 (mixL threadA2 threadC s.threads x.1)), (54, u, .gone), (75, x.2, .gone)]⟩) (fun x => s.threads.length - x.1) (0, 0) (Nat.zero_le _) ?_
 rintro ⟨i, w⟩ hi
 dsimp only at hi ⊢
 by_cases hlt : i < s.threads.length
 case pos =>
  obtain ⟨t, hx, hg, h1, h2, hw⟩ := each_at threadR s.threads hlt (by omega)
  obtain ⟨r2, r3⟩ := m9 t (List.mem_of_getElem? hx)
  have l10 : (t.frames.map frameR).length = t.frames.length := List.length_map ..
  have q1 := mixL_len threadA2 threadC s.threads i
  have q2 := mixL_at threadA2 threadC hx
  have q3 := mixL_set threadA2 threadC hx
  have q5 : (mixL threadA2 threadC s.threads i).getD i [] = threadC t := by rw [List.getD_eq_getElem?_getD, q2]; rfl
  generalize mixL threadA2 threadC s.threads i = R at *
  have q4 : ∀ X, (R.set i X).length = R.length := fun X => List.length_set
  have q6 : ∀ X, (R.set i X).getD i [] = X := fun X => by rw [List.getD_eq_getElem?_getD, List.getElem?_set_self (by omega)]; rfl
  have q7 : ∀ X Y, (R.set i X).set i Y = R.set i Y := fun X Y => List.set_set ..
  clear m7 m8 m9
  (any_goals refine go (dropL 11 lv84) 0 ?_)
  (apply Rn_closeS 16 i 0 75 (t.frames.map frameM); (exact rfl); (exact List.getElem?_set_self (by rw [q1]; exact hlt)); (exact rfl); (exact (by decide)); (exact congrArg (fun z => (1 + w, Res.sl 61 8 z)) (frameM_A t.frames).symm); (exact rfl); (intro K0; (try simp only [go_sem, q7]); exact ⟨id⟩))
  clear q2 q4 q5 q6 q7
  (any_goals refine go lv84 0 ?_)
  refine ⟨(i + 1, w + 9), by dsimp only; omega, by dsimp only; omega, ?_⟩
  dsimp only
  rw [← q3]
  exact Le_subA
 obtain rfl : i = s.threads.length := by omega
 have e1 := each_end s.threads
 rw [mixL_end]
 clear hi hlt
 (any_goals refine go lv84 0 ?_)
 all_goals (try simp only [go_sem])
structure EventT where
 kind : Int
 step : Int
 thread : Int
 fn : Int
 pc : Int
 line : Int
 a : Int
 b : Int
 val : Int × Int
 old : Int × Int
 deriving DecidableEq
abbrev eventR (e : EventT) : List RV := [.v (.int .i64 e.kind), .v (.int .i64 e.step), .v (.int .i64 e.thread), .v (.int .i64 e.fn), .v (.int .i64 e.pc), .v (.int .i64 e.line), .v (.int .i64 e.a), .v (.int .i64 e.b), .v (.int .i64 e.val.1), .v (.int .i64 e.val.2), .v (.int .i64 e.old.1), .v (.int .i64 e.old.2)]
abbrev eventA (e : EventT) : AV := .agg [Iv e.kind, Iv e.step, Iv e.thread, Iv e.fn, Iv e.pc, Iv e.line, Iv e.a, Iv e.b, Iv e.val.1, Iv e.val.2, Iv e.old.1, Iv e.old.2]
abbrev eventsV (l : List EventT) : AV := .r (.rs 12 (l.map eventR))
def atF (p : ProgT) (s : StateT) (th : Nat) (f : FrameT) : EventT := ⟨0, s.steps, th, f.fn, f.pc, ((p.fns.getD f.fn.toNat fn0).code.getD f.pc.toNat ins0).line, 0, 0, (0, 0), (0, 0)⟩
theorem uAt_c (p : ProgT) (s : StateT) (th : Nat) (t : ThreadT) (f : FrameT) (hp : Pgo p) (ht : s.threads[th]? = some t) (hf : t.frames[t.frames.length - 1]? = some f) (hfr : frameF p s f = true) (hl : t.frames.length ≤ 1000000000) :
  FC Cx 86 [.r (.rp (progR p)), stateP s, Iv th] [] (eventA (atF p s th f)) [] := by
 have l0 : (p.fns.map fnR).length = p.fns.length := List.length_map ..
 have l1 : (s.threads.map threadR).length = s.threads.length := List.length_map ..
 have l2 : (t.frames.map frameR).length = t.frames.length := List.length_map ..
 have hk := (List.getElem?_eq_some_iff.1 ht).1
 have hfk := (List.getElem?_eq_some_iff.1 hf).1
 have t1 : Int.toNat (th : Int) = th := by omega
 have t2 : Int.toNat ((t.frames.length : Int) - 1) = t.frames.length - 1 := by omega
 have w1 : IntKind.i64.wrap ((t.frames.length : Int) - 1) = (t.frames.length : Int) - 1 := by rw [wrap_id] <;> omega
 have d1 : decide ((0 : Int) < (t.frames.length : Int)) = true := by rw [decide_eq_true_eq]; omega
 have hg := getD_map threadR ht ([] : List RV)
 have hgf := getD_map frameR hf ([] : List RV)
 obtain ⟨⟨g1, g2⟩, g3, g4⟩ := frame_fn hfr
 obtain ⟨F, hF⟩ : ∃ F, p.fns[f.fn.toNat]? = some F := ⟨p.fns[f.fn.toNat]'(by omega), List.getElem?_eq_getElem _⟩
 have gF := getD_map fnR hF ([] : List RV)
 have eF : p.fns.getD f.fn.toNat fn0 = F := by rw [List.getD_eq_getElem?_getD, hF]; rfl
 rw [eF] at g4
 have l3 : (F.code.map insR).length = F.code.length := List.length_map ..
 obtain ⟨I, hI⟩ : ∃ I, F.code[f.pc.toNat]? = some I := ⟨F.code[f.pc.toNat]'(by omega), List.getElem?_eq_getElem _⟩
 have gI := getD_map insR hI ([] : List RV)
 have eI : F.code.getD f.pc.toNat ins0 = I := by rw [List.getD_eq_getElem?_getD, hI]; rfl
 unfold atF
 rw [eF, eI]
 clear eF eI hfr
 obtain ⟨fn, pc, tov, gen, ⟨sk, sn⟩, regs, tries⟩ := f
 dsimp only at *
 refine FCp_st [] Tryz.func86 Tryz.ntmps86 Tryz.results86 ?_
 (any_goals refine go lv86 0 ?_)
 all_goals (try simp only [go_sem])
theorem rEventAt_c (p : ProgT) (s : StateT) (th : Nat) (t : ThreadT) (f : FrameT) (hp : Pgo p) (ht : s.threads[th]? = some t) (hf : t.frames[t.frames.length - 1]? = some f) (hfr : frameF p s f = true) (hl : t.frames.length ≤ 1000000000) :
  FC Cx 37 [progV p, stateV s, Iv th] [] (eventA (atF p s th f)) [] := by
 have l0 : (p.fns.map fnR).length = p.fns.length := List.length_map ..
 have l1 : (s.threads.map threadR).length = s.threads.length := List.length_map ..
 have l2 : (t.frames.map frameR).length = t.frames.length := List.length_map ..
 have hk := (List.getElem?_eq_some_iff.1 ht).1
 have hfk := (List.getElem?_eq_some_iff.1 hf).1
 have t1 : Int.toNat (th : Int) = th := by omega
 have t2 : Int.toNat ((t.frames.length : Int) - 1) = t.frames.length - 1 := by omega
 have w1 : IntKind.i64.wrap ((t.frames.length : Int) - 1) = (t.frames.length : Int) - 1 := by rw [wrap_id] <;> omega
 have d1 : decide ((0 : Int) < (t.frames.length : Int)) = true := by rw [decide_eq_true_eq]; omega
 have hg := getD_map threadR ht ([] : List RV)
 have hgf := getD_map frameR hf ([] : List RV)
 obtain ⟨⟨g1, g2⟩, g3, g4⟩ := frame_fn hfr
 obtain ⟨F, hF⟩ : ∃ F, p.fns[f.fn.toNat]? = some F := ⟨p.fns[f.fn.toNat]'(by omega), List.getElem?_eq_getElem _⟩
 have gF := getD_map fnR hF ([] : List RV)
 have eF : p.fns.getD f.fn.toNat fn0 = F := by rw [List.getD_eq_getElem?_getD, hF]; rfl
 rw [eF] at g4
 have l3 : (F.code.map insR).length = F.code.length := List.length_map ..
 obtain ⟨I, hI⟩ : ∃ I, F.code[f.pc.toNat]? = some I := ⟨F.code[f.pc.toNat]'(by omega), List.getElem?_eq_getElem _⟩
 have gI := getD_map insR hI ([] : List RV)
 have eI : F.code.getD f.pc.toNat ins0 = I := by rw [List.getD_eq_getElem?_getD, hI]; rfl
 unfold atF
 rw [eF, eI]
 clear eF eI hfr
 obtain ⟨fn, pc, tov, gen, ⟨sk, sn⟩, regs, tries⟩ := f
 dsimp only at *
 refine FCp_st [] Tryz.func37 Tryz.ntmps37 Tryz.results37 ?_
 refine goR ?_
 refine fzB 3 ?_
 refine fzB 4 ?_
 (any_goals refine go lv37 0 ?_)
 all_goals (try simp only [go_sem])
theorem rTold_c (e : EventT) (k a b : Int) (v o : Int × Int) : FC Cx 88 [eventA e, Iv k, Iv a, Iv b, VV v.1 v.2, VV o.1 o.2] [] (eventA { e with kind := k, a := a, b := b, val := v, old := o }) [] := by
 refine FCp_st [] Tryz.func88 Tryz.ntmps88 Tryz.results88 ?_
 (any_goals refine go lv88 0 ?_)
 all_goals (try simp only [go_sem])
def spN (m : List (Nat × Nat)) (args0 : List AV) (r0 : AV) (rs1 : List (Nat × Nat × Res)) (st : St) (_ : Nat) (args : List AV) (K : AV → List Loc → List (Loc × Cont) → Prop) : Prop :=
 args = args0 ∧ K (ren (mpS (m.map fun q => (q.1, q.2, st.cur q.2))) (mpD (m.map fun q => (q.1, q.2, st.cur q.2))) r0) (m.map fun q => .R q.2) (m.map fun q => (.R q.2, .s ((lookR q.1 rs1).1 + st.cur q.2) (renRes (mpS (m.map fun q => (q.1, q.2, st.cur q.2))) (mpD (m.map fun q => (q.1, q.2, st.cur q.2))) (lookR q.1 rs1).2)))
structure NOk {C : Ctx} (f : Nat) (m : List (Nat × Nat)) (args0 : List AV) (r0 : AV) (rs1 : List (Nat × Nat × Res)) : Prop where
 fc : FC C f args0 [] r0 rs1
 keys : (rs1.all fun p => m.any fun q => q.1 == p.1) = true
 nd : ndB (m.map (·.2)) = true
 nd1 : ndB (m.map (·.1)) = true
 args : withinL none0 args0 = true
 noR : ∀ σ δ, renL σ δ args0 = args0
 res : within (domR rs1) r0 = true
 in1 : ∀ p ∈ rs1, withinRes (domR rs1) p.2.2
 dom : ∀ q ∈ m, domR rs1 q.1 = true ∧ 1 ≤ (lookR q.1 rs1).1
theorem mpS_map {m : List (Nat × Nat)} (h : (m.map (·.1)).Nodup) (c : Nat → Nat) : ∀ q ∈ m, mpS (m.map fun q => (q.1, q.2, c q.2)) q.1 = q.2 ∧ mpD (m.map fun q => (q.1, q.2, c q.2)) q.1 = c q.2 := by
 induction m with
 | nil => intro q hq; simp at hq
 | cons p m ih =>
  intro q hq
  rw [List.map_cons, List.nodup_cons] at h
  rcases List.mem_cons.1 hq with rfl | hq
  ·simp [mpS, mpD]
  ·have hne : q.1 ≠ p.1 := fun e => h.1 (by rw [← e]; exact List.mem_map_of_mem hq)
   have := ih h.2 q hq
   simp only [List.map_cons, mpS, mpD]
   rw [if_neg (by simpa using hne), if_neg (by simpa using hne)]
   exact this
theorem spN_ok {C : Ctx} {f : Nat} {m : List (Nat × Nat)} {args0 : List AV} {r0 : AV} {rs1 : List (Nat × Nat × Res)} (q : NOk (C := C) f m args0 r0 rs1) (st : St) (d : Nat) (args : List AV) (K : AV → List Loc → List (Loc × Cont) → Prop) (h : spN m args0 r0 rs1 st d args K) :
  ∃ r ls outs, CallR C f st args r ls outs ∧ K r ls outs := by
 obtain ⟨rfl, h3⟩ := h
 have hmp := mpS_map (ndB_ok q.nd1) st.cur
 have hc := CallR.gen (st := st) q.fc (m.map fun q => (q.1, q.2, st.cur q.2)) (by simpa [List.any_map] using q.keys) (by rw [List.map_map]; exact ndB_ok q.nd) (withinL_none q.args) q.res (fun p hp => by simp at hp) q.in1 (fun p hp => by simp at hp) (fun p hp _ _ => by
  obtain ⟨z, hz, rfl⟩ := List.mem_map.1 hp
  have := (q.dom z hz).2
  rw [(hmp z hz).1, (hmp z hz).2]
  exact Nat.lt_add_of_pos_left this)
 rw [q.noR] at hc
 refine ⟨_, _, _, hc, ?_⟩
 have e1 : (m.map fun q => (q.1, q.2, st.cur q.2)).map (fun z => Loc.R (mpS (m.map fun q => (q.1, q.2, st.cur q.2)) z.1)) = m.map fun q => Loc.R q.2 := by
  rw [List.map_map]
  exact List.map_congr_left fun z hz => congrArg Loc.R (hmp z hz).1
 have e2 : (m.map fun q => (q.1, q.2, st.cur q.2)).map (fun z => ((Loc.R (mpS (m.map fun q => (q.1, q.2, st.cur q.2)) z.1), Cont.s (backV (mpD (m.map fun q => (q.1, q.2, st.cur q.2))) (mpS (m.map fun q => (q.1, q.2, st.cur q.2))) rs1 st z.1) (renRes (mpS (m.map fun q => (q.1, q.2, st.cur q.2))) (mpD (m.map fun q => (q.1, q.2, st.cur q.2))) (lookR z.1 rs1).2)) : Loc × Cont)) =
   m.map fun z => (Loc.R z.2, Cont.s ((lookR z.1 rs1).1 + st.cur z.2) (renRes (mpS (m.map fun q => (q.1, q.2, st.cur q.2))) (mpD (m.map fun q => (q.1, q.2, st.cur q.2))) (lookR z.1 rs1).2)) := by
  rw [List.map_map]
  refine List.map_congr_left fun z hz => ?_
  simp only [Function.comp]
  rw [(hmp z hz).1]
  unfold backV
  rw [if_pos (q.dom z hz).1, (hmp z hz).2]
 rw [e1, e2]
 exact h3
noncomputable def ctN {C : Ctx} (f : Nat) (m : List (Nat × Nat)) (args0 : List AV) (r0 : AV) (rs1 : List (Nat × Nat × Res)) (he : Enters C.P f) (q : NOk (C := C) f m args0 r0 rs1) : Ct C := .res f (spN m args0 r0 rs1) he (spN_ok q)
@[go_sem] theorem ctN_g {C : Ctx} (f : Nat) (m : List (Nat × Nat)) (args0 : List AV) (r0 : AV) (rs1 : List (Nat × Nat × Res)) (he : Enters C.P f) (q : NOk (C := C) f m args0 r0 rs1) : (ctN f m args0 r0 rs1 he q).g = f := rfl
@[go_sem] theorem ctN_run {C : Ctx} (f : Nat) (m : List (Nat × Nat)) (args0 : List AV) (r0 : AV) (rs1 : List (Nat × Nat × Res)) (he : Enters C.P f) (q : NOk (C := C) f m args0 r0 rs1) (c : Call) (fop : Operand) (cs : List AV) (o : Oper) (st : St) (K : List Loc → List (Loc × Cont) → Prop) : (ctN f m args0 r0 rs1 he q).run c fop cs o st K = callG (spN m args0 r0 rs1) c fop cs o st K := rfl
attribute [go_sem] spN
abbrev eventC (e : EventT) : List AV := [Iv e.kind, Iv e.step, Iv e.thread, Iv e.fn, Iv e.pc, Iv e.line, Iv e.a, Iv e.b, Iv e.val.1, Iv e.val.2, Iv e.old.1, Iv e.old.2]
theorem insEv (e : EventT) (k : Nat) : withinRes (domR [(0, 0, .bx (eventC e))]) (lookR k [(0, 0, .bx (eventC e))]).2 := by
 have h : lookR k [(0, 0, Res.bx (eventC e))] = if k = 0 then (0, .bx (eventC e)) else (0, .gone) := rfl
 rw [h]
 split
 ·rfl
 ·trivial
theorem tell_c (e : EventT) (k : Int) (v : Int × Int) : FC Cx 142 [Iv k, .r (.rp [.v (.int .i64 v.1), .v (.int .i64 v.2)]), .os 0 0] [(0, 0, .bx (eventC e))] (eventA { e with kind := k, val := v }) [(0, 0, .bx (eventC { e with kind := k, val := v }))] := by
 refine FCm_of []  Tryz.func142 rfl Tryz.ntmps142 (by simp) Tryz.results142 rfl (insEv _) ?_
 refine rnst ?_
 (any_goals refine go lv142 0 ?_)
 all_goals (try simp only [go_sem])
theorem tell_Q (e : EventT) (k : Int) (v : Int × Int) (a d : Nat) : QOk (C := Cx) 142 [(0, a, d)] [Iv k, .r (.rp [.v (.int .i64 v.1), .v (.int .i64 v.2)]), .os 0 0] [(0, 0, .bx (eventC e))] (eventA { e with kind := k, val := v }) [(0, 0, .bx (eventC { e with kind := k, val := v }))] :=
 ⟨tell_c e k v, rfl, rfl, rfl, rfl, rfl, fun p hp => by simp at hp; subst hp; rfl, fun p hp => by simp at hp; subst hp; rfl⟩
abbrev boxS (s : StateT) (k v a va b vb : Nat) : Nat × Nat × Res := (k, v, .bx [.os a va, valsV s.shapes, strsV s.texts, .os b vb, endsV s.ends, valsV s.said, Iv s.asked, Iv s.steps])
def killC (f : FrameT) (cs : List CellT) : List CellT := if 0 ≤ f.gen then (match cs[f.gen.toNat]? with | some c => cs.set f.gen.toNat { c with num := 2 } | none => cs) else cs
def unwF (v : Int × Int) (fs : List FrameT) : Nat → List CellT → List CellT × List FrameT × Bool
 | 0, cs => (cs, [], false)
 | m + 1, cs => match fs[m]? with
  | none => (cs, [], false)
  | some f => match f.tries[f.tries.length - 1]? with
   | some y => (cs, fs.take m ++ [{ f with tries := f.tries.take (f.tries.length - 1), pc := y.2, regs := f.regs.set y.1.toNat v }], true)
   | none => unwF v fs m (killC f cs)
def thrT (v : Int × Int) (t : ThreadT) (r : List CellT × List FrameT × Bool) : ThreadT := if r.2.2 = true then ⟨r.2.1, 0, 0, t.val⟩ else ⟨r.2.1, 4, 0, v⟩
theorem killC_len (f : FrameT) (cs : List CellT) : (killC f cs).length = cs.length := by
 unfold killC
 split
 ·split
  ·rw [List.length_set]
  ·rfl
 ·rfl
theorem insDo (s : StateT) (cs : List CellT) (ts : List ThreadT) (k : Nat) : withinRes (domR [boxS s 0 0 1 0 2 0, ownC 1 0 cs, ownT 2 0 ts]) (lookR k [boxS s 0 0 1 0 2 0, ownC 1 0 cs, ownT 2 0 ts]).2 := by
 have e : lookR k [boxS s 0 0 1 0 2 0, ownC 1 0 cs, ownT 2 0 ts] = if k = 0 then (0, (boxS s 0 0 1 0 2 0).2.2) else if k = 1 then (0, .sl 48 4 (cs.map cellA2)) else if k = 2 then (0, .sl 56 5 (ts.map threadA2)) else (0, .gone) := rfl
 rw [e]
 split
 ·rfl
 ·split
  ·exact fun row h => by obtain ⟨x, _, rfl⟩ := List.mem_map.1 h; rfl
  ·split
   ·exact fun row h => by obtain ⟨x, _, rfl⟩ := List.mem_map.1 h; rfl
   ·trivial
theorem do_c (s : StateT) (th : Nat) (t : ThreadT) (v : Int × Int) (e : EventT) (ht : s.threads[th]? = some t) (hl : t.frames.length ≤ 1000000000) (hcl : s.cells.length ≤ 1000000000)
  (hfs : ∀ f ∈ t.frames, (f.tries.length ≤ 1000000000 ∧ ∀ y ∈ f.tries, 0 ≤ y.1 ∧ y.1 < (f.regs.length : Int)) ∧ (0 ≤ f.gen → f.gen < (s.cells.length : Int))) :
  FC Cx 85 [.os 0 0, Iv th, VV v.1 v.2, eventA e] [boxS s 0 0 1 0 2 0, ownC 1 0 s.cells, ownT 2 0 s.threads]
   (eventsV [{ e with kind := 7, val := v }, { e with kind := if (unwF v t.frames t.frames.length s.cells).2.2 = true then 8 else 17, val := v }])
   [boxS s 0 0 1 0 2 0, ownC 1 0 (unwF v t.frames t.frames.length s.cells).1, ownT 2 0 (s.threads.set th (thrT v t (unwF v t.frames t.frames.length s.cells)))] := by
 have hk := (List.getElem?_eq_some_iff.1 ht).1
 have t1 : Int.toNat (th : Int) = th := by omega
 have q2 : (s.threads.map threadA2)[th]? = some (threadA2 t) := by rw [List.getElem?_map, ht]; rfl
 have q1 : (s.threads.map threadA2).length = s.threads.length := List.length_map ..
 have q8 : (s.threads.set th (thrT v t (unwF v t.frames t.frames.length s.cells))).map threadA2 = (s.threads.map threadA2).set th (threadA2 (thrT v t (unwF v t.frames t.frames.length s.cells))) := List.map_set ..
 have hq := fun (e : EventT) (k : Int) => tell_Q e k v 7 1
 have en : Enters Cx.P 142 := en142
 obtain ⟨vk, vn⟩ := v
 dsimp only at *
 have hins := insDo s (unwF (vk, vn) t.frames t.frames.length s.cells).1 (s.threads.set th (thrT (vk, vn) t (unwF (vk, vn) t.frames t.frames.length s.cells)))
 dsimp only [boxS, ownC, ownT] at hins ⊢
 rw [q8] at hins ⊢
 clear q8
 refine FCm_of [ctQ 142 [(0, 7, 1)] [Iv 7, .r (.rp [.v (.int .i64 vk), .v (.int .i64 vn)]), .os 0 0] [(0, 0, .bx (eventC e))] (eventA { e with kind := 7, val := (vk, vn) }) [(0, 0, .bx (eventC { e with kind := 7, val := (vk, vn) }))] en (hq e 7)]  Tryz.func85 rfl Tryz.ntmps85 (by simp) Tryz.results85 rfl (hins) ?_
 refine rnst ?_
 clear hins
 (any_goals refine go (dropL 1 lv85) 0 ?_)
 refine fzB 6 ?_
 generalize hT0 : s.threads.map threadA2 = T0 at *
 have q4 : ∀ X, (T0.set th X).length = s.threads.length := fun X => by rw [List.length_set, q1]
 have q5 : T0.getD th [] = threadA2 t := by rw [List.getD_eq_getElem?_getD, q2]; rfl
 have q6 : ∀ X, (T0.set th X).getD th [] = X := fun X => by rw [List.getD_eq_getElem?_getD, List.getElem?_set_self (by omega)]; rfl
 have q7 : ∀ X Y, (T0.set th X).set th Y = T0.set th Y := fun X Y => List.set_set ..
 (any_goals refine go (dropL 5 lv85) 0 ?_)
 (apply Rn_openS 2 th 0 201; (exact rfl); (exact List.getElem?_set_self (by omega)); (exact rfl); (exact rfl); (exact rfl); (intro K0; (try simp only [go_sem, q7, frameM_A]); exact ⟨id⟩))
 have lf0 : (t.frames.map frameA2).length = t.frames.length := List.length_map ..
 have w0 : IntKind.i64.wrap ((t.frames.length : Int) - 1) = (t.frames.length : Int) - 1 := by rw [wrap_id] <;> omega
 (any_goals refine go lv85 0 ?_)
 rw [show t.frames.map frameA2 = (t.frames.take t.frames.length).map frameA2 by rw [List.take_length]]
 refine Rn_loopS (fun x : Nat × Nat × List CellT => x.1 ≤ t.frames.length ∧ x.2.2.length = s.cells.length ∧ unwF (vk, vn) t.frames t.frames.length s.cells = unwF (vk, vn) t.frames x.1 x.2.2) (fun x => ⟨126, [(0, .os 0 0), (6, .r (.rp [.v (.int .i64 vk), .v (.int .i64 vn)])), (9, .cl 142 [.r (.rp [.v (.int .i64 vk), .v (.int .i64 vn)]), .os 7 1]), (10, .os 19 1), (11, .re 2 0 5 th 0), (12, Iv ((x.1 : Int) - 1))], [(0, 0, .bx [.os 1 0, valsV s.shapes, strsV s.texts, .os 2 0, endsV s.ends, valsV s.said, Iv s.asked, Iv s.steps]), (1, 0, .sl 48 4 (x.2.2.map cellA2)), (2, 0, .sl 56 5 (T0.set th [.os 201 x.2.1, Iv 0, Iv 0, Iv t.val.1, Iv t.val.2])), (6, 2, .gone), (7, 1, .bx (eventC { e with kind := 7, val := (vk, vn) })), (19, 1, .sl 76 12 [eventC { e with kind := 7, val := (vk, vn) }]), (201, x.2.1, .sl 61 8 ((t.frames.take x.1).map frameA2))]⟩) (fun x => x.1) (t.frames.length, 1, s.cells) ⟨Nat.le_refl _, rfl, rfl⟩ ?_
 rintro ⟨m, w, cs⟩ ⟨hm, hcs, hu⟩
 dsimp only at hm hcs hu ⊢
 rw [hu]
 clear lf0 w0 q5
 cases m with
 | zero =>
  rw [show ((0 : Nat) : Int) - 1 = -1 from rfl, show unwF (vk, vn) t.frames 0 cs = (cs, [], false) from rfl]
  dsimp only [thrT]
  rw [if_neg (show ¬ false = true by simp), if_neg (show ¬ false = true by simp)]
  (apply Rn_closeS 2 th 0 201 []; (exact rfl); (exact List.getElem?_set_self (by omega)); (exact rfl); (exact (by decide)); (exact rfl); (exact rfl); (intro K0; (try simp only [go_sem, q7]); exact ⟨id⟩))
  refine Rn_T [ctQ 142 [(0, 7, 1)] [Iv 17, .r (.rp [.v (.int .i64 vk), .v (.int .i64 vn)]), .os 0 0] [(0, 0, .bx (eventC { e with kind := 7, val := (vk, vn) }))] (eventA { e with kind := 17, val := (vk, vn) }) [(0, 0, .bx (eventC { e with kind := 17, val := (vk, vn) }))] en (hq { e with kind := 7, val := (vk, vn) } 17)] ?_
  (any_goals refine goN lv85 0 ?_)
  (apply Rn_frzS 19 [eventR { e with kind := 7, val := (vk, vn) }, eventR { e with kind := 17, val := (vk, vn) }]; (exact rfl); (exact rfl); (exact rfl); (intro K0; (try simp only [go_sem]); exact ⟨id⟩))
  (any_goals refine go lv85 0 ?_)
  all_goals (try simp only [go_sem])
  exact ⟨rfl, rfl⟩
 | succ k =>
  rw [show ((k + 1 : Nat) : Int) - 1 = (k : Int) by omega]
  obtain ⟨f, hf⟩ : ∃ f, t.frames[k]? = some f := ⟨t.frames[k]'(by omega), List.getElem?_eq_getElem _⟩
  obtain ⟨⟨hf1, hf2⟩, hf3⟩ := hfs f (List.mem_of_getElem? hf)
  have p2 : ((t.frames.take (k + 1)).map frameA2)[k]? = some (frameA2 f) := by rw [List.getElem?_map, List.getElem?_take, if_pos (by omega), hf]; rfl
  have p1 : ((t.frames.take (k + 1)).map frameA2).length = k + 1 := by rw [List.length_map, List.length_take]; omega
  have p3 : List.take k ((t.frames.take (k + 1)).map frameA2) = (t.frames.take k).map frameA2 := by rw [← List.map_take, List.take_take, Nat.min_eq_left (by omega)]
  have p3' : (t.frames.take (k + 1)) = t.frames.take k ++ [f] := by rw [List.take_add_one, hf]; rfl
  have p4 : ((t.frames.take (k + 1)).map frameA2).getD k [] = frameA2 f := by rw [List.getD_eq_getElem?_getD, p2]; rfl
  have t2 : Int.toNat (k : Int) = k := by omega
  have d1 : decide ((0 : Int) ≤ (k : Int)) = true := by rw [decide_eq_true_eq]; omega
  have w1 : IntKind.i64.wrap ((k : Int) - 1) = (k : Int) - 1 := by rw [wrap_id] <;> omega
  have lt : (f.tries.map tryR).length = f.tries.length := List.length_map ..
  have w2 : IntKind.i64.wrap ((f.tries.length : Int) - 1) = (f.tries.length : Int) - 1 := by rw [wrap_id] <;> omega
  by_cases ht0 : f.tries.length = 0
  ·have hu2 : unwF (vk, vn) t.frames (k + 1) cs = unwF (vk, vn) t.frames k (killC f cs) := by
    rw [unwF, hf]
    dsimp only
    rw [List.getElem?_eq_none (by omega)]
   rw [hu2] at hu ⊢
   have d2 : decide ((0 : Int) ≤ (f.tries.length : Int) - 1) = false := by rw [decide_eq_false_iff_not]; omega
   generalize hR : (t.frames.take (k + 1)).map frameA2 = R at *
   clear hf2 p3' hR hfs hT0 q2
   by_cases hg : 0 ≤ f.gen
   ·have hg2 := hf3 hg
    have d3 : decide (0 ≤ f.gen) = true := by simpa using hg
    obtain ⟨c, hc⟩ : ∃ c, cs[f.gen.toNat]? = some c := ⟨cs[f.gen.toNat]'(by omega), List.getElem?_eq_getElem _⟩
    have gc := getD_map cellA2 hc ([] : List AV)
    have lc : (cs.map cellA2).length = cs.length := List.length_map ..
    have hkc : killC f cs = cs.set f.gen.toNat { c with num := 2 } := by unfold killC; rw [if_pos hg, hc]
    have hset : (killC f cs).map cellA2 = (cs.map cellA2).set f.gen.toNat [Iv c.kind, Iv 2, valsV c.vals, .nd 61 8 (c.frames.map frameM)] := by rw [hkc, List.map_set]
    have hkl := killC_len f cs
    clear hkc hc
    obtain ⟨fn, pc, tov, gen, ⟨sk, sn⟩, regs, tries⟩ := f
    dsimp only at *
    (any_goals refine go lv85 0 ?_)
    refine ⟨(k, w + 1, killC ⟨fn, pc, tov, gen, (sk, sn), regs, tries⟩ cs), ⟨by dsimp only; omega, by dsimp only; omega, rfl⟩, by dsimp only; omega, ?_⟩
    dsimp only
    rw [hset]
    exact Le_subA
   ·have d3 : decide (0 ≤ f.gen) = false := by simpa using hg
    have hkc : killC f cs = cs := by unfold killC; rw [if_neg hg]
    rw [hkc] at hu ⊢
    obtain ⟨fn, pc, tov, gen, ⟨sk, sn⟩, regs, tries⟩ := f
    dsimp only at *
    clear hkc hu2
    (any_goals refine go lv85 0 ?_)
    refine ⟨(k, w + 1, cs), ⟨by dsimp only; omega, hcs, rfl⟩, by dsimp only; omega, ?_⟩
    dsimp only
    exact Le_subA
  ·obtain ⟨y, hy⟩ : ∃ y, f.tries[f.tries.length - 1]? = some y := ⟨f.tries[f.tries.length - 1]'(by omega), List.getElem?_eq_getElem _⟩
   obtain ⟨y0, y1⟩ := hf2 y (List.mem_of_getElem? hy)
   have gy := getD_map tryR hy ([] : List RV)
   obtain ⟨z, hz⟩ : ∃ z, f.regs[y.1.toNat]? = some z := ⟨f.regs[y.1.toNat]'(by omega), List.getElem?_eq_getElem _⟩
   have gz := getD_map valC hz ([] : List AV)
   have lr : (f.regs.map valC).length = f.regs.length := List.length_map ..
   have t3 : Int.toNat ((f.tries.length : Int) - 1) = f.tries.length - 1 := by omega
   have d2 : decide ((0 : Int) ≤ (f.tries.length : Int) - 1) = true := by rw [decide_eq_true_eq]; omega
   have hu2 : unwF (vk, vn) t.frames (k + 1) cs = (cs, t.frames.take k ++ [{ f with tries := f.tries.take (f.tries.length - 1), pc := y.2, regs := f.regs.set y.1.toNat (vk, vn) }], true) := by
    rw [unwF, hf]
    dsimp only
    rw [hy]
   rw [hu2]
   dsimp only [thrT]
   rw [if_pos rfl, if_pos rfl]
   clear hu hu2 hz hy
   have p6 : ∀ X, (((t.frames.take (k + 1)).map frameA2).set k X).getD k [] = X := fun X => by rw [List.getD_eq_getElem?_getD, List.getElem?_set_self (by omega)]; rfl
   have p7 : ∀ X Y, (((t.frames.take (k + 1)).map frameA2).set k X).set k Y = ((t.frames.take (k + 1)).map frameA2).set k Y := fun X Y => List.set_set ..
   have p8 : ∀ X, (((t.frames.take (k + 1)).map frameA2).set k X).length = k + 1 := fun X => by rw [List.length_set, p1]
   have p9 : ∀ g : FrameT, ((t.frames.take (k + 1)).map frameA2).set k (frameA2 g) = ((t.frames.take k ++ [g]).map frameM).map (List.map nvC) := fun g => by
    rw [frameM_A, p3', List.map_append, List.set_append_right _ _ (by rw [List.length_map, List.length_take]; omega), List.length_map, List.length_take, show k - min k t.frames.length = 0 by omega, List.map_append]
    rfl
   generalize hR : (t.frames.take (k + 1)).map frameA2 = R at *
   clear p3' p3 hR hfs hT0 q2
   (apply Rn_openS 201 k 6 202; (exact rfl); (exact p2); (exact rfl); (exact rfl); (exact rfl); (intro K0; (try simp only [go_sem, valN_C]); exact ⟨id⟩))
   obtain ⟨fn, pc, tov, gen, ⟨sk, sn⟩, regs, tries⟩ := f
   dsimp only at *
   have pT : List.take (tries.length - 1) (tries.map tryR) = (tries.take (tries.length - 1)).map tryR := List.map_take.symm
   have k1 : (regs.map valC).set y.1.toNat [Iv vk, Iv vn] = ((regs.set y.1.toNat (vk, vn)).map valN).map (List.map nvC) := by rw [valN_C, List.map_set]
   replace p9 := p9 ⟨fn, y.2, tov, gen, (sk, sn), regs.set y.1.toNat (vk, vn), tries.take (tries.length - 1)⟩
   (any_goals refine go (dropL 13 lv85) 0 ?_)
   (apply Rn_closeS 201 k 6 202 ((regs.set y.1.toNat (vk, vn)).map valN); (exact rfl); (exact List.getElem?_set_self (by omega)); (exact rfl); (exact (by decide)); (exact rfl); (exact rfl); (intro K0; (try simp only [go_sem, p7]); exact ⟨id⟩))
   (apply Rn_closeS 2 th 0 201 ((t.frames.take k ++ [(⟨fn, y.2, tov, gen, (sk, sn), regs.set y.1.toNat (vk, vn), tries.take (tries.length - 1)⟩ : FrameT)]).map frameM); (exact rfl); (exact List.getElem?_set_self (by omega)); (exact rfl); (exact (by decide)); (exact congrArg (fun z => (w, Res.sl 61 8 z)) p9); (exact rfl); (intro K0; (try simp only [go_sem, q7]); exact ⟨id⟩))
   clear p9 k1 pT
   refine Rn_T [ctQ 142 [(0, 7, 1)] [Iv 8, .r (.rp [.v (.int .i64 vk), .v (.int .i64 vn)]), .os 0 0] [(0, 0, .bx (eventC { e with kind := 7, val := (vk, vn) }))] (eventA { e with kind := 8, val := (vk, vn) }) [(0, 0, .bx (eventC { e with kind := 8, val := (vk, vn) }))] en (hq { e with kind := 7, val := (vk, vn) } 8)] ?_
   (any_goals refine goN lv85 0 ?_)
   (apply Rn_frzS 19 [eventR { e with kind := 7, val := (vk, vn) }, eventR { e with kind := 8, val := (vk, vn) }]; (exact rfl); (exact rfl); (exact rfl); (intro K0; (try simp only [go_sem]); exact ⟨id⟩))
   (any_goals refine go lv85 0 ?_)
   all_goals (try simp only [go_sem])
   all_goals rfl
def TrG (f : FnT) (W : WT) (l : List (Int × Int)) : Prop := ∀ (j : Nat) (y : Int × Int), l[j]? = some y → (0 ≤ y.1 ∧ y.1 < f.regs) ∧ To f W y.2 (l.take j)
theorem TrG.keeps {f : FnT} {W W' : WT} {l : List (Int × Int)} (h : TrG f W l) (hk : ∀ t l, To f W t l → To f W' t l) : TrG f W' l := fun j y hy => ⟨(h j y hy).1, hk _ _ (h j y hy).2⟩
theorem TrG.nil (f : FnT) (W : WT) : TrG f W [] := fun j y hy => by simp at hy
theorem TrG.take {f : FnT} {W : WT} {l : List (Int × Int)} (h : TrG f W l) (k : Nat) : TrG f W (l.take k) := fun j y hy => by
 rw [List.getElem?_take] at hy
 split at hy
 ·rename_i hj
  have := h j y hy
  rw [List.take_take, Nat.min_eq_left (by omega)]; exact this
 ·cases hy
theorem TrG.push {f : FnT} {W : WT} {l : List (Int × Int)} (h : TrG f W l) {a b : Int} (ha : 0 ≤ a ∧ a < f.regs) (hb : To f W b l) : TrG f W (l ++ [(a, b)]) := fun j y hy => by
 by_cases hj : j < l.length
 ·rw [List.getElem?_append_left hj] at hy
  rw [List.take_append_of_le_length (by omega)]
  exact h j y hy
 ·rw [List.getElem?_append_right (by omega)] at hy
  have he : j - l.length = 0 := by
   rcases Nat.eq_zero_or_pos (j - l.length) with h | h
   ·exact h
   ·rw [List.getElem?_eq_none (by simp; omega)] at hy; cases hy
  rw [he] at hy; simp at hy; subst hy
  rw [show j = l.length by omega, List.take_left]
  exact ⟨ha, hb⟩
def Wtr6 (f : FnT) (W : WT) : Prop := ∀ k : Nat, W.seen.getD k false = true → TrG f W (W.out.getD k [])
theorem come_tr6 {f : FnT} {n : Int} {l : List (Int × Int)} {W : WT} (hi : Wiv f W) (hn : 0 ≤ n) (hl : TrG f (comeF f n l W) l) (hW : Wtr6 f W) : Wtr6 f (comeF f n l W) := by
 intro k hk
 by_cases hs : W.seen.getD k false = true
 ·have hT := seen_to hi hs
  have h2 := come_keeps (n := n) (l := l) hT
  have : (comeF f n l W).out.getD k [] = W.out.getD k [] := h2.out
  rw [this]
  exact (hW k hs).keeps fun t l' hT => come_keeps hT
 ·have h1 := hi.out
  unfold comeF at hk hl ⊢
  split at hk
  ·exact absurd hk hs
  ·rename_i hb
   rw [if_neg hb] at hl ⊢
   split at hk
   ·rename_i hs2
    rw [if_pos hs2] at hl ⊢
    by_cases he : n.toNat = k
    ·subst he
     dsimp only
     rw [getD_set_self (by omega)]; exact hl
    ·dsimp only at hk; rw [getD_set_ne he] at hk; exact absurd hk hs
   ·split at hk <;> exact absurd hk hs
theorem come_good6 {f : FnT} {n : Int} {l : List (Int × Int)} {W : WT} (h : (comeF f n l W).bad = false) : W.bad = false := by
 cases hx : W.bad with
 | false => rfl
 | true => rw [come_bad hx] at h; cases h
theorem from_tr6 {f : FnT} {n : Int} {W : WT} (h : Wiv f W) (hc : Cok f) (hr : ∀ i ∈ f.code, i.op = 30 → 0 ≤ i.a ∧ i.a < f.regs) (hn : 0 ≤ n) (hs : W.seen.getD n.toNat false = true) (hb : (fromF f n W).bad = false) (hW : Wtr6 f W) : Wtr6 f (fromF f n W) := by
 have hi : f.code.getD n.toNat ins0 = ins0 ∨ f.code.getD n.toNat ins0 ∈ f.code := by
  cases hg : f.code[n.toNat]? with
  | none => left; simp [List.getD, hg]
  | some i => right; simp only [List.getD, hg, Option.getD_some]; exact List.mem_of_getElem? hg
 have hA : (f.code.getD n.toNat ins0).op = 13 ∨ (f.code.getD n.toNat ins0).op = 14 → 0 ≤ (f.code.getD n.toNat ins0).a := fun ho => hi.elim (fun h => by rw [h] at ho; rcases ho with ho | ho <;> cases ho) (fun h => hc.a _ h ho)
 have hB : (f.code.getD n.toNat ins0).op = 15 ∨ (f.code.getD n.toNat ins0).op = 30 → 0 ≤ (f.code.getD n.toNat ins0).b := fun ho => hi.elim (fun h => by rw [h] at ho; rcases ho with ho | ho <;> cases ho) (fun h => hc.b _ h ho)
 have hR : (f.code.getD n.toNat ins0).op = 30 → 0 ≤ (f.code.getD n.toNat ins0).a ∧ (f.code.getD n.toNat ins0).a < f.regs := fun ho => hi.elim (fun h => by rw [h] at ho; cases ho) (fun h => hr _ h ho)
 have hl := hW n.toNat hs
 unfold fromF at hb ⊢
 generalize f.code.getD n.toNat ins0 = i at hA hB hR hb ⊢
 generalize W.out.getD n.toNat [] = l at hl hb ⊢
 dsimp only at hb ⊢
 split at hb
 ·rename_i h1; rw [if_pos h1]; exact hW
 ·rename_i h1
  rw [if_neg h1]
  split at hb
  ·rename_i h2; rw [if_pos h2]
   exact come_tr6 h (hA h2) (hl.keeps fun t l' hT => come_keeps hT) hW
  ·rename_i h2
   rw [if_neg h2]
   split at hb
   ·rename_i h3; rw [if_pos h3]
    have q := (come_iv (n := i.b) (l := l) h (hB (.inl h3))).1
    exact come_tr6 q (by omega) ((hl.keeps fun t l' hT => come_keeps hT).keeps fun t l' hT => come_keeps hT) (come_tr6 h (hB (.inl h3)) (hl.keeps fun t l' hT => come_keeps hT) hW)
   ·rename_i h3
    rw [if_neg h3]
    split at hb
    ·rename_i h4; rw [if_pos h4]
     have q := (come_iv (n := i.b) (l := l) h (hB (.inr h4))).1
     have hT := come_keeps (n := n + 1) (l := l ++ [(i.a, i.b)]) (come_to h (hB (.inr h4)) (come_good6 hb))
     exact come_tr6 q (by omega) (((hl.keeps fun t l' hT => come_keeps hT).keeps fun t l' hT => come_keeps hT).push (hR h4) hT) (come_tr6 h (hB (.inr h4)) (hl.keeps fun t l' hT => come_keeps hT) hW)
    ·rename_i h4
     rw [if_neg h4]
     split at hb
     ·rename_i h5; rw [if_pos h5]
      split at hb
      ·cases hb
      ·rename_i h6; rw [if_neg h6]
       exact come_tr6 h (by omega) ((hl.take _).keeps fun t l' hT => come_keeps hT) hW
     ·rename_i h5; rw [if_neg h5]
      exact come_tr6 h (by omega) (hl.keeps fun t l' hT => come_keeps hT) hW
def Wtd6 (W : WT) : Prop := ∀ t ∈ W.todo, W.seen.getD t.toNat false = true
theorem come_td6 {f : FnT} {n : Int} {l : List (Int × Int)} {W : WT} (hi : Wiv f W) (hn : 0 ≤ n) (h : Wtd6 W) : Wtd6 (comeF f n l W) := by
 have h1 := hi.seen
 unfold comeF
 split
 ·exact h
 ·rename_i hb
  split
  ·intro t ht
   dsimp only at ht ⊢
   by_cases he : n.toNat = t.toNat
   ·rw [← he, getD_set_self (by omega)]
   ·rw [getD_set_ne he]
    rcases List.mem_append.1 ht with ht | ht
    ·exact h t ht
    ·simp at ht; subst ht; exact absurd rfl he
  ·split <;> exact h
theorem from_td6 {f : FnT} {n : Int} {W : WT} (h : Wiv f W) (hc : Cok f) (hn : 0 ≤ n) (hW : Wtd6 W) : Wtd6 (fromF f n W) := by
 have hi : f.code.getD n.toNat ins0 = ins0 ∨ f.code.getD n.toNat ins0 ∈ f.code := by
  cases hg : f.code[n.toNat]? with
  | none => left; simp [List.getD, hg]
  | some i => right; simp only [List.getD, hg, Option.getD_some]; exact List.mem_of_getElem? hg
 have hA : (f.code.getD n.toNat ins0).op = 13 ∨ (f.code.getD n.toNat ins0).op = 14 → 0 ≤ (f.code.getD n.toNat ins0).a := fun ho => hi.elim (fun h => by rw [h] at ho; rcases ho with ho | ho <;> cases ho) (fun h => hc.a _ h ho)
 have hB : (f.code.getD n.toNat ins0).op = 15 ∨ (f.code.getD n.toNat ins0).op = 30 → 0 ≤ (f.code.getD n.toNat ins0).b := fun ho => hi.elim (fun h => by rw [h] at ho; rcases ho with ho | ho <;> cases ho) (fun h => hc.b _ h ho)
 unfold fromF
 generalize f.code.getD n.toNat ins0 = i at hA hB ⊢
 generalize W.out.getD n.toNat [] = l
 dsimp only
 split
 ·exact hW
 ·split
  ·rename_i ho; exact come_td6 h (hA ho) hW
  ·split
   ·rename_i ho
    exact come_td6 (come_iv (n := i.b) (l := l) h (hB (.inl ho))).1 (by omega) (come_td6 h (hB (.inl ho)) hW)
   ·split
    ·rename_i ho
     exact come_td6 (come_iv (n := i.b) (l := l) h (hB (.inr ho))).1 (by omega) (come_td6 h (hB (.inr ho)) hW)
    ·split
     ·split
      ·exact hW
      ·exact come_td6 h (by omega) hW
     ·exact come_td6 h (by omega) hW
theorem run_tr6 {f : FnT} (hc : Cok f) (hr : ∀ i ∈ f.code, i.op = 30 → 0 ≤ i.a ∧ i.a < f.regs) : ∀ (k : Nat) (W : WT), Wiv f W → Wtd6 W → Wtr6 f W → (runW f k W).bad = false → Wtr6 f (runW f k W)
 | 0, W, _, _, h, _ => h
 | k + 1, W, hi, ht, h, hb => by
  have hrun : runW f (k + 1) W = if goesW W = true then runW f k (stepW f W) else W := rfl
  rw [hrun] at hb ⊢
  split at hb
  ·rename_i hg
   rw [if_pos hg]
   have h0 : 0 < W.todo.length := by simp [goesW] at hg; exact hg.1
   obtain ⟨q1, q2, q3, q4⟩ := pop_iv hi h0
   have hbs : (stepW f W).bad = false := by
    cases hx : (stepW f W).bad with
    | false => rfl
    | true =>
     have : ∀ (k : Nat) (W : WT), Wiv f W → W.bad = true → (runW f k W).bad = true := fun k => by
      induction k with
      | zero => intro W _ h; exact h
      | succ k ih =>
       intro W hi h
       show (if goesW W = true then runW f k (stepW f W) else W).bad = true
       have : goesW W = false := by unfold goesW; rw [h]; simp
       rw [this, if_neg (by simp)]; exact h
     rw [this k _ (step_iv hi hc hg).1 hx] at hb; cases hb
   have hm : lastT W ∈ W.todo := by
    unfold lastT
    rw [List.getD_eq_getElem?_getD, List.getElem?_eq_getElem (show W.todo.length - 1 < W.todo.length by omega)]
    exact List.getElem_mem _
   have hp : Wtr6 f (popW W) := fun k hk => (h k hk).keeps fun t l hT => ⟨hT.lo, hT.hi, hT.few, hT.seen, hT.out⟩
   have hpt : Wtd6 (popW W) := fun t ht' => ht t (List.mem_of_mem_take ht')
   exact run_tr6 hc hr k _ (step_iv hi hc hg).1 (from_td6 q1 hc q3 hpt) (from_tr6 q1 hc hr q3 (ht _ hm) hbs hp) hb
  ·rename_i hg; rw [if_neg hg]; exact h
theorem walk_tr6 {f : FnT} (hc : Cok f) (hr : ∀ i ∈ f.code, i.op = 30 → 0 ≤ i.a ∧ i.a < f.regs) (hb : (walkF f).bad = false) : Wtr6 f (walkF f) := by
 obtain ⟨i0, m0⟩ := W0_iv f
 obtain ⟨q1, q2⟩ := come_iv (n := 0) (l := []) i0 (Int.le_refl 0)
 have h0 : Wtr6 f (W0 f) := fun k hk => by
  exfalso
  have : (W0 f).seen.getD k false = false := by
   show (List.replicate f.code.length false).getD k false = false
   simp only [List.getD, List.getElem?_replicate]
   split <;> rfl
  rw [this] at hk; cases hk
 have t0 : Wtd6 (W0 f) := fun t ht => by cases ht
 exact run_tr6 hc hr _ _ q1 (come_td6 i0 (Int.le_refl 0) t0) (come_tr6 i0 (Int.le_refl 0) (TrG.nil _ _) h0) hb
theorem order_try {p : ProgT} {f : FnT} (h : ordersF p f = true) : ∀ i ∈ f.code, i.op = 30 → 0 ≤ i.a ∧ i.a < f.regs := by
 intro i hi ho
 obtain ⟨k, hk, rfl⟩ := List.getElem_of_mem hi
 have h1 := List.all_eq_true.1 h k (List.mem_range.2 hk)
 rw [show f.code.getD k ins0 = f.code[k] by simp [List.getD, List.getElem?_eq_getElem hk]] at h1
 have h2 : orderN p f f.code[k] = true := by
  unfold orderF at h1
  split at h1
  ·cases h1
  ·split at h1
   ·cases h1
   ·rename_i h; simpa using h
 simp only [orderN, Bool.and_eq_true] at h2
 have h3 := h2.1.1.2
 have e : fB (f.code[k]).op 0 = 114 := by rw [ho]; rfl
 rw [e] at h3
 have h4 : wiF (f.code[k]).a 0 (f.regs - 1) = true := h3
 have h5 := wiF_iff.1 h4
 exact ⟨h5.1, by omega⟩
theorem frame_tries {p : ProgT} {s : StateT} {f : FrameT} (hw : Pwf p) (hp : checkF p = 0) (h : frameF p s f = true) : f.tries.length ≤ 20 ∧ f.regs.length ≤ 60 ∧ (f.regs.length : Int) = (p.fns.getD f.fn.toNat fn0).regs ∧ TrG (p.fns.getD f.fn.toNat fn0) (walkF (p.fns.getD f.fn.toNat fn0)) f.tries := by
 obtain ⟨⟨g1, g2⟩, g3, g4⟩ := frame_fn h
 obtain ⟨F, hF⟩ : ∃ F, p.fns[f.fn.toNat]? = some F := ⟨p.fns[f.fn.toNat]'(by omega), List.getElem?_eq_getElem _⟩
 have eF : p.fns.getD f.fn.toNat fn0 = F := by rw [List.getD_eq_getElem?_getD, hF]; rfl
 obtain ⟨hpok, hfun, hcok, hbad⟩ := check_fn hw hp (List.mem_of_getElem? hF)
 have hord : ordersF p F = true := by
  unfold functionF at hfun
  split at hfun
  ·cases hfun
  ·split at hfun
   ·cases hfun
   ·rename_i h; simpa using h
 have hr60 := (hpok.fn F (List.mem_of_getElem? hF)).2.1
 unfold frameF at h
 simp only [Bool.and_eq_true, decide_eq_true_eq] at h
 obtain ⟨⟨⟨⟨⟨⟨⟨_, _⟩, _⟩, b4⟩, _⟩, b6⟩, b7⟩, _⟩ := h
 rw [eF] at b4 b6 b7 ⊢
 have hT := seen_to (walk_iv hcok) b6
 have hfew := hT.few
 rw [← b7] at hfew
 refine ⟨hfew, by omega, b4, ?_⟩
 have := walk_tr6 hcok (order_try hord) hbad f.pc.toNat b6
 rw [← b7] at this
 exact this
structure Keeps (s t : StateT) : Prop where
 texts : s.texts.length ≤ t.texts.length
 cells : ∀ (k : Nat) (c : CellT), s.cells[k]? = some c → ∃ c', t.cells[k]? = some c' ∧ c'.kind = c.kind ∧ (c.kind = 4 → c'.num = c.num)
theorem Keeps.at {s t : StateT} (h : Keeps s t) {n : Nat} (hn : n < s.cells.length) : n < t.cells.length ∧ (t.cells.getD n cell0).kind = (s.cells.getD n cell0).kind ∧ ((s.cells.getD n cell0).kind = 4 → (t.cells.getD n cell0).num = (s.cells.getD n cell0).num) := by
 have h0 : s.cells[n]? = some s.cells[n] := List.getElem?_eq_getElem hn
 obtain ⟨c', h1, h2, h3⟩ := h.cells n _ h0
 have e1 : s.cells.getD n cell0 = s.cells[n] := by rw [List.getD_eq_getElem?_getD, h0]; rfl
 have e2 : t.cells.getD n cell0 = c' := by rw [List.getD_eq_getElem?_getD, h1]; rfl
 rw [e1, e2]
 exact ⟨(List.getElem?_eq_some_iff.1 h1).1, h2, h3⟩
theorem Keeps.fits {s t : StateT} (h : Keeps s t) {v : Int × Int} (hv : fitsF s v = true) : fitsF t v = true := by
 unfold fitsF at hv ⊢
 simp only [Bool.and_eq_true] at hv ⊢
 refine ⟨hv.1, ?_⟩
 have h2 := hv.2
 by_cases k4 : v.1 = 4
 ·rw [if_pos k4] at h2 ⊢
  have := h.texts
  simp at h2 ⊢; omega
 ·rw [if_neg k4] at h2 ⊢
  by_cases k5 : v.1 = 5
  ·rw [if_pos k5] at h2 ⊢
   have h0 := right_lo hv.1 (.inr k5)
   simp only [Bool.and_eq_true, decide_eq_true_eq, Bool.not_eq_true', decide_eq_false_iff_not] at h2 ⊢
   obtain ⟨q1, q2, _⟩ := h.at (n := v.2.toNat) (by omega)
   exact ⟨by omega, by rw [q2]; exact h2.2⟩
  ·rw [if_neg k5]
theorem Keeps.ref {s t : StateT} (h : Keeps s t) {v : Int × Int} {q : Int} (hv : refF s v q = true) : refF t v q = true := by
 unfold refF at hv ⊢
 simp only [Bool.and_eq_true, decide_eq_true_eq] at hv ⊢
 obtain ⟨⟨⟨a, b⟩, c⟩, d⟩ := hv
 obtain ⟨q1, q2, _⟩ := h.at (n := v.2.toNat) (by omega)
 exact ⟨⟨⟨a, b⟩, by omega⟩, by rw [q2]; exact d⟩
theorem Keeps.is {s t : StateT} (h : Keeps s t) {v : Int × Int} {q : Int} (hv : isF' s v q = true) : isF' t v q = true := by
 unfold isF' at hv ⊢
 simp only [Bool.and_eq_true, decide_eq_true_eq] at hv ⊢
 obtain ⟨⟨a, b⟩, c⟩ := hv
 have hr := fits_ref (s := s) (n := v.2) (by rw [← b]; exact a)
 obtain ⟨_, q2, _⟩ := h.at (n := v.2.toNat) (by omega)
 exact ⟨⟨h.fits a, b⟩, by rw [q2]; exact c⟩
theorem Keeps.all {s t : StateT} (h : Keeps s t) {l : List (Int × Int)} (hv : l.all (fitsF s) = true) : l.all (fitsF t) = true :=
 List.all_eq_true.2 fun v hm => h.fits (List.all_eq_true.1 hv v hm)
theorem Keeps.held {s t : StateT} (h : Keeps s t) {f : FrameT} (hf : heldF s f = true) : heldF t f = true := by
 unfold heldF at hf ⊢
 simp only [Bool.and_eq_true] at hf ⊢
 exact ⟨h.all hf.1, h.fits hf.2⟩
theorem Keeps.frame {s t : StateT} (h : Keeps s t) {p : ProgT} {f : FrameT} (hf : frameF p s f = true) : frameF p t f = true := by
 unfold frameF at hf ⊢
 simp only [Bool.and_eq_true, decide_eq_true_eq] at hf ⊢
 obtain ⟨⟨⟨⟨⟨⟨⟨a1, a2⟩, a3⟩, a4⟩, a5⟩, a6⟩, a7⟩, a8⟩ := hf
 have hr := a2
 unfold refF at hr
 simp only [Bool.and_eq_true, decide_eq_true_eq] at hr
 obtain ⟨_, _, q3⟩ := h.at (n := f.self.2.toNat) (by have := hr.1.2; have := hr.1.1.2; omega)
 exact ⟨⟨⟨⟨⟨⟨⟨a1, h.ref a2⟩, by rw [q3 hr.2]; exact a3⟩, a4⟩, a5⟩, a6⟩, a7⟩, h.all a8⟩
theorem Keeps.saved {s t : StateT} (h : Keeps s t) {p : ProgT} {f : FrameT} (hf : savedF p s f = true) : savedF p t f = true := by
 unfold savedF at hf ⊢
 simp only [Bool.and_eq_true] at hf ⊢
 exact ⟨⟨⟨⟨h.frame hf.1.1.1.1, hf.1.1.1.2⟩, hf.1.1.2⟩, hf.1.2⟩, hf.2⟩
theorem Keeps.heap {s t : StateT} (h : Keeps s t) {p : ProgT} {c : CellT} (hc : heapF p s c = true) : heapF p t c = true := by
 unfold heapF at hc ⊢
 split at hc
 ·rename_i h1; rw [if_pos h1]; exact hc
 ·rename_i h1
  rw [if_neg h1]
  split at hc
  ·rename_i h2
   rw [if_pos h2]
   simp only [Bool.or_eq_true] at hc ⊢
   exact hc.imp id h.saved
  ·rename_i h2; rw [if_neg h2]
theorem Keeps.cell {s t : StateT} (h : Keeps s t) (hsh : t.shapes = s.shapes) {c : CellT} (hc : cellF s c = true) : cellF t c = true := by
 unfold cellF at hc ⊢
 simp only [Bool.and_eq_true] at hc ⊢
 obtain ⟨⟨⟨⟨⟨a1, a2⟩, a3⟩, a4⟩, a5⟩, a6⟩ := hc
 have hn : numF t c = numF s c := by unfold numF; rw [hsh]
 refine ⟨⟨⟨⟨⟨a1, by rw [hn]; exact a2⟩, ?_⟩, a4⟩, h.all a5⟩, List.all_eq_true.2 fun f hf => h.held (List.all_eq_true.1 a6 f hf)⟩
 unfold valsF at a3 ⊢
 split at a3
 ·rename_i h1; rw [if_pos h1, hn, hsh]; exact a3
 ·rename_i h1
  rw [if_neg h1]
  split at a3
  ·rename_i h2; rw [if_pos h2]
  ·rename_i h2
   rw [if_neg h2]
   split at a3
   ·rename_i h3; rw [if_pos h3]; exact a3
   ·rename_i h3
    rw [if_neg h3]
    split at a3
    ·rename_i h4
     rw [if_pos h4]
     rw [Bool.not_eq_true', List.any_eq_false] at a3 ⊢
     intro v hv
     have := a3 v hv
     simp only [Bool.not_eq_true, Bool.not_eq_false'] at this ⊢
     exact h.is this
    ·rename_i h4; rw [if_neg h4]; exact a3
structure Runs (s t : StateT) : Prop where
 keeps : Keeps s t
 num : ∀ (k : Nat) (c : CellT), s.cells[k]? = some c → c.kind = 5 → c.num = 1 → ∃ c', t.cells[k]? = some c' ∧ c'.num = 1
theorem Runs.goes {s t : StateT} (h : Runs s t) {k : Nat} {f : FrameT} (hf : goesF s k f = true) : goesF t k f = true := by
 unfold goesF at hf ⊢
 simp only [Bool.and_eq_true] at hf ⊢
 refine ⟨⟨hf.1.1, h.keeps.ref hf.1.2⟩, ?_⟩
 have hr := hf.1.2
 unfold refF at hr
 simp only [Bool.and_eq_true, decide_eq_true_eq] at hr
 have hlt : f.gen.toNat < s.cells.length := by have := hr.1.2; have := hr.1.1.2; omega
 have h0 : s.cells[f.gen.toNat]? = some s.cells[f.gen.toNat] := List.getElem?_eq_getElem hlt
 have e1 : s.cells.getD f.gen.toNat cell0 = s.cells[f.gen.toNat] := by rw [List.getD_eq_getElem?_getD, h0]; rfl
 have h3 := hr.2
 have h4 := hf.2
 simp only [decide_eq_true_eq] at h4
 rw [e1] at h4
 simp only [e1] at h3
 obtain ⟨c', q1, q2⟩ := h.num _ _ h0 h3 h4
 have e2 : t.cells.getD f.gen.toNat cell0 = c' := by rw [List.getD_eq_getElem?_getD, q1]; rfl
 rw [e2]; simp [q2]
theorem Runs.on {s t : StateT} (h : Keeps s t) {p : ProgT} {low : Int} {f : FrameT} (hf : onF p s low f = true) : onF p t low f = true := by
 unfold onF at hf ⊢
 simp only [Bool.and_eq_true] at hf ⊢
 exact ⟨⟨⟨h.frame hf.1.1.1, hf.1.1.2⟩, hf.1.2⟩, hf.2⟩
theorem Runs.stack {s t : StateT} (h : Runs s t) {p : ProgT} : ∀ {fs : List FrameT} {k : Nat} {low : Int}, stackR p s k low fs → stackR p t k low fs
 | [], _, _, _ => trivial
 | f :: fs, k, low, hs => ⟨⟨Runs.on h.keeps hs.1.1, fun h0 => h.goes (hs.1.2 h0)⟩, Runs.stack h hs.2⟩
theorem stackR_at {p : ProgT} {s : StateT} : ∀ {fs : List FrameT} {k : Nat} {low : Int} {i : Nat} {f : FrameT}, stackR p s k low fs → fs[i]? = some f → ∃ low', onF p s low' f = true ∧ (0 ≤ f.gen → goesF s (k + i) f = true)
 | f0 :: fs, k, low, 0, f, h, hf => by simp at hf; subst hf; exact ⟨_, h.1⟩
 | f0 :: fs, k, low, i + 1, f, h, hf => by
  have := stackR_at (i := i) h.2 (by simpa using hf)
  rwa [show k + 1 + i = k + (i + 1) by omega] at this
 | [], _, _, _, _, _, hf => by simp at hf
theorem on_frame {p : ProgT} {s : StateT} {low : Int} {f : FrameT} (h : onF p s low f = true) : frameF p s f = true := by
 unfold onF at h
 simp only [Bool.and_eq_true] at h
 exact h.1.1.1
theorem FC_nil3 (n : Nat) {C : Ctx} {f : Nat} {args : List AV} {rs0 : List (Nat × Nat × Res)} {xs ys : List RV} {y z : AV} (hf : FC C f args rs0 (.tup [.agg (xs.map .r), y, z]) []) (h : rowB (nilB n) xs ys) : FC C f args rs0 (.tup [.agg (ys.map .r), y, z]) [] := by
 refine FC_res hf fun cur g w N v hv => ?_
 cases hv with
 | tup _ us hs hu =>
  refine .tup _ us hs fun j x u hx hju => ?_
  match j with
  | 0 =>
   simp at hx; subst hx
   exact AR.nilD (rowB_len h) (fun j x y hx hy => nilB_ok n x y (rowB_at h hx hy)) (hu 0 _ u rfl hju)
  | 1 => exact hu 1 x u hx hju
  | 2 => exact hu 2 x u hx hju
  | j + 3 => simp at hx
theorem ndRs_valM (l : List (Int × Int)) : ndRs (l.map valN) = l.map valR := by rw [ndRs_map, List.map_map]; rfl
theorem ndRs_frameM (l : List FrameT) : ndRs (l.map frameM) = l.map frameR := by
 rw [ndRs_map, List.map_map]
 refine List.map_congr_left fun f _ => ?_
 show [_, _, _, _, _, _, RV.rs 2 (ndRs (f.regs.map valN)), _] = _
 rw [ndRs_valM]; rfl
@[go_sem] theorem lendR_cellM (n : Nat) (st : St) : ∀ (l : List CellT) (K : List Loc → List (List RV) → Prop), lendR (lendC n st) (l.map cellA2) K = K [] (l.map cellR)
 | [], K => rfl
 | x :: l, K => by
  have e : cellR x = [.v (.int .i64 x.kind), .v (.int .i64 x.num), .rs 2 (x.vals.map valR), .rs 8 (ndRs (x.frames.map frameM))] := by rw [ndRs_frameM]
  cases n <;> (simp only [List.map_cons, lendR, lendL, lendC, e]; rw [lendR_cellM _ st l]; rfl)
@[go_sem] theorem lendR_threadM (n : Nat) (st : St) : ∀ (l : List ThreadT) (K : List Loc → List (List RV) → Prop), lendR (lendC n st) (l.map threadA2) K = K [] (l.map threadR)
 | [], K => rfl
 | x :: l, K => by
  have e : threadR x = [.rs 8 (ndRs (x.frames.map frameM)), .v (.int .i64 x.state), .v (.int .i64 x.on), .v (.int .i64 x.val.1), .v (.int .i64 x.val.2)] := by rw [ndRs_frameM]
  cases n <;> (simp only [List.map_cons, lendR, lendL, lendC, e]; rw [lendR_threadM _ st l]; rfl)
@[go_sem] theorem renL_cells (σ δ : Nat → Nat) (l : List CellT) : (l.map cellA2).map (renL σ δ) = l.map cellA2 := by rw [List.map_map]; exact List.map_congr_left fun x _ => rfl
@[go_sem] theorem renL_threads (σ δ : Nat → Nat) (l : List ThreadT) : (l.map threadA2).map (renL σ δ) = l.map threadA2 := by rw [List.map_map]; exact List.map_congr_left fun x _ => rfl
theorem cellEB2 (c : CellT) : rowEB (cellA2 c) (cellR c) := ⟨rfl, rfl, rfl, congrArg (RV.rs 8) (ndRs_frameM _).symm, trivial⟩
theorem threadEB2 (t : ThreadT) : rowEB (threadA2 t) (threadR t) := ⟨congrArg (RV.rs 8) (ndRs_frameM _).symm, rfl, rfl, rfl, rfl, trivial⟩
theorem copy_Q (s : StateT) (hm : Sml s) (a b : Nat) (hab : (a == b) = false) : NOk (C := Cx) 84 [(7, a), (16, b)] [stateV s] (.agg [.os 7 1, valsV s.shapes, strsV s.texts, .os 16 1, endsV s.ends, valsV s.said, Iv s.asked, Iv s.steps]) [ownC 7 1 s.cells, ownT 16 1 s.threads] :=
 ⟨copy_c s hm, rfl, by simp [ndB, memN, show a ≠ b by simpa using hab], rfl, rfl, fun _ _ => rfl, rfl, fun p hp => by
  rcases List.mem_cons.1 hp with rfl | hp
  ·exact insCp s.cells s.threads 7
  ·rcases List.mem_cons.1 hp with rfl | hp
   ·exact insCp s.cells s.threads 16
   ·simp at hp, fun q hq => by
  rcases List.mem_cons.1 hq with rfl | hq
  ·exact ⟨rfl, Nat.le_refl _⟩
  ·rcases List.mem_cons.1 hq with rfl | hq
   ·exact ⟨rfl, Nat.le_refl _⟩
   ·simp at hq⟩
def thrS (s : StateT) (th : Nat) (t : ThreadT) (v : Int × Int) : StateT := ⟨(unwF v t.frames t.frames.length s.cells).1, s.shapes, s.texts, s.threads.set th (thrT v t (unwF v t.frames t.frames.length s.cells)), s.ends, s.said, s.asked, s.steps⟩
def thrE (p : ProgT) (s : StateT) (th : Nat) (t : ThreadT) (f : FrameT) (v : Int × Int) : List EventT := [{ atF p s th f with kind := 7, val := v }, { atF p s th f with kind := if (unwF v t.frames t.frames.length s.cells).2.2 = true then 8 else 17, val := v }]
theorem do_Q (s : StateT) (th : Nat) (t : ThreadT) (v : Int × Int) (e : EventT) (ht : s.threads[th]? = some t) (hl : t.frames.length ≤ 1000000000) (hcl : s.cells.length ≤ 1000000000)
  (hfs : ∀ f ∈ t.frames, (f.tries.length ≤ 1000000000 ∧ ∀ y ∈ f.tries, 0 ≤ y.1 ∧ y.1 < (f.regs.length : Int)) ∧ (0 ≤ f.gen → f.gen < (s.cells.length : Int))) (k a b d0 d1 d2 : Nat) (hab : (k == a || k == b || a == b) = false) :
  QOk (C := Cx) 85 [(0, k, d0), (1, a, d1), (2, b, d2)] [.os 0 0, Iv th, VV v.1 v.2, eventA e] [boxS s 0 0 1 0 2 0, ownC 1 0 s.cells, ownT 2 0 s.threads]
   (eventsV [{ e with kind := 7, val := v }, { e with kind := if (unwF v t.frames t.frames.length s.cells).2.2 = true then 8 else 17, val := v }])
   [boxS s 0 0 1 0 2 0, ownC 1 0 (thrS s th t v).cells, ownT 2 0 (thrS s th t v).threads] := by
 have hab' : (k ≠ a ∧ k ≠ b) ∧ a ≠ b := by simpa using hab
 have hi : ∀ (cs : List CellT) (ts : List ThreadT), ∀ p ∈ [boxS s 0 0 1 0 2 0, ownC 1 0 cs, ownT 2 0 ts], withinRes (domR [boxS s 0 0 1 0 2 0, ownC 1 0 cs, ownT 2 0 ts]) p.2.2 := fun cs ts p hp => by
  rcases List.mem_cons.1 hp with rfl | hp
  ·exact insDo s cs ts 0
  ·rcases List.mem_cons.1 hp with rfl | hp
   ·exact insDo s cs ts 1
   ·rcases List.mem_cons.1 hp with rfl | hp
    ·exact insDo s cs ts 2
    ·simp at hp
 exact ⟨do_c s th t v e ht hl hcl hfs, rfl, by simp [ndB, memN, hab'], rfl, rfl, rfl, hi _ _, hi _ _⟩
theorem heap_one {s : StateT} (h : checkS s = 0) {c : CellT} (hc : c ∈ s.cells) (k5 : c.kind = 5) (n0 : c.num = 0) : c.frames.length = 1 := by
 have := (checkS_iff.1 h).cells c hc
 unfold cellF at this
 simp only [Bool.and_eq_true, decide_eq_true_eq] at this
 obtain ⟨⟨⟨_, a4⟩, _⟩, _⟩ := this
 have : framesN c = 1 := if_pos ⟨k5, n0⟩
 rw [this] at a4; omega
theorem right_small {p : ProgT} {s : StateT} (hw : Pwf p) (hR : RightS p s) : Sml s ∧ (∀ t ∈ s.threads, t.frames.length ≤ 30 ∧ ∀ f ∈ t.frames, (f.tries.length ≤ 1000000000 ∧ ∀ y ∈ f.tries, 0 ≤ y.1 ∧ y.1 < (f.regs.length : Int)) ∧ (0 ≤ f.gen → f.gen < (s.cells.length : Int))) := by
 have hH := checkS_iff.1 hR.heap
 have hfew := hR.few
 unfold manyS at hfew
 simp only [Bool.or_eq_false_iff, decide_eq_false_iff_not, List.any_eq_false, decide_eq_true_eq] at hfew
 have h100 : s.shapes.length ≤ 100 := (Sh.good_ups hH.shapes 0).2.1
 have fr : ∀ f : FrameT, frameF p s f = true → f.regs.length ≤ 1000000000 ∧ f.tries.length ≤ 1000000000 ∧ ∀ y ∈ f.tries, 0 ≤ y.1 ∧ y.1 < (f.regs.length : Int) := fun f hf => by
  obtain ⟨a1, a2, a3, a4⟩ := frame_tries hw hR.prog hf
  refine ⟨by omega, by omega, fun y hy => ?_⟩
  obtain ⟨j, hj⟩ := List.mem_iff_getElem?.1 hy
  rw [a3]; exact (a4 j y hj).1
 have thr : ∀ t ∈ s.threads, t.frames.length ≤ 30 ∧ ∀ f ∈ t.frames, frameF p s f = true ∧ (0 ≤ f.gen → f.gen < (s.cells.length : Int)) := fun t ht => by
  refine ⟨by have := hfew.2 t ht; omega, fun f hf => ?_⟩
  obtain ⟨j, hj⟩ := List.mem_iff_getElem?.1 hf
  obtain ⟨low, ho, hg⟩ := stackR_at (hR.threads t ht).2 hj
  refine ⟨on_frame ho, fun h0 => ?_⟩
  have := hg h0
  unfold goesF at this
  simp only [Bool.and_eq_true] at this
  exact (ref_on this.1.2).2.1
 refine ⟨⟨by have := hH.cellN; omega, by omega, by have := hH.textN; omega, by omega, by have := hH.endN; omega, by have := hH.saidN; omega, fun c hc => ?_, fun c hc => ?_, fun t ht => ⟨by have := (thr t ht).1; omega, fun f hf => ⟨(fr f ((thr t ht).2 f hf).1).1, (fr f ((thr t ht).2 f hf).1).2.1⟩⟩⟩, fun t ht => ⟨(thr t ht).1, fun f hf => ⟨(fr f ((thr t ht).2 f hf).1).2, ((thr t ht).2 f hf).2⟩⟩⟩
 ·have := hH.valN c hc
  unfold bigC at this
  simp at this; omega
 ·have hcf := hH.cells c hc
  by_cases hg : c.kind = 5 ∧ c.num = 0
  ·have h1 := heap_one hR.heap hc hg.1 hg.2
   obtain ⟨f, hf⟩ := List.length_eq_one_iff.1 h1
   have hh := hR.cells c hc
   unfold heapF at hh
   rw [if_neg (by rw [hg.1]; decide), if_pos hg.1, hg.2, hf] at hh
   have hs : savedF p s f = true := by simpa using hh
   unfold savedF at hs
   simp only [Bool.and_eq_true] at hs
   have hfr := fr f hs.1.1.1.1
   rw [hf]
   exact ⟨by simp, fun g hg' => by simp at hg'; subst hg'; exact ⟨hfr.1, hfr.2.1⟩⟩
  ·have h1 : framesN c = 0 := if_neg hg
   unfold cellF at hcf
   simp only [Bool.and_eq_true, decide_eq_true_eq] at hcf
   have h2 := hcf.1.1.2
   rw [h1] at h2
   have h3 : c.frames = [] := List.length_eq_zero_iff.1 (by omega)
   rw [h3]
   exact ⟨by simp, fun g hg' => by simp at hg'⟩
theorem frames2_c (fs : List FrameT) (hl : fs.length ≤ 1000000000) (hr : ∀ f ∈ fs, f.regs.length ≤ 1000000000 ∧ f.tries.length ≤ 1000000000) : FC Cx 143 [framesV fs] [] (.os 0 1) [(0, 1, .sl 61 8 (fs.map frameA2))] := by
 have l1 : (fs.map frameR).length = fs.length := List.length_map ..
 refine FCo_of [] (i := 0) [.os 0 1] Tryz.func143 rfl Tryz.ntmps143 (by simp) Tryz.results143 (flatFrameM _) ?_
 refine rnst ?_
 (any_goals refine go lv143 0 ?_)
 (apply Rn_ownnil 3 1003 61 8; (exact rfl); (exact rfl); (intro K0; (try simp only [go_sem]); exact ⟨id⟩))
 refine Rn_loopS (fun x : Nat × Nat => x.1 ≤ fs.length) (fun x => ⟨28, [(3, .os 1003 (1 + x.1)), (6, framesV fs), (7, Iv fs.length), (8, Iv x.1)], [(1003, 1 + x.1, .sl 61 8 ((fs.take x.1).map frameA2)), (5, x.2, .gone), (12, x.2, .gone), (16, x.2, .gone), (24, x.2, .gone)]⟩) (fun x => fs.length - x.1) (0, 0) (Nat.zero_le _) ?_
 rintro ⟨i, u⟩ hi
 dsimp only at hi ⊢
 by_cases hlt : i < fs.length
 case neg =>
  obtain rfl : i = fs.length := by omega
  have e1 := each_end fs
  rw [List.take_length]
  (any_goals refine go lv143 0 ?_)
  all_goals (try simp only [go_sem])
 obtain ⟨f, hx, hg, h1, h2, hw⟩ := each_at frameR fs hlt (by omega)
 obtain ⟨r1, r2⟩ := hr f (List.mem_of_getElem? hx)
 have l3 : (f.regs.map valR).length = f.regs.length := List.length_map ..
 have l4 : (f.tries.map tryR).length = f.tries.length := List.length_map ..
 have l5 : (f.regs.map valC).length = f.regs.length := List.length_map ..
 have l6 : (f.tries.map tryC).length = f.tries.length := List.length_map ..
 have hnx : (fs.take (i + 1)).map frameA2 = (fs.take i).map frameA2 ++ [frameA2 f] := by rw [List.take_add_one, hx, List.map_append]; rfl
 have hL : ((fs.take i).map frameA2).length = i := by rw [List.length_map, List.length_take]; omega
 generalize (fs.take i).map frameA2 = L at *
 (any_goals refine go (dropL 6 lv143) 0 ?_)
 (apply Rn_frzS 16 (f.tries.map tryR); (exact rfl); (exact (roTryC f.tries).symm); (exact rfl); (intro K0; (try simp only [go_sem]); exact ⟨id⟩))
 have qa : ∀ X : List AV, (L ++ [X])[i]? = some X := fun X => by rw [List.getElem?_append_right (by omega), hL, Nat.sub_self]; rfl
 have qs : ∀ X Y : List AV, (L ++ [X]).set i Y = L ++ [Y] := fun X Y => by rw [List.set_append_right _ _ (by omega), hL, Nat.sub_self]; rfl
 (any_goals refine go (dropL 7 lv143) 0 ?_)
 (apply Rn_closeS 1003 i 6 12 (f.regs.map valN); (exact rfl); (exact qa _); (exact rfl); (exact (by decide)); (exact congrArg (fun z => (u + 1 + 1, Res.sl 50 2 z)) (valN_C f.regs).symm); (exact rfl); (intro K0; (try simp only [go_sem, qs]); exact ⟨id⟩))
 clear qa qs
 (any_goals refine go lv143 0 ?_)
 refine ⟨(i + 1, u + 9), by dsimp only; omega, by dsimp only; omega, ?_⟩
 dsimp only
 rw [hnx]
 exact Le_subA
theorem frames2'_c (xs : List (List RV)) (h : xs = (framesOf xs).map frameR ∧ (framesOf xs).length ≤ 1000000000 ∧ ∀ f ∈ framesOf xs, f.regs.length ≤ 1000000000 ∧ f.tries.length ≤ 1000000000) : FC Cx 143 [.r (.rs 8 xs)] [] (.os 0 1) [(0, 1, .sl 61 8 ((framesOf xs).map frameA2))] := by
 have := frames2_c (framesOf xs) h.2.1 h.2.2
 rwa [show framesV (framesOf xs) = .r (.rs 8 xs) from by show AV.r (RV.rs 8 ((framesOf xs).map frameR)) = _; rw [← h.1]] at this
theorem frames2'_rows (xs : List (List RV)) : ∀ row ∈ (framesOf xs).map frameA2, withinL none0 row = true := flatFrameM _
def sp_frames2' (st : St) (d : Nat) (args : List AV) (K : AV → List Loc → List (Loc × Cont) → Prop) : Prop := match args with
 | [.r (.rs 8 xs)] => (xs = (framesOf xs).map frameR ∧ (framesOf xs).length ≤ 1000000000 ∧ ∀ f ∈ framesOf xs, f.regs.length ≤ 1000000000 ∧ f.tries.length ≤ 1000000000) ∧ K (ren (fun _ => d) (fun _ => st.cur d) (.os 0 1)) [.R d] [(.R d, .s (1 + st.cur d) (.sl 61 8 ((framesOf xs).map frameA2)))]
 | _ => False
theorem sp_frames2'_ok (st : St) (d : Nat) (args : List AV) (K : AV → List Loc → List (Loc × Cont) → Prop) (h : sp_frames2' st d args K) : ∃ r ls outs, CallR Cx 143 st args r ls outs ∧ K r ls outs := by
 unfold sp_frames2' at h
 split at h
 ·exact ⟨_, _, _, CallR.own (frames2'_c _ h.1) rfl (frames2'_rows _) rfl d, h.2⟩
 ·exact h.elim
noncomputable def ct_frames2' : Ct Cx := .res 143 sp_frames2' en143 sp_frames2'_ok
@[go_sem] theorem ct_frames2'_g : ct_frames2'.g = 143 := rfl
@[go_sem] theorem ct_frames2'_run (c : Call) (fop : Operand) (caps : List AV) (o : Oper) (st : St) (K : List Loc → List (Loc × Cont) → Prop) : ct_frames2'.run c fop caps o st K = callG sp_frames2' c fop caps o st K := rfl
@[go_sem] theorem sp_frames2'_eq : type_of% @sp_frames2'.eq_def := @sp_frames2'.eq_def
theorem insCp2 (a b : Nat) (cs : List CellT) (ts : List ThreadT) (k : Nat) : withinRes (domR [ownC 1004 a cs, ownT 1007 b ts]) (lookR k [ownC 1004 a cs, ownT 1007 b ts]).2 := by
 have e : lookR k [ownC 1004 a cs, ownT 1007 b ts] = if k = 1004 then (a, .sl 48 4 (cs.map cellA2)) else if k = 1007 then (b, .sl 56 5 (ts.map threadA2)) else (0, .gone) := rfl
 rw [e]
 split
 ·exact fun row h => by obtain ⟨x, _, rfl⟩ := List.mem_map.1 h; rfl
 ·split
  ·exact fun row h => by obtain ⟨x, _, rfl⟩ := List.mem_map.1 h; rfl
  ·trivial
theorem copied_c (s : StateT) (hm : Sml s) : FC Cx 87 [stateV s] [] (.agg [.os 1004 (1 + s.cells.length), valsV s.shapes, strsV s.texts, .os 1007 (1 + s.threads.length), endsV s.ends, valsV s.said, Iv s.asked, Iv s.steps]) [ownC 1004 (1 + s.cells.length) s.cells, ownT 1007 (1 + s.threads.length) s.threads] := by
 obtain ⟨m1, m2, m3, m4, m5, m6, m7, m8, m9⟩ := hm
 have l1 : (s.cells.map cellR).length = s.cells.length := List.length_map ..
 have l2 : (s.shapes.map valC).length = s.shapes.length := List.length_map ..
 have l3 : (s.texts.map strC).length = s.texts.length := List.length_map ..
 have l4 : (s.threads.map threadR).length = s.threads.length := List.length_map ..
 have l5 : (s.ends.map endC).length = s.ends.length := List.length_map ..
 have l6 : (s.said.map valC).length = s.said.length := List.length_map ..
 refine FCm_of [ct_frames2']  Tryz.func87 rfl Tryz.ntmps87 (by simp) Tryz.results87 rfl (insCp2 _ _ _ _) ?_
 refine rnst ?_
 (any_goals refine go lv87 0 ?_)
 (apply Rn_ownnil 4 1004 48 4; (exact rfl); (exact rfl); (intro K0; (try simp only [go_sem]); exact ⟨id⟩))
 refine Rn_loopS (fun x : Nat × Nat => x.1 ≤ s.cells.length) (fun x => ⟨74, [(1, .os 1 1), (2, .os 2 1), (3, .r (.fn 143 [])), (4, .os 1004 (1 + x.1)), (11, cellsV s.cells), (12, Iv s.cells.length), (13, Iv x.1)], [(1, 1, .bx [cellsV s.cells, valsV s.shapes, strsV s.texts, threadsV s.threads, endsV s.ends, valsV s.said, Iv s.asked, Iv s.steps]), (2, 1, .bx [NilS, NilS, NilS, NilS, NilS, NilS, Iv 0, Iv 0]), (1004, 1 + x.1, .sl 48 4 ((s.cells.take x.1).map cellA2)), (6, x.2, .gone), (17, x.2, .gone), (24, x.2, .gone), (29, x.2, .gone)]⟩) (fun x => s.cells.length - x.1) (0, 0) (Nat.zero_le _) ?_
 rintro ⟨i, u⟩ hi
 dsimp only at hi ⊢
 by_cases hlt : i < s.cells.length
 case pos =>
  obtain ⟨c, hx, hg, h1, h2, hw⟩ := each_at cellR s.cells hlt (by omega)
  have r1 := m7 c (List.mem_of_getElem? hx)
  obtain ⟨r2, r3⟩ := m8 c (List.mem_of_getElem? hx)
  have l9 : (c.vals.map valC).length = c.vals.length := List.length_map ..
  have l10 : (c.frames.map frameR).length = c.frames.length := List.length_map ..
  have hnx : (s.cells.take (i + 1)).map cellA2 = (s.cells.take i).map cellA2 ++ [cellA2 c] := by rw [List.take_add_one, hx, List.map_append]; rfl
  have hL : ((s.cells.take i).map cellA2).length = i := by rw [List.length_map, List.length_take]; omega
  generalize (s.cells.take i).map cellA2 = L at *
  have qa : ∀ X : List AV, (L ++ [X])[i]? = some X := fun X => by rw [List.getElem?_append_right (by omega), hL, Nat.sub_self]; rfl
  have qs : ∀ X Y : List AV, (L ++ [X]).set i Y = L ++ [Y] := fun X Y => by rw [List.set_append_right _ _ (by omega), hL, Nat.sub_self]; rfl
  clear m7 m8 m9
  (any_goals refine go (dropL 7 lv87) 0 ?_)
  (apply Rn_frzS 17 (c.vals.map valR); (exact rfl); (exact (roValC c.vals).symm); (exact rfl); (intro K0; (try simp only [go_sem]); exact ⟨id⟩))
  (any_goals refine go (dropL 8 lv87) 0 ?_)
  (apply Rn_closeS 1004 i 3 24 (c.frames.map frameM); (exact rfl); (exact qa _); (exact rfl); (exact (by decide)); (exact congrArg (fun z => (1 + u, Res.sl 61 8 z)) (frameM_A c.frames).symm); (exact rfl); (intro K0; (try simp only [go_sem, qs]); exact ⟨id⟩))
  clear qa qs
  (any_goals refine go lv87 0 ?_)
  refine ⟨(i + 1, u + 9), by dsimp only; omega, by dsimp only; omega, ?_⟩
  dsimp only
  rw [hnx]
  exact Le_subA
 obtain rfl : i = s.cells.length := by omega
 have e1 := each_end s.cells
 rw [List.take_length]
 clear hi hlt
 (any_goals refine go lv87 0 ?_)
 clear e1
 (apply Rn_ownnil 7 1007 56 5; (exact rfl); (exact rfl); (intro K0; (try simp only [go_sem]); exact ⟨id⟩))
 refine Rn_loopS (fun x : Nat × Nat => x.1 ≤ s.threads.length) (fun x => ⟨74, [(1, .os 1 1), (2, .os 2 1), (3, .r (.fn 143 [])), (4, .os 1004 (1 + s.cells.length)), (7, .os 1007 (1 + x.1)), (33, threadsV s.threads), (34, Iv s.threads.length), (35, Iv x.1)], [(1, 1, .bx [cellsV s.cells, valsV s.shapes, strsV s.texts, threadsV s.threads, endsV s.ends, valsV s.said, Iv s.asked, Iv s.steps]), (2, 1, .bx [NilS, NilS, NilS, NilS, NilS, NilS, Iv 0, Iv 0]), (1004, 1 + s.cells.length, .sl 48 4 (s.cells.map cellA2)), (6, u, .gone), (17, u, .gone), (24, u, .gone), (29, u, .gone), (1007, 1 + x.1, .sl 56 5 ((s.threads.take x.1).map threadA2)), (9, x.2, .gone), (42, x.2, .gone), (46, x.2, .gone)]⟩) (fun x => s.threads.length - x.1) (0, 0) (Nat.zero_le _) ?_
 rintro ⟨i, w⟩ hi
 dsimp only at hi ⊢
 by_cases hlt : i < s.threads.length
 case pos =>
  obtain ⟨t, hx, hg, h1, h2, hw⟩ := each_at threadR s.threads hlt (by omega)
  obtain ⟨r2, r3⟩ := m9 t (List.mem_of_getElem? hx)
  have l10 : (t.frames.map frameR).length = t.frames.length := List.length_map ..
  have hnx : (s.threads.take (i + 1)).map threadA2 = (s.threads.take i).map threadA2 ++ [threadA2 t] := by rw [List.take_add_one, hx, List.map_append]; rfl
  have hL : ((s.threads.take i).map threadA2).length = i := by rw [List.length_map, List.length_take]; omega
  generalize (s.threads.take i).map threadA2 = L at *
  have qa : ∀ X : List AV, (L ++ [X])[i]? = some X := fun X => by rw [List.getElem?_append_right (by omega), hL, Nat.sub_self]; rfl
  have qs : ∀ X Y : List AV, (L ++ [X]).set i Y = L ++ [Y] := fun X Y => by rw [List.set_append_right _ _ (by omega), hL, Nat.sub_self]; rfl
  clear m7 m8 m9
  (any_goals refine go (dropL 15 lv87) 0 ?_)
  (apply Rn_closeS 1007 i 0 42 (t.frames.map frameM); (exact rfl); (exact qa _); (exact rfl); (exact (by decide)); (exact congrArg (fun z => (1 + w, Res.sl 61 8 z)) (frameM_A t.frames).symm); (exact rfl); (intro K0; (try simp only [go_sem, qs]); exact ⟨id⟩))
  clear qa qs
  (any_goals refine go lv87 0 ?_)
  refine ⟨(i + 1, w + 9), by dsimp only; omega, by dsimp only; omega, ?_⟩
  dsimp only
  rw [hnx]
  exact Le_subA
 obtain rfl : i = s.threads.length := by omega
 have e1 := each_end s.threads
 rw [List.take_length]
 clear hi hlt
 (any_goals refine go (dropL 19 lv87) 0 ?_)
 (apply Rn_frzS 53 (s.shapes.map valR); (exact rfl); (exact (roValC s.shapes).symm); (exact rfl); (intro K0; (try simp only [go_sem]); exact ⟨id⟩))
 (apply Rn_frzS 57 (s.texts.map strR); (exact rfl); (exact (roStrC s.texts).symm); (exact rfl); (intro K0; (try simp only [go_sem]); exact ⟨id⟩))
 (apply Rn_frzS 63 (s.ends.map endR); (exact rfl); (exact (roEndC s.ends).symm); (exact rfl); (intro K0; (try simp only [go_sem]); exact ⟨id⟩))
 (apply Rn_frzS 67 (s.said.map valR); (exact rfl); (exact (roValC s.said).symm); (exact rfl); (intro K0; (try simp only [go_sem]); exact ⟨id⟩))
 (any_goals refine go lv87 0 ?_)
 all_goals (try simp only [go_sem])
theorem copied_Q (s : StateT) (hm : Sml s) (a b : Nat) (hab : (a == b) = false) : NOk (C := Cx) 87 [(1004, a), (1007, b)] [stateV s] (.agg [.os 1004 (1 + s.cells.length), valsV s.shapes, strsV s.texts, .os 1007 (1 + s.threads.length), endsV s.ends, valsV s.said, Iv s.asked, Iv s.steps]) [ownC 1004 (1 + s.cells.length) s.cells, ownT 1007 (1 + s.threads.length) s.threads] :=
 ⟨copied_c s hm, rfl, by simp [ndB, memN, show a ≠ b by simpa using hab], rfl, rfl, fun _ _ => rfl, rfl, fun p hp => by
  rcases List.mem_cons.1 hp with rfl | hp
  ·exact insCp2 _ _ s.cells s.threads 1004
  ·rcases List.mem_cons.1 hp with rfl | hp
   ·exact insCp2 _ _ s.cells s.threads 1007
   ·simp at hp, fun q hq => by
  rcases List.mem_cons.1 hq with rfl | hq
  ·exact ⟨rfl, Nat.le_add_right ..⟩
  ·rcases List.mem_cons.1 hq with rfl | hq
   ·exact ⟨rfl, Nat.le_add_right ..⟩
   ·simp at hq⟩
theorem told'_c (e1 e2 e3 e4 e5 e6 e7 e8 e9 f1 f2 f3 k a b v1 v2 o1 o2 : Int) : FC Cx 88 [.agg [Iv e1, Iv e2, Iv e3, Iv e4, Iv e5, Iv e6, Iv e7, Iv e8, Iv e9, Iv f1, Iv f2, Iv f3], Iv k, Iv a, Iv b, VV v1 v2, VV o1 o2] [] (.agg [Iv k, Iv e2, Iv e3, Iv e4, Iv e5, Iv e6, Iv a, Iv b, Iv v1, Iv v2, Iv o1, Iv o2]) [] :=
 rTold_c ⟨e1, e2, e3, e4, e5, e6, e7, e8, (e9, f1), (f2, f3)⟩ k a b (v1, v2) (o1, o2)
def sp_told' (args : List AV) (K : AV → Prop) : Prop := match args with
 | [.agg [.r (.v (.int .i64 e1)), .r (.v (.int .i64 e2)), .r (.v (.int .i64 e3)), .r (.v (.int .i64 e4)), .r (.v (.int .i64 e5)), .r (.v (.int .i64 e6)), .r (.v (.int .i64 e7)), .r (.v (.int .i64 e8)), .r (.v (.int .i64 e9)), .r (.v (.int .i64 f1)), .r (.v (.int .i64 f2)), .r (.v (.int .i64 f3))], .r (.v (.int .i64 k)), .r (.v (.int .i64 a)), .r (.v (.int .i64 b)), .agg [.r (.v (.int .i64 v1)), .r (.v (.int .i64 v2))], .agg [.r (.v (.int .i64 o1)), .r (.v (.int .i64 o2))]] => K (.agg [Iv k, Iv e2, Iv e3, Iv e4, Iv e5, Iv e6, Iv a, Iv b, Iv v1, Iv v2, Iv o1, Iv o2])
 | _ => False
noncomputable abbrev ct_told' : Ct Cx := .pure 88 sp_told' fun args K h => by
 unfold sp_told' at h; split at h; exact ⟨_, CallOk_of (told'_c _ _ _ _ _ _ _ _ _ _ _ _ _ _ _ _ _ _ _) en88 rfl rfl, h⟩; exact h.elim
@[go_sem] theorem sp_told'_eq : type_of% @sp_told'.eq_def := @sp_told'.eq_def
abbrev toldE (e : EventT) (k : Int) (v : Int × Int) : EventT := { e with kind := k, a := 0, b := 0, val := v, old := (0, 0) }
theorem thrown_c (s : StateT) (th : Nat) (t : ThreadT) (v : Int × Int) (e : EventT) (hm : Sml s) (ht : s.threads[th]? = some t) (hl : t.frames.length ≤ 1000000000)
  (hfs : ∀ f ∈ t.frames, (f.tries.length ≤ 1000000000 ∧ ∀ y ∈ f.tries, 0 ≤ y.1 ∧ y.1 < (f.regs.length : Int)) ∧ (0 ≤ f.gen → f.gen < (s.cells.length : Int))) :
  FC Cx 36 [stateV s, Iv th, VV v.1 v.2, eventA e] [] (.tup [stateV (thrS s th t v), eventsV [toldE e 7 v, toldE e (if (unwF v t.frames t.frames.length s.cells).2.2 = true then 8 else 17) v]]) [] := by
 have hk := (List.getElem?_eq_some_iff.1 ht).1
 have t1 : Int.toNat (th : Int) = th := by omega
 have hcl := hm.cells
 have q0 := copied_Q s hm 300 301 rfl
 have en : Enters Cx.P 87 := en87
 have eS : stateV (thrS s th t v) = .agg [cellsV (unwF v t.frames t.frames.length s.cells).1, valsV s.shapes, strsV s.texts, threadsV (s.threads.set th (thrT v t (unwF v t.frames t.frames.length s.cells))), endsV s.ends, valsV s.said, Iv s.asked, Iv s.steps] := rfl
 rw [eS]
 clear eS hm
 obtain ⟨vk, vn⟩ := v
 dsimp only at *
 refine FCf_of [ctN 87 [(1004, 300), (1007, 301)] [stateV s] (.agg [.os 1004 (1 + s.cells.length), valsV s.shapes, strsV s.texts, .os 1007 (1 + s.threads.length), endsV s.ends, valsV s.said, Iv s.asked, Iv s.steps]) [ownC 1004 (1 + s.cells.length) s.cells, ownT 1007 (1 + s.threads.length) s.threads] en q0, ct_told'] Tryz.func36 rfl Tryz.ntmps36 (by simp) Tryz.results36 rfl ?_
 refine rnst ?_
 refine goR ?_
 refine fzB 6 ?_
 refine fzB 7 ?_
 (any_goals refine go (dropL 4 lv36) 0 ?_)
 refine fzB 10 ?_
 have q2 : (s.threads.map threadA2)[th]? = some (threadA2 t) := by rw [List.getElem?_map, ht]; rfl
 have q1 : (s.threads.map threadA2).length = s.threads.length := List.length_map ..
 generalize hT0 : s.threads.map threadA2 = T0 at *
 have q4 : ∀ X, (T0.set th X).length = s.threads.length := fun X => by rw [List.length_set, q1]
 have q6 : ∀ X, (T0.set th X).getD th [] = X := fun X => by rw [List.getD_eq_getElem?_getD, List.getElem?_set_self (by omega)]; rfl
 have q7 : ∀ X Y, (T0.set th X).set th Y = T0.set th Y := fun X Y => List.set_set ..
 (apply Rn_openS 301 th 0 201; (exact rfl); (exact q2); (exact rfl); (exact rfl); (exact rfl); (intro K0; (try simp only [go_sem, frameM_A]); exact ⟨id⟩))
 have lf0 : (t.frames.map frameA2).length = t.frames.length := List.length_map ..
 (any_goals refine go lv36 0 ?_)
 refine Rn_T [ct_told'] ?_
 rw [show t.frames.map frameA2 = (t.frames.take t.frames.length).map frameA2 by rw [List.take_length]]
 generalize 1 + s.cells.length + 0 = VA
 generalize 1 + s.threads.length + 0 = VB
 clear q0 lf0
 refine Rn_loopS (fun x : Nat × Nat × List CellT × Nat => x.1 ≤ t.frames.length ∧ x.2.2.1.length = s.cells.length ∧ unwF (vk, vn) t.frames t.frames.length s.cells = unwF (vk, vn) t.frames x.1 x.2.2.1) (fun x => ⟨119, [(1, Iv th), (4, .os 4 1), (6, .r (.rp [.v (.int .i64 vk), .v (.int .i64 vn)])), (7, .r (.rp (eventR e))), (8, .os 8 1), (10, .r (.rp [.v (.int .i64 0), .v (.int .i64 0)])), (11, .os 24 1), (12, .os 12 1)], [(4, 1, .bx [.os 300 VA, valsV s.shapes, strsV s.texts, .os 301 VB, endsV s.ends, valsV s.said, Iv s.asked, Iv s.steps]), (6, 2, .gone), (7, 2, .gone), (8, 1, .bx [NilS, NilS, NilS, NilS, NilS, NilS, Iv 0, Iv 0]), (300, VA, .sl 48 4 (x.2.2.1.map cellA2)), (301, VB, .sl 56 5 (T0.set th [.os 201 1, Iv t.state, Iv t.on, Iv t.val.1, Iv t.val.2])), (10, 2, .gone), (24, 1, .sl 76 12 [eventC (toldE e 7 (vk, vn))]), (201, x.2.1, .sl 61 8 ((t.frames.take x.1).map frameA2)), (12, 1, .bx [.os 201 x.2.1, Iv 0, Iv 0, Iv t.val.1, Iv t.val.2]), (14, x.2.2.2, .gone), (16, x.2.2.2, .gone), (202, x.2.2.2, .gone)]⟩) (fun x => x.1) (t.frames.length, 1, s.cells, 0) ⟨Nat.le_refl _, rfl, rfl⟩ ?_
 rintro ⟨m, w, cs, u⟩ ⟨hm, hcs, hu⟩
 dsimp only at hm hcs hu ⊢
 rw [hu]
 have q8 : ∀ x : ThreadT, (s.threads.set th x).map threadA2 = T0.set th (threadA2 x) := fun x => by rw [List.map_set, hT0]
 have lfm : ((t.frames.take m).map frameA2).length = m := by rw [List.length_map, List.length_take]; omega
 cases m with
 | zero =>
  rw [show unwF (vk, vn) t.frames 0 cs = (cs, [], false) from rfl]
  dsimp only [thrT]
  rw [if_neg (show ¬ false = true by simp), if_neg (show ¬ false = true by simp)]
  clear hu hfs hT0
  (any_goals refine go (dropL 10 lv36) 0 ?_)
  (apply Rn_closeS 301 th 0 201 []; (exact rfl); (exact List.getElem?_set_self (by omega)); (exact rfl); (exact (by decide)); (exact rfl); (exact rfl); (intro K0; (try simp only [go_sem, q7]); exact ⟨id⟩))
  (any_goals refine goN lv36 0 ?_)
  (apply Rn_frzS 24 [eventR (toldE e 7 (vk, vn)), eventR (toldE e 17 (vk, vn))]; (exact rfl); (exact rfl); (exact rfl); (intro K0; (try simp only [go_sem]); exact ⟨id⟩))
  (apply Rn_frzX 300 (cs.map cellR); (exact rfl); (exact rowsEB_map cellEB2); (exact rfl); (intro K0; (try simp only [go_sem]); exact ⟨id⟩))
  (apply Rn_frzX 301 ((s.threads.set th (⟨[], 4, 0, (vk, vn)⟩ : ThreadT)).map threadR); (exact rfl); (exact (by show rowsEB (T0.set th (threadA2 (⟨[], 4, 0, (vk, vn)⟩ : ThreadT))) _; rw [← q8]; exact rowsEB_map threadEB2)); (exact rfl); (intro K0; (try simp only [go_sem]); exact ⟨id⟩))
  (any_goals refine go lv36 0 ?_)
  all_goals (try simp only [go_sem])
  all_goals rfl
 | succ k =>
  obtain ⟨f, hf⟩ : ∃ f, t.frames[k]? = some f := ⟨t.frames[k]'(by omega), List.getElem?_eq_getElem _⟩
  obtain ⟨⟨hf1, hf2⟩, hf3⟩ := hfs f (List.mem_of_getElem? hf)
  have p2 : ((t.frames.take (k + 1)).map frameA2)[k]? = some (frameA2 f) := by rw [List.getElem?_map, List.getElem?_take, if_pos (by omega), hf]; rfl
  have p3 : ∀ X, List.take k (((t.frames.take (k + 1)).map frameA2).set k X) = (t.frames.take k).map frameA2 := fun X => by
   rw [List.take_set_of_le (Nat.le_refl _), ← List.map_take, List.take_take, Nat.min_eq_left (by omega)]
  have p3' : (t.frames.take (k + 1)) = t.frames.take k ++ [f] := by rw [List.take_add_one, hf]; rfl
  have p3b : List.take k ((t.frames.take (k + 1)).map frameA2) = (t.frames.take k).map frameA2 := by rw [← List.map_take, List.take_take, Nat.min_eq_left (by omega)]
  have p5 : ((t.frames.take (k + 1)).map frameA2).set k (frameA2 f) = (t.frames.take (k + 1)).map frameA2 := by
   apply List.ext_getElem? ; intro j
   by_cases hj : j = k
   ·subst hj; rw [List.getElem?_set_self (by omega), p2]
   ·rw [List.getElem?_set_ne (fun e => hj e.symm)]
  have t2 : Int.toNat (k : Int) = k := by omega
  have e0 : ((k + 1 : Nat) : Int) - 1 = (k : Int) := by omega
  have w1 : IntKind.i64.wrap (k : Int) = (k : Int) := by rw [wrap_id] <;> omega
  have d1 : decide (((k + 1 : Nat) : Int) = 0) = false := by rw [decide_eq_false_iff_not]; omega
  have lt : (f.tries.map tryR).length = f.tries.length := List.length_map ..
  have w2 : IntKind.i64.wrap ((f.tries.length : Int) - 1) = (f.tries.length : Int) - 1 := by rw [wrap_id] <;> omega
  have p6 : ∀ X, (((t.frames.take (k + 1)).map frameA2).set k X).getD k [] = X := fun X => by rw [List.getD_eq_getElem?_getD, List.getElem?_set_self (by omega)]; rfl
  have p7 : ∀ X Y, (((t.frames.take (k + 1)).map frameA2).set k X).set k Y = ((t.frames.take (k + 1)).map frameA2).set k Y := fun X Y => List.set_set ..
  have p8 : ∀ X, (((t.frames.take (k + 1)).map frameA2).set k X).length = k + 1 := fun X => by rw [List.length_set, lfm]
  have p9 : ∀ g : FrameT, ((t.frames.take (k + 1)).map frameA2).set k (frameA2 g) = ((t.frames.take k ++ [g]).map frameM).map (List.map nvC) := fun g => by
   rw [frameM_A, p3', List.map_append, List.set_append_right _ _ (by rw [List.length_map, List.length_take]; omega), List.length_map, List.length_take, show k - min k t.frames.length = 0 by omega, List.map_append]
   rfl
  generalize hR : (t.frames.take (k + 1)).map frameA2 = R at *
  clear p3' hR hfs hT0 q2
  by_cases ht0 : f.tries.length = 0
  ·have hu2 : unwF (vk, vn) t.frames (k + 1) cs = unwF (vk, vn) t.frames k (killC f cs) := by
    rw [unwF, hf]
    dsimp only
    rw [List.getElem?_eq_none (by omega)]
   rw [hu2] at hu ⊢
   have d2 : decide ((0 : Int) < (f.tries.length : Int)) = false := by rw [decide_eq_false_iff_not]; omega
   clear hf2 p9 q8
   (apply Rn_openS 201 k 6 202; (exact rfl); (exact p2); (exact rfl); (exact rfl); (exact rfl); (intro K0; (try simp only [go_sem, valN_C]); exact ⟨id⟩))
   clear p2
   by_cases hg : 0 ≤ f.gen
   ·have hg2 := hf3 hg
    have d3 : decide (0 ≤ f.gen) = true := by simpa using hg
    obtain ⟨c, hc⟩ : ∃ c, cs[f.gen.toNat]? = some c := ⟨cs[f.gen.toNat]'(by omega), List.getElem?_eq_getElem _⟩
    have gc := getD_map cellA2 hc ([] : List AV)
    have lc : (cs.map cellA2).length = cs.length := List.length_map ..
    have hkc : killC f cs = cs.set f.gen.toNat { c with num := 2 } := by unfold killC; rw [if_pos hg, hc]
    have hset : (killC f cs).map cellA2 = (cs.map cellA2).set f.gen.toNat [Iv c.kind, Iv 2, valsV c.vals, .nd 61 8 (c.frames.map frameM)] := by rw [hkc, List.map_set]
    have hkl := killC_len f cs
    clear hkc hc hu2
    obtain ⟨fn, pc, tov, gen, ⟨sk, sn⟩, regs, tries⟩ := f
    dsimp only at *
    (any_goals refine go (dropL 12 lv36) 0 ?_)
    (apply Rn_closeS 201 k 6 202 (regs.map valN); (exact rfl); (exact List.getElem?_set_self (by omega)); (exact rfl); (exact (by decide)); (exact congrArg (fun z => (u + 1, Res.sl 50 2 z)) (valN_C regs).symm); (exact rfl); (intro K0; (try simp only [go_sem, p7, p5]); exact ⟨id⟩))
    (any_goals refine go lv36 0 ?_)
    refine ⟨(k, w + 1, killC ⟨fn, pc, tov, gen, (sk, sn), regs, tries⟩ cs, u + 9), ⟨by dsimp only; omega, by dsimp only; omega, rfl⟩, by dsimp only; omega, ?_⟩
    dsimp only
    rw [hset]
    exact Le_subA
   ·have d3 : decide (0 ≤ f.gen) = false := by simpa using hg
    have hkc : killC f cs = cs := by unfold killC; rw [if_neg hg]
    rw [hkc] at hu ⊢
    clear hkc hu2
    obtain ⟨fn, pc, tov, gen, ⟨sk, sn⟩, regs, tries⟩ := f
    dsimp only at *
    (any_goals refine go (dropL 12 lv36) 0 ?_)
    (apply Rn_closeS 201 k 6 202 (regs.map valN); (exact rfl); (exact List.getElem?_set_self (by omega)); (exact rfl); (exact (by decide)); (exact congrArg (fun z => (u + 1, Res.sl 50 2 z)) (valN_C regs).symm); (exact rfl); (intro K0; (try simp only [go_sem, p7, p5]); exact ⟨id⟩))
    (any_goals refine go lv36 0 ?_)
    refine ⟨(k, w + 1, cs, u + 9), ⟨by dsimp only; omega, hcs, rfl⟩, by dsimp only; omega, ?_⟩
    dsimp only
    exact Le_subA
  ·obtain ⟨y, hy⟩ : ∃ y, f.tries[f.tries.length - 1]? = some y := ⟨f.tries[f.tries.length - 1]'(by omega), List.getElem?_eq_getElem _⟩
   obtain ⟨y0, y1⟩ := hf2 y (List.mem_of_getElem? hy)
   have gy := getD_map tryR hy ([] : List RV)
   obtain ⟨z, hz⟩ : ∃ z, f.regs[y.1.toNat]? = some z := ⟨f.regs[y.1.toNat]'(by omega), List.getElem?_eq_getElem _⟩
   have gz := getD_map valC hz ([] : List AV)
   have lr : (f.regs.map valC).length = f.regs.length := List.length_map ..
   have t3 : Int.toNat ((f.tries.length : Int) - 1) = f.tries.length - 1 := by omega
   have d2 : decide ((0 : Int) < (f.tries.length : Int)) = true := by rw [decide_eq_true_eq]; omega
   have hu2 : unwF (vk, vn) t.frames (k + 1) cs = (cs, t.frames.take k ++ [{ f with tries := f.tries.take (f.tries.length - 1), pc := y.2, regs := f.regs.set y.1.toNat (vk, vn) }], true) := by
    rw [unwF, hf]
    dsimp only
    rw [hy]
   rw [hu2]
   dsimp only [thrT]
   rw [if_pos rfl, if_pos rfl]
   clear hu hu2 hz hy hf p3 p3b p5
   (apply Rn_openS 201 k 6 202; (exact rfl); (exact p2); (exact rfl); (exact rfl); (exact rfl); (intro K0; (try simp only [go_sem, valN_C]); exact ⟨id⟩))
   clear p2
   obtain ⟨fn, pc, tov, gen, ⟨sk, sn⟩, regs, tries⟩ := f
   dsimp only at *
   have pT : List.take (tries.length - 1) (tries.map tryR) = (tries.take (tries.length - 1)).map tryR := List.map_take.symm
   have k1 : (regs.map valC).set y.1.toNat [Iv vk, Iv vn] = ((regs.set y.1.toNat (vk, vn)).map valN).map (List.map nvC) := by rw [valN_C, List.map_set]
   replace p9 := p9 ⟨fn, y.2, tov, gen, (sk, sn), regs.set y.1.toNat (vk, vn), tries.take (tries.length - 1)⟩
   (any_goals refine go (dropL 19 lv36) 0 ?_)
   (apply Rn_closeS 201 k 6 202 ((regs.set y.1.toNat (vk, vn)).map valN); (exact rfl); (exact List.getElem?_set_self (by omega)); (exact rfl); (exact (by decide)); (exact rfl); (exact rfl); (intro K0; (try simp only [go_sem, p7]); exact ⟨id⟩))
   (apply Rn_closeS 301 th 0 201 ((t.frames.take k ++ [(⟨fn, y.2, tov, gen, (sk, sn), regs.set y.1.toNat (vk, vn), tries.take (tries.length - 1)⟩ : FrameT)]).map frameM); (exact rfl); (exact List.getElem?_set_self (by omega)); (exact rfl); (exact (by decide)); (exact congrArg (fun z => (w, Res.sl 61 8 z)) p9); (exact rfl); (intro K0; (try simp only [go_sem, q7]); exact ⟨id⟩))
   clear p9 k1 pT
   (any_goals refine goN lv36 0 ?_)
   (apply Rn_frzS 24 [eventR (toldE e 7 (vk, vn)), eventR (toldE e 8 (vk, vn))]; (exact rfl); (exact rfl); (exact rfl); (intro K0; (try simp only [go_sem]); exact ⟨id⟩))
   (apply Rn_frzX 300 (cs.map cellR); (exact rfl); (exact rowsEB_map cellEB2); (exact rfl); (intro K0; (try simp only [go_sem]); exact ⟨id⟩))
   (apply Rn_frzX 301 ((s.threads.set th (⟨t.frames.take k ++ [(⟨fn, y.2, tov, gen, (sk, sn), regs.set y.1.toNat (vk, vn), tries.take (tries.length - 1)⟩ : FrameT)], 0, 0, t.val⟩ : ThreadT)).map threadR); (exact rfl); (exact (by show rowsEB (T0.set th (threadA2 (⟨t.frames.take k ++ [(⟨fn, y.2, tov, gen, (sk, sn), regs.set y.1.toNat (vk, vn), tries.take (tries.length - 1)⟩ : FrameT)], 0, 0, t.val⟩ : ThreadT))) _; rw [← q8]; exact rowsEB_map threadEB2)); (exact rfl); (intro K0; (try simp only [go_sem]); exact ⟨id⟩))
   (any_goals refine go lv36 0 ?_)
   all_goals (try simp only [go_sem])
   all_goals rfl
end Go.Proofs.YtbhnmolmkembdaaGreatDoor
