/- The document's names of shapes. No condition: contracts. -/
import Derived.Test.YtbhnmolmkembdaaGreatDoorX6
import Derived.Test.YtbhnmolmkembdaaGreatDoorX5
namespace Go.Proofs.YtbhnmolmkembdaaGreatDoor.Sh
set_option linter.unusedVariables false
set_option linter.unusedSimpArgs false
set_option maxHeartbeats 10000000
open Go
set_option maxRecDepth 10000
theorem Ar {l : List (Int × Int)} {s t : Int} (h : Ups l s) (ht : t ≤ s) : Ups l t := fun k p hp h0 hk => h k p hp h0 (by omega)
theorem vW (l : List (Int × Int)) : ∀ (n m : Nat) (s : Int), Ups l s → s.toNat ≤ n → s.toNat ≤ m → fX l n s = fX l m s
 | 0, m, s, _, h1, _ => by
  have h0 : ¬ 0 < s := by omega
  cases m with
  | zero => rfl
  | succ m => unfold fX; rw [if_neg h0]
 | n + 1, 0, s, _, h1, h2 => by
  have h0 : ¬ 0 < s := by omega
  unfold fX; rw [if_neg h0]
 | n + 1, m + 1, s, hu, h1, h2 => by
  unfold fX
  by_cases h0 : 0 < s
  ·rw [if_pos h0, if_pos h0]
   cases hp : l[s.toNat]? with
   | none => rfl
   | some p =>
    have := hu _ p hp (by omega) (by omega)
    exact congrArg (p.2 :: ·) (vW l n m p.1 (Ar hu (by omega)) (by omega) (by omega))
  ·rw [if_neg h0, if_neg h0]
theorem Oz {l : List (Int × Int)} {k : Nat} {p : Int × Int} (hp : l[k + 1]? = some p) (hu : Ups l ((k + 1 : Nat) : Int)) : namesL l ((k + 1 : Nat) : Int) = namesL l p.1 ++ [p.2] := by
 have hk := (List.getElem?_eq_some_iff.1 hp).1
 have hup := hu (k + 1) _ hp (by omega) (Int.le_refl _)
 unfold namesL
 obtain ⟨n, hn⟩ : ∃ n, l.length = n + 1 := ⟨l.length - 1, by omega⟩
 have e1 : fX l l.length ((k + 1 : Nat) : Int) = p.2 :: fX l n p.1 := by
  rw [hn]
  show (if 0 < ((k + 1 : Nat) : Int) then (match l[((k + 1 : Nat) : Int).toNat]? with | some p => p.2 :: fX l n p.1 | none => []) else []) = _
  rw [if_pos (by omega), show (((k + 1 : Nat) : Int)).toNat = k + 1 by omega, hp]
 rw [e1, List.reverse_cons, vW l n l.length p.1 (Ar hu (by omega)) (by omega) (by omega)]
theorem Yv (l : List (Int × Int)) (hl : l.length ≤ 1000) : ∀ n : Nat, Ups l n → ∀ z : Int, z.toNat ≤ n → z < l.length → FC Cx 178 [cT l, Iv z] [] (.os 0 1) [(0, 1, .sl 3 1 ((namesL l z).map intA))]
 | 0, hu, z, h1, h2 => by
  rw [rB l z (by omega)]
  exact Om l z (by rw [decide_eq_true_eq]; omega)
 | n + 1, hu, z, h1, h2 => by
  by_cases h0 : z ≤ 0
  ·rw [rB l z h0]
   exact Om l z (by rw [decide_eq_true_eq]; omega)
  ·obtain ⟨k, rfl⟩ : ∃ k : Nat, z = ((k + 1 : Nat) : Int) := ⟨z.toNat - 1, by omega⟩
   have hp : l[k + 1]? = some (l[k + 1]'(by omega)) := List.getElem?_eq_getElem (by omega)
   generalize l[k + 1]'(by omega) = p at hp
   have huk : Ups l ((k + 1 : Nat) : Int) := Ar hu (by omega)
   have hup := huk (k + 1) p hp (by omega) (Int.le_refl _)
   rw [Oz hp huk]
   have ih := Yv l hl n (Ar hu (by omega))
   refine aJt l n k p hp hl (by omega) (by omega)
    (.res 178 (zR l n) aI6 fun st d args K h => ?_) rfl (fun _ _ _ _ _ _ => rfl) (uR l p.1) (by rw [decide_eq_false_iff_not]; omega) (fun l => List.length_map ..) (List.length_map ..) (fun l n => by rw [List.map_append]; rfl) (by omega) (aE cA hp []) (by omega)
   unfold zR at h
   split at h
   ·rename_i xs z
    obtain ⟨⟨rfl, h3, h4⟩, h5⟩ := h
    exact ⟨_, _, _, dC.own (ih z h3 h4) rfl (rH _) rfl d, h5⟩
   ·exact h.elim
theorem Ny (xs : List (List RV)) (z : Int) (h : xs = (shapesOf xs).map cA ∧ xs.length ≤ 1000 ∧ Ups (shapesOf xs) z ∧ z < xs.length) : FC Cx 178 [.r (.rs 2 xs), Iv z] [] (cX (namesL (shapesOf xs) z)) [] := by
 have hl : (shapesOf xs).length = xs.length := by simp [shapesOf]
 have h1 : FC Cx 178 [cT (shapesOf xs), Iv z] [] (.os 0 1) [(0, 1, .sl 3 1 ((namesL (shapesOf xs) z).map intA))] := by
  by_cases h0 : z ≤ 0
  ·rw [rB _ z h0]; exact Om _ z (by rw [decide_eq_true_eq]; omega)
  ·exact Yv _ (by omega) z.toNat (Ar h.2.2.1 (by omega)) z (Nat.le_refl _) (by omega)
 rw [mR h.1] at h1
 exact h1.freeze1 (roI _).symm
def nY (args : List AV) (K : AV → Prop) : Prop := match args with
 | [.r (.rs 2 xs), .r (.v (.int .i64 z))] => (xs = (shapesOf xs).map cA ∧ xs.length ≤ 1000 ∧ Ups (shapesOf xs) z ∧ z < xs.length) ∧ K (cX (namesL (shapesOf xs) z))
 | _ => False
noncomputable abbrev ct_refNames : Ct Cx := .pure 178 nY fun args K h => by
 unfold nY at h; split at h; exact ⟨_, aA (Ny _ _ h.1) aI6 rfl rfl, h.2⟩; exact h.elim
@[go_sem] theorem aAr : type_of% @nY.eq_def := @nY.eq_def
end Go.Proofs.YtbhnmolmkembdaaGreatDoor.Sh
namespace Go.Proofs.YtbhnmolmkembdaaGreatDoor.Sh
set_option linter.unusedVariables false
set_option linter.unusedSimpArgs false
set_option maxHeartbeats 10000000
open Go
set_option maxRecDepth 10000
section
variable {C : Ctx} {T : List (Ct C)} {r : List It} {st : St} {K : Exit → St → Prop} {A : St → Prop}
theorem aJ6 (h : K .ret st) : fD A (ck C r K) .ret st := tZ h
end
theorem Kk (l : List (Int × Int)) (hlen : (l.map cA).length = l.length) (d0 : decide ((100 : Int) < (l.length : Int)) = true) : FC Cx 137 [cT l] [] (Iv 2) [] := by
 refine aD [Ao, ct_hasI, ct_refNames] Tryz.func137 Tryz.ntmps137 Tryz.results137 ?_
 (any_goals refine go nH 0 ?_)
 all_goals (try simp only [go_sem])
theorem Nu (l : List (Int × Int)) (hw : Wf l) (h100 : ¬ 100 < l.length) (hlen : (l.map cA).length = l.length) (d0 : decide ((100 : Int) < (l.length : Int)) = false) : FC Cx 137 [cT l] [] (Iv (checkF l)) [] := by
 have hlenI : ∀ l : List Int, (l.map intR).length = l.length := fun l => List.length_map ..
 refine aD [Ao, ct_hasI, ct_refNames] Tryz.func137 Tryz.ntmps137 Tryz.results137 ?_
 (any_goals refine go nH 0 ?_)
 refine iW [0, 10, 11, 12] (fun x : Nat × Nat => x.1 ≤ l.length ∧ (0 < x.1 → l[0]? = some (-1, -1)) ∧ ∀ j p, j + 1 < x.1 → l[j + 1]? = some p → okAt l j p)
  (fun x => ⟨63, [(0, cT l), (10, cT l), (11, Iv l.length), (12, Iv x.1)], [(4, x.1, .gone), (6, x.2, .gone)]⟩) (fun x => l.length - x.1) (0, 0) rfl rfl ⟨rfl, rfl, rfl, rfl, trivial⟩ ⟨Nat.zero_le _, ⟨fun h => absurd h (Nat.lt_irrefl 0), fun j p hj => absurd hj (Nat.not_lt_zero _)⟩⟩ ?_
 rintro ⟨i, v6⟩ ⟨hi, hroot, hok⟩
 dsimp only at hi hroot hok
 have t1 : Int.toNat (i : Int) = i := by omega
 by_cases hlt : i < l.length
 ·have e1 : decide ((i : Int) < (l.length : Int)) = true := by rw [decide_eq_true_eq]; omega
  obtain ⟨p, hp⟩ : ∃ p, l[i]? = some p := ⟨l[i], List.getElem?_eq_getElem hlt⟩
  have hg1 := aE cA hp ([] : List RV)
  have w1 : IntKind.i64.wrap ((i : Int) + 1) = ((i + 1 : Nat) : Int) := by rw [aL] <;> omega
  by_cases hz : i ≤ 0
  ·have e2 : decide ((i : Int) = 0) = true := by rw [decide_eq_true_eq]; omega
   have bad : l[0]? ≠ some (-1, -1) → checkF l = 3 := fun hb => by rw [checkF, if_neg h100, if_neg fun h => hb h.1]
   by_cases c1 : p.1 = -1
   ·have d1 : decide (p.1 = -1) = true := by simpa using c1
    by_cases c2 : p.2 = -1
    ·have d2 : decide (p.2 = -1) = true := by simpa using c2
     (any_goals refine go nH 0 ?_)
     all_goals (try simp only [go_sem])
     refine ⟨(i + 1, v6), ⟨by show i + 1 ≤ _; omega, fun _ => ?_, fun j q hj => ?_⟩, by show l.length - (i + 1) < _; omega, gG [0, 10, 11, 12] rfl rfl ⟨rfl, .inr ⟨rfl, Nat.le_refl _⟩, rfl, .inl ⟨rfl, rfl⟩, trivial⟩⟩
     ·rw [show i = 0 by omega] at hp; rw [hp]; exact congrArg some (Prod.ext c1 c2)
     ·exact absurd hj (by show ¬ j + 1 < i + 1; omega)
    ·have d2 : decide (p.2 = -1) = false := by simpa using c2
     have hF := bad (by rw [show i = 0 by omega] at hp; rw [hp]; intro h; have := Option.some.inj h; subst this; exact c2 rfl)
     (any_goals refine go nH 0 ?_)
     all_goals (try simp only [go_sem])
     rw [hF]
   ·have d1 : decide (p.1 = -1) = false := by simpa using c1
    have hF := bad (by rw [show i = 0 by omega] at hp; rw [hp]; intro h; have := Option.some.inj h; subst this; exact c1 rfl)
    (any_goals refine go nH 0 ?_)
    all_goals (try simp only [go_sem])
    rw [hF]
  ·have e2 : decide ((i : Int) = 0) = false := by rw [decide_eq_false_iff_not]; omega
   obtain ⟨k, hk⟩ : ∃ k, i = k + 1 := ⟨i - 1, by omega⟩
   have w2 : IntKind.i64.wrap ((i : Int) - 1) = (k : Int) := by rw [aL] <;> omega
   have hp1 : l[k + 1]? = some p := hk ▸ hp
   have hwp : WfS p := hw p (List.mem_of_getElem? hp)
   have bad : ¬ okAt l k p → checkF l = 3 := fun hb => by rw [checkF, if_neg h100, if_neg]; exact fun hg => hb (hg.2 k p hp1)
   have hkl : k < l.length := by omega
   have hki : (k : Int) + 1 = i := by omega
   clear hk hp1
   by_cases c1 : p.1 < 0
   ·have d2 : decide (0 ≤ p.1) = false := by simpa using c1
    have hF := bad fun h => by have := h.1; omega
    (any_goals refine go nH 0 ?_)
    all_goals (try simp only [go_sem])
    rw [hF]
   have d2 : decide (0 ≤ p.1) = true := by simpa using c1
   by_cases c2 : (k : Int) < p.1
   ·have d3 : decide (p.1 ≤ (k : Int)) = false := by rw [decide_eq_false_iff_not]; omega
    have hF := bad fun h => by have := h.2.1; omega
    (any_goals refine go nH 0 ?_)
    all_goals (try simp only [go_sem])
    rw [hF]
   have d3 : decide (p.1 ≤ (k : Int)) = true := by rw [decide_eq_true_eq]; omega
   by_cases c3 : p.2 < 0
   ·have d4 : decide (p.2 < 0) = true := by simpa using c3
    have hF := bad fun h => by have := h.2.2.1; omega
    (any_goals refine go nH 0 ?_)
    all_goals (try simp only [go_sem])
    rw [hF]
   have d4 : decide (p.2 < 0) = false := by simpa using c3
   have hU : Ups l p.1 := fun j q hq h0 hj => by
    obtain ⟨j', rfl⟩ : ∃ j', j = j' + 1 := ⟨j - 1, by omega⟩
    have := (hok j' q (by omega) hq).2.1
    omega
   have hn := uR l p.1
   by_cases c5 : p.2 ∈ namesL l p.1
   ·have d5 : decide (p.2 ∈ namesL l p.1) = true := by simpa using c5
    have hF := bad fun h => h.2.2.2.2 c5
    (any_goals refine go nH 0 ?_)
    all_goals (try simp only [go_sem])
    rw [hF]
   have d5 : decide (p.2 ∈ namesL l p.1) = false := by simpa using c5
   have t2 : List.take i (l.map cA) = (l.take i).map cA := List.map_take.symm
   have t3 : ((l.take i).map cA).length = i := by rw [List.length_map, List.length_take]; omega
   (any_goals refine go nH 0 ?_)
   refine iW [0, 4, 10, 11, 12, 49, 50, 51] (fun j : Nat => j ≤ i ∧ ∀ j', j' < j → l[j']? ≠ some p)
    (fun j => ⟨63, [(0, cT l), (10, cT l), (11, Iv l.length), (12, Iv i), (4, .os 4 (i + 1)), (49, .r (.rs 2 ((l.take i).map cA))), (50, Iv i), (51, Iv j)], [(4, i + 1, .bx [Iv p.1, Iv p.2]), (6, v6 + j, .gone)]⟩) (fun j => i - j) 0 rfl rfl ⟨rfl, .inl ⟨rfl, rfl⟩, rfl, .inl ⟨rfl, rfl⟩, trivial⟩ ⟨Nat.zero_le _, fun j hj => absurd hj (Nat.not_lt_zero _)⟩ ?_
   rintro j ⟨hj, hjno⟩
   have t4 : Int.toNat (j : Int) = j := by omega
   clear t2
   by_cases hlt2 : j < i
   ·obtain ⟨q, hq⟩ : ∃ q, l[j]? = some q := ⟨l[j], List.getElem?_eq_getElem (by omega)⟩
    have hg2 := aE cA (show (l.take i)[j]? = some q by rw [List.getElem?_take, if_pos hlt2]; exact hq) ([] : List RV)
    have w3 : IntKind.i64.wrap ((j : Int) + 1) = ((j + 1 : Nat) : Int) := by rw [aL] <;> omega
    have d6 : decide ((j : Int) < (i : Int)) = true := by rw [decide_eq_true_eq]; omega
    by_cases hqp : q = p
    ·subst hqp
     have hF := bad fun h => h.2.2.2.1 (by
      cases j with
      | zero =>
       rw [hroot (by omega)] at hq
       have := Option.some.inj hq
       subst this
       exact absurd c1 (by simp)
      | succ j => exact List.mem_of_getElem? (i := j) (by rw [List.getElem?_take, if_pos (by omega), List.getElem?_drop, Nat.add_comm]; exact hq))
     (any_goals refine go nH 0 ?_)
     all_goals (try simp only [go_sem])
     all_goals (first | exact aJ6 (by rw [hF]; rfl) | rw [hF])
    ·have d7 : (decide (q.1 = p.1) && decide (q.2 = p.2)) = false := by
      rw [← Bool.not_eq_true, Bool.and_eq_true, decide_eq_true_eq, decide_eq_true_eq]
      exact fun h => hqp (Prod.ext h.1 h.2)
     (any_goals refine go nH 0 ?_)
     refine ⟨j + 1, ⟨by omega, fun j' hj' => ?_⟩, by omega, gG [0, 4, 10, 11, 12, 49, 50, 51] rfl rfl ⟨rfl, .inl ⟨rfl, rfl⟩, rfl, .inr ⟨rfl, Nat.le_refl _⟩, trivial⟩⟩
     rcases Nat.lt_succ_iff_lt_or_eq.1 hj' with h3 | h3
     ·exact hjno j' h3
     ·rw [h3, hq]; exact fun h4 => hqp (Option.some.inj h4)
   ·have d6 : decide ((j : Int) < (i : Int)) = false := by rw [decide_eq_false_iff_not]; omega
    (any_goals refine go nH 0 ?_)
    all_goals (try simp only [go_sem])
    refine ⟨(i + 1, v6 + j), ⟨by show i + 1 ≤ _; omega, fun _ => hroot (by omega), fun a q ha hq => ?_⟩, by show l.length - (i + 1) < _; omega, gG [0, 10, 11, 12] rfl rfl ⟨rfl, .inr ⟨rfl, Nat.le_refl _⟩, rfl, .inl ⟨rfl, rfl⟩, trivial⟩⟩
    have ha' : a + 1 < i + 1 := ha
    by_cases hak : a + 1 < i
    ·exact hok a q hak hq
    ·obtain rfl : a = k := by omega
     have hqp : q = p := by
      have : l[i]? = some q := by rw [show i = a + 1 by omega]; exact hq
      rw [hp] at this; exact (Option.some.inj this).symm
     subst hqp
     refine ⟨by omega, by omega, by omega, fun hm => ?_, c5⟩
     obtain ⟨b, hb⟩ := List.getElem?_of_mem hm
     rw [List.getElem?_take] at hb
     split at hb
     ·rw [List.getElem?_drop] at hb
      exact hjno (1 + b) (by omega) hb
     ·cases hb
 ·have e1 : decide ((i : Int) < (l.length : Int)) = false := by rw [decide_eq_false_iff_not]; omega
  by_cases h0 : l.length ≤ 0
  ·have d1 : decide ((l.length : Int) = 0) = true := by rw [decide_eq_true_eq]; omega
   have hF : checkF l = 3 := by rw [checkF, if_neg h100, if_neg fun h => by have := (List.getElem?_eq_some_iff.1 h.1).1; omega]
   (any_goals refine go nH 0 ?_)
   all_goals (try simp only [go_sem])
   rw [hF]
  ·have d1 : decide ((l.length : Int) = 0) = false := by rw [decide_eq_false_iff_not]; omega
   have hF : checkF l = 0 := by
    rw [checkF, if_neg h100, if_pos ⟨hroot (by omega), fun j q hq => hok j q (by have := (List.getElem?_eq_some_iff.1 hq).1; omega) hq⟩]
   (any_goals refine go nH 0 ?_)
   all_goals (try simp only [go_sem])
   rw [hF]
end Go.Proofs.YtbhnmolmkembdaaGreatDoor.Sh
namespace Go.Proofs.YtbhnmolmkembdaaGreatDoor.Sh
set_option linter.unusedVariables false
set_option linter.unusedSimpArgs false
set_option maxHeartbeats 10000000
open Go
set_option maxRecDepth 10000
theorem Gt (xs : List (List RV)) (h : xs = (shapesOf xs).map cA ∧ Wf (shapesOf xs)) : FC Cx 137 [.r (.rs 2 xs)] [] (Iv (checkF (shapesOf xs))) [] := by
 have h1 : FC Cx 137 [cT (shapesOf xs)] [] (Iv (checkF (shapesOf xs))) [] := by
  by_cases h100 : 100 < (shapesOf xs).length
  ·have e : checkF (shapesOf xs) = 2 := by rw [checkF, if_pos h100]
   rw [e]
   exact Kk _ (List.length_map ..) (by rw [decide_eq_true_eq]; omega)
  ·exact Nu _ h.2 h100 (List.length_map ..) (by rw [decide_eq_false_iff_not]; omega)
 rwa [mR h.1] at h1
def vH (args : List AV) (K : AV → Prop) : Prop := match args with
 | [.r (.rs 2 xs)] => (xs = (shapesOf xs).map cA ∧ Wf (shapesOf xs)) ∧ K (Iv (checkF (shapesOf xs)))
 | _ => False
noncomputable abbrev ct_fault : Ct Cx := .pure 137 vH fun args K h => by
 unfold vH at h; split at h; exact ⟨_, aA (Gt _ h.1) aUn rfl rfl, h.2⟩; exact h.elim
@[go_sem] theorem aI0 : type_of% @vH.eq_def := @vH.eq_def
end Go.Proofs.YtbhnmolmkembdaaGreatDoor.Sh
namespace Go.Proofs.YtbhnmolmkembdaaGreatDoor
set_option linter.unusedVariables false
set_option linter.unusedSimpArgs false
set_option maxHeartbeats 10000000
open Go
set_option maxRecDepth 10000
theorem aAx {s : aC} {v : Int × Int} (q : Int) (h : fitsF s v = true) : isF' s v q = refF s v q := by
 obtain ⟨k, n⟩ := v
 unfold isF' refF
 rw [h, Bool.true_and]
 by_cases h5 : k = 5
 ·subst h5
  obtain ⟨n0, n1, _⟩ := Cb h
  rw [decide_eq_true n0, decide_eq_true n1]; simp
 ·have d5 : decide (k = 5) = false := by simpa using h5
  simp [d5]
def Ei (c : bM) : Prop := ∀ f ∈ c.frames, f.regs.length ≤ 8796093021952
theorem Ir (s : aC) (c : bM) (hs : Swf s) (hc : Cwf c) (hk : Sh.checkF s.shapes = 0) (hrg : Ei c) : FC Cx 138 [aO s, gH c] [] (Bv (eB s c)) [] := by
 have l1 : (c.vals.map valR).length = c.vals.length := List.length_map ..
 have l2 : (c.frames.map bA).length = c.frames.length := List.length_map ..
 have l3 : (s.shapes.map valR).length = s.shapes.length := List.length_map ..
 have hcl := hs.len.cells
 have hsl := hs.len.shapes
 have hcv := hc.vals
 have hcf := hc.frames
 have hfr := hc.frame
 have hwi := hc.val
 obtain ⟨hup, h100, _, _⟩ := Sh.good_ups hk c.num
 have w1 : IntKind.i64.wrap ((s.shapes.length : Int) - 1) = (s.shapes.length : Int) - 1 := by rw [aL] <;> omega
 unfold eB
 by_cases hgw : c.kind = 5 ∧ c.num = 0
 case neg =>
  have eN : dE c = 0 := if_neg hgw
  rw [eN]
  have hq : (decide (c.kind = 5) && decide (c.num = 0)) = false := by
   rw [Bool.eq_false_iff]; simp only [ne_eq, Bool.and_eq_true, decide_eq_true_eq]; exact hgw
  obtain ⟨kind, num, vals, frames⟩ := c
  dsimp only at *
  cases frames with
  | cons f fs =>
   have d0 : decide ((((f :: fs).length : Nat) : Int) = 0) = false := by rw [decide_eq_false_iff_not, List.length_cons]; omega
   rw [d0]
   simp only [Bool.and_false, Bool.false_and]
   generalize f :: fs = frames at *
   refine aD [aV, cZ, cR, Sh.ct_refNames] Tryz.func138 Tryz.ntmps138 Tryz.results138 ?_
   refine goR ?_
   refine fzB 2 ?_
   refine fzB 3 ?_
   (any_goals refine go dN 0 ?_)
   all_goals (try simp only [go_sem])
  | nil =>
  clear hfr hcf
  refine aD [aV, cZ, cR, Sh.ct_refNames] Tryz.func138 Tryz.ntmps138 Tryz.results138 ?_
  refine goR ?_
  refine fzB 2 ?_
  refine fzB 3 ?_
  (any_goals refine go dN 0 ?_)
  all_goals (try simp only [go_sem])
  refine bX (fun x : Nat × Nat => x.1 ≤ vals.length ∧ ∀ j v, j < x.1 → vals[j]? = some v → fitsF s v = true) (fun x => ⟨190, [(2, bW s), (3, .r (.rp (aX ⟨kind, num, vals, []⟩))), (32, aS vals), (33, Iv vals.length), (34, Iv x.1)], [(2, 2, .gone), (3, 2, .gone), (7, x.2, .gone)]⟩) (fun x => vals.length - x.1) (0, 0) ⟨Nat.zero_le _, fun j v hj => by omega⟩ ?_
  rintro ⟨i, u⟩ ⟨hi, hno⟩
  dsimp only at hi hno ⊢
  by_cases hlt : i < vals.length
  case pos =>
   obtain ⟨v, hx, hg, h1, h2, hw⟩ := cC valR vals hlt hcv
   rcases Bool.eq_false_or_eq_true (fitsF s v) with hv | hv
   ·have nx : ∀ j v, j < i + 1 → vals[j]? = some v → fitsF s v = true := fun j v' hj hv' => by
     rcases Nat.lt_succ_iff_lt_or_eq.1 hj with h3 | h3
     ·exact hno j v' h3 hv'
     ·subst h3; rw [hx] at hv'; cases hv'; exact hv
    clear hno
    (any_goals refine go dN 0 ?_)
    refine ⟨(i + 1, u + 9), ⟨by dsimp only; omega, nx⟩, by dsimp only; omega, ?_⟩
    dsimp only
    exact bE
   ·rw [kZ hx hv]
    simp only [Bool.and_false, Bool.false_and]
    clear hno
    (any_goals refine go dN 0 ?_)
    all_goals (try simp only [go_sem])
  obtain rfl : i = vals.length := by omega
  have e1 := bR vals
  have hall : ∀ v ∈ vals, fitsF s v = true := fun v hv => by
   obtain ⟨j, hj⟩ := List.mem_iff_getElem?.1 hv
   exact hno j v (List.getElem?_eq_some_iff.1 hj).1 hj
  rw [jT fun j x hj hx => hno j x hj hx]
  clear hno hi hlt
  (any_goals refine go dN 0 ?_)
  all_goals (try simp only [go_sem])
  refine bX (fun _ : Unit => True) (fun _ => ⟨190, [(2, bW s), (3, .r (.rp (aX ⟨kind, num, vals, []⟩))), (44, .r (.rs 8 [])), (45, Iv 0), (46, Iv 0)], [(2, 2, .gone), (3, 2, .gone), (7, u, .gone)]⟩) (fun _ => 0) () trivial ?_
  rintro ⟨⟩ -
  clear e1
  by_cases hkk : 0 ≤ kind ∧ kind ≤ 7
  case neg =>
   rw [decide_eq_false hkk]
   simp only [Bool.false_and]
   have d0 : decide (kind = 0) = false := by rw [decide_eq_false_iff_not]; omega
   have d1 : decide (kind = 1) = false := by rw [decide_eq_false_iff_not]; omega
   have d2 : decide (kind = 2) = false := by rw [decide_eq_false_iff_not]; omega
   have d3 : decide (kind = 3) = false := by rw [decide_eq_false_iff_not]; omega
   have d4 : decide (kind = 4) = false := by rw [decide_eq_false_iff_not]; omega
   have d5 : decide (kind = 5) = false := by rw [decide_eq_false_iff_not]; omega
   have d6 : decide (kind = 6) = false := by rw [decide_eq_false_iff_not]; omega
   have d7 : decide (kind = 7) = false := by rw [decide_eq_false_iff_not]; omega
   (any_goals refine go dN 0 ?_)
   all_goals (try simp only [go_sem])
  rw [decide_eq_true hkk]
  have k8 : kind = 0 ∨ kind = 1 ∨ kind = 2 ∨ kind = 3 ∨ kind = 4 ∨ kind = 5 ∨ kind = 6 ∨ kind = 7 := by omega
  clear hkk
  rcases k8 with rfl | rfl | rfl | rfl | rfl | rfl | rfl | rfl
  ·rw [show numF s ⟨0, num, vals, []⟩ = decide (num = 0) from rfl, show hZ s ⟨0, num, vals, []⟩ = decide ((vals.length : Int) = 0) from rfl]
   (any_goals refine go dN 0 ?_)
   all_goals (try simp only [go_sem])
   exact congrArg (fun b => Bv b) (by simp)
  ·have eK : Sh.namesF s.shapes num = if 0 ≤ num ∧ num < s.shapes.length then Sh.namesL s.shapes num else [] := by
    unfold Sh.namesF; simp only [hk, true_and]
   have ln : ((Sh.namesL s.shapes num).map Sh.intR).length = (Sh.namesL s.shapes num).length := List.length_map ..
   rw [show numF s ⟨1, num, vals, []⟩ = decide (0 ≤ num ∧ num ≤ (s.shapes.length : Int) - 1) from rfl, show hZ s ⟨1, num, vals, []⟩ = (decide (0 ≤ num ∧ num ≤ (s.shapes.length : Int) - 1) && decide ((vals.length : Int) = ((Sh.namesF s.shapes num).length : Int))) from rfl, eK]
   by_cases hb : 0 ≤ num ∧ num ≤ (s.shapes.length : Int) - 1
   ·have hlt : num < s.shapes.length := by omega
    rw [if_pos ⟨hb.1, hlt⟩, decide_eq_true hb]
    clear eK
    have hb' : decide (0 ≤ num ∧ num ≤ (s.shapes.length : Int) - 1) = true := decide_eq_true hb
    have h1000 : s.shapes.length ≤ 1000 := by omega
    clear hb
    (any_goals refine go dN 0 ?_)
    all_goals (try simp only [go_sem])
    exact congrArg (fun b => Bv b) (by simp)
   ·rw [decide_eq_false hb]
    simp only [Bool.and_false, Bool.false_and]
    have hb' : decide (0 ≤ num ∧ num ≤ (s.shapes.length : Int) - 1) = false := decide_eq_false hb
    clear eK ln hb
    (any_goals refine go dN 0 ?_)
    all_goals (try simp only [go_sem])
  ·rw [show numF s ⟨2, num, vals, []⟩ = decide (num = 0) from rfl, show hZ s ⟨2, num, vals, []⟩ = true from rfl]
   (any_goals refine go dN 0 ?_)
   all_goals (try simp only [go_sem])
   exact congrArg (fun b => Bv b) (by simp)
  ·rw [show numF s ⟨3, num, vals, []⟩ = decide (num = 0) from rfl, show hZ s ⟨3, num, vals, []⟩ = decide ((vals.length : Int) = 1) from rfl]
   (any_goals refine go dN 0 ?_)
   all_goals (try simp only [go_sem])
   exact congrArg (fun b => Bv b) (by simp)
  ·rw [show numF s ⟨4, num, vals, []⟩ = decide (0 ≤ num) from rfl, show hZ s ⟨4, num, vals, []⟩ = !(vals.any fun v => !isF' s v 3) from rfl]
   have eA : (vals.any fun v => !isF' s v 3) = !(vals.all fun v => refF s v 3) := by
    rw [List.any_eq_not_all_not]
    refine congrArg (fun b => !b) ?_
    rw [Bool.eq_iff_iff, List.all_eq_true, List.all_eq_true]
    refine forall_congr' fun v => forall_congr' fun hv => ?_
    rw [Bool.not_not, aAx 3 (hall v hv)]
   rw [eA, Bool.not_not]
   clear eA hall
   (any_goals refine go dN 0 ?_)
   all_goals (try simp only [go_sem])
   refine bX (fun x : Nat × Nat => x.1 ≤ vals.length ∧ ∀ j v, j < x.1 → vals[j]? = some v → refF s v 3 = true) (fun x => ⟨190, [(2, bW s), (3, .r (.rp (aX ⟨4, num, vals, []⟩))), (121, aS vals), (122, Iv vals.length), (123, Iv x.1)], [(2, 2, .gone), (3, 2, .gone), (7, u, .gone), (14, x.2, .gone)]⟩) (fun x => vals.length - x.1) (0, 0) ⟨Nat.zero_le _, fun j v hj => by omega⟩ ?_
   rintro ⟨i, u'⟩ ⟨hi, hno⟩
   dsimp only at hi hno ⊢
   by_cases hlt : i < vals.length
   case pos =>
    obtain ⟨v, hx, hg, h1, h2, hw⟩ := cC valR vals hlt hcv
    rcases Bool.eq_false_or_eq_true (refF s v 3) with hv | hv
    ·have nx : ∀ j v, j < i + 1 → vals[j]? = some v → refF s v 3 = true := fun j v' hj hv' => by
      rcases Nat.lt_succ_iff_lt_or_eq.1 hj with h3 | h3
      ·exact hno j v' h3 hv'
      ·subst h3; rw [hx] at hv'; cases hv'; exact hv
     clear hno
     (any_goals refine go dN 0 ?_)
     refine ⟨(i + 1, u' + 9), ⟨by dsimp only; omega, nx⟩, by dsimp only; omega, ?_⟩
     dsimp only
     exact bE
    ·rw [kZ (q := fun v => refF s v 3) hx hv]
     simp only [Bool.and_false, Bool.false_and]
     clear hno
     (any_goals refine go dN 0 ?_)
     all_goals (try simp only [go_sem])
   obtain rfl : i = vals.length := by omega
   have e1 := bR vals
   rw [jT (q := fun v => refF s v 3) fun j x hj hx => hno j x hj hx]
   have eg : decide (0 ≤ num) = decide (-1 < num) := by rw [decide_eq_decide]; omega
   rw [eg]
   clear hno hi hlt eg
   (any_goals refine go dN 0 ?_)
   all_goals (try simp only [go_sem])
   exact congrArg (fun b => Bv b) (by simp)
  ·rw [show numF s ⟨5, num, vals, []⟩ = decide (0 ≤ num ∧ num ≤ 2) from rfl, show hZ s ⟨5, num, vals, []⟩ = decide ((vals.length : Int) = 0) from rfl]
   clear hgw hq eN
   (any_goals refine go dN 0 ?_)
   all_goals (try simp only [go_sem])
   exact congrArg (fun b => Bv b) (by simp)
  ·rw [show numF s ⟨6, num, vals, []⟩ = decide (-1 ≤ num ∧ num ≤ 4) from rfl, show hZ s ⟨6, num, vals, []⟩ = decide ((vals.length : Int) = 0) from rfl]
   (any_goals refine go dN 0 ?_)
   all_goals (try simp only [go_sem])
   exact congrArg (fun b => Bv b) (by simp)
  ·rw [show numF s ⟨7, num, vals, []⟩ = decide (num = 0) from rfl, show hZ s ⟨7, num, vals, []⟩ = pG vals from rfl]
   clear hall
   (any_goals refine go dN 0 ?_)
   all_goals (try simp only [go_sem])
   refine bX (fun x : Nat × Nat => x.1 ≤ vals.length ∧ (((evK vals).take ((x.1 + 1) / 2)).all fun v => decide (v.1 = 5)) = true ∧ (((evK vals).take ((x.1 + 1) / 2)).map (·.2)).Nodup) (fun x => ⟨190, [(3, .r (.rp (aX ⟨7, num, vals, []⟩))), (154, aS vals), (155, Iv vals.length), (156, Iv x.1)], [(2, 2, .gone), (3, 2, .gone), (7, u, .gone), (16, x.2, .gone)]⟩) (fun x => vals.length - x.1) (0, 0) ⟨Nat.zero_le _, rfl, List.nodup_nil⟩ ?_
   rintro ⟨i, u'⟩ ⟨hi, h5, hn⟩
   dsimp only at hi h5 hn ⊢
   by_cases hlt : i < vals.length
   case neg =>
    obtain rfl : i = vals.length := by omega
    have e1 := bR vals
    have hl := Gk vals
    rw [List.take_of_length_le (by omega)] at h5 hn
    rw [zZ h5 hn]
    have em : decide (vals.length % 2 = 0) = decide (((vals.length : Int)).tmod 2 = 0) := by
     rw [decide_eq_decide, show ((vals.length : Int)).tmod 2 = ((vals.length % 2 : Nat) : Int) from rfl]; omega
    rw [em]
    clear em h5 hn hi hlt hl
    (any_goals refine go dN 0 ?_)
    all_goals (try simp only [go_sem])
    exact congrArg (fun b => Bv b) (by simp)
   obtain ⟨v, hx, hg, h1, h2, hw⟩ := cC valR vals hlt hcv
   rcases Nat.mod_two_eq_zero_or_one i with hm | hm
   case inr =>
    have e1 : decide (((i : Int)).tmod 2 = 1) = true := by
     rw [decide_eq_true_eq, show ((i : Int)).tmod 2 = ((i % 2 : Nat) : Int) from rfl]; omega
    have eq : (i + 1 + 1) / 2 = (i + 1) / 2 := by omega
    (any_goals refine go dN 0 ?_)
    refine ⟨(i + 1, u' + 9), ⟨by dsimp only; omega, by dsimp only; rw [eq]; exact h5, by dsimp only; rw [eq]; exact hn⟩, by dsimp only; omega, ?_⟩
    dsimp only
    exact bE
   obtain ⟨q, rfl⟩ : ∃ q, i = 2 * q := ⟨i / 2, by omega⟩
   have e1 : decide ((((2 * q : Nat) : Int)).tmod 2 = 1) = false := by
    rw [decide_eq_false_iff_not, show (((2 * q : Nat) : Int)).tmod 2 = (((2 * q) % 2 : Nat) : Int) from rfl]; omega
   rw [show (2 * q + 1) / 2 = q by omega] at h5 hn
   have hev : (evK vals)[q]? = some v := by rw [Cf]; exact hx
   by_cases hv5 : v.1 = 5
   case neg =>
    have d5 : decide (v.1 = 5) = false := by simpa using hv5
    rw [Bt hev hv5]
    simp only [Bool.and_false, Bool.false_and]
    clear h5 hn
    (any_goals refine go dN 0 ?_)
    all_goals (try simp only [go_sem])
   obtain ⟨vk, n⟩ := v
   dsimp only at hv5
   subst hv5
   (any_goals refine go dN 0 ?_)
   refine bX (fun j : Nat => j ≤ q ∧ (5, n) ∉ (evK vals).take j) (fun j => ⟨190, [(3, .r (.rp (aX ⟨7, num, vals, []⟩))), (154, aS vals), (155, Iv vals.length), (156, Iv ((2 * q : Nat) : Int)), (16, .os 16 (u' + 1)), (15, Iv ((2 * q : Nat) : Int)), (17, Iv ((2 * j : Nat) : Int))], [(2, 2, .gone), (3, 2, .gone), (7, u, .gone), (16, u' + 1, .bx [Iv 5, Iv n])]⟩) (fun j => q - j) 0 ⟨Nat.zero_le _, by simp⟩ ?_
   rintro j ⟨hj, hno⟩
   by_cases hjq : j < q
   case neg =>
    obtain rfl : j = q := by omega
    have e2 : decide (((2 * j : Nat) : Int) < ((2 * j : Nat) : Int)) = false := by simp
    (any_goals refine go dN 0 ?_)
    have et : (evK vals).take (j + 1) = (evK vals).take j ++ [(5, n)] := by rw [List.take_add_one, hev]; rfl
    refine ⟨(2 * j + 1, u' + 9), ⟨by dsimp only; omega, ?_, ?_⟩, by dsimp only; omega, ?_⟩
    ·dsimp only
     rw [show (2 * j + 1 + 1) / 2 = j + 1 by omega, et, List.all_append, h5]; simp
    ·dsimp only
     rw [show (2 * j + 1 + 1) / 2 = j + 1 by omega, et, List.map_append]
     refine List.nodup_append.2 ⟨hn, by simp, ?_⟩
     rintro a ha b hb rfl
     obtain ⟨w, hw1, hw2⟩ := List.mem_map.1 ha
     have hw3 := List.all_eq_true.1 h5 w hw1
     simp at hb hw3
     exact hno (by rw [← hb, ← hw2, ← hw3]; exact hw1)
    ·dsimp only; exact bE
   obtain ⟨w, hwj⟩ : ∃ w, vals[2 * j]? = some w := ⟨vals[2 * j]'(by omega), List.getElem?_eq_getElem _⟩
   have gw := aE valR hwj ([] : List RV)
   have e2 : decide (((2 * j : Nat) : Int) < ((2 * q : Nat) : Int)) = true := by rw [decide_eq_true_eq]; omega
   have t2 : Int.toNat ((2 * j : Nat) : Int) = 2 * j := by omega
   have w2 : IntKind.i64.wrap (((2 * j : Nat) : Int) + 2) = ((2 * (j + 1) : Nat) : Int) := by rw [aL] <;> omega
   have hew : (evK vals)[j]? = some w := by rw [Cf]; exact hwj
   have yes : w = (5, n) → pG vals = false := fun h => by
    refine yK hev (List.mem_map.2 ⟨w, List.mem_of_getElem? (i := j) ?_, by rw [h]⟩)
    rw [List.getElem?_take, if_pos hjq]; exact hew
   have nx : w ≠ (5, n) → (5, n) ∉ (evK vals).take (j + 1) := fun h => by
    rw [List.take_add_one, hew]
    simp only [Option.toList, List.mem_append, List.mem_singleton, not_or]
    exact ⟨hno, fun e => h e.symm⟩
   clear hx hg h1 h2 hw hm hno h5 hn hev hew e1
   (any_goals refine go dN 0 ?_)
   repeat' (first | (refine Br.go (fun h h' => ?_) (fun h h' => ?_)) | (refine Br.mk (fun h => ?_) (fun h => ?_)))
   all_goals (try simp only [go_sem])
   ·rw [yes (by simp at h; exact Prod.ext h.1 h.2)]
    exact congrArg (fun b => Bv b) (by simp)
   ·refine ⟨j + 1, ⟨by omega, nx (by rintro rfl; simp at h)⟩, by omega, bE⟩
 obtain ⟨kind, num, vals, frames⟩ := c
 obtain ⟨h5, h0⟩ := hgw
 dsimp only at h5 h0
 subst h5 h0
 rw [show dE ⟨5, 0, vals, frames⟩ = 1 from if_pos ⟨rfl, rfl⟩, show numF s ⟨5, 0, vals, frames⟩ = true from rfl, show hZ s ⟨5, 0, vals, frames⟩ = decide ((vals.length : Int) = 0) from rfl, show decide (0 ≤ (5 : Int) ∧ (5 : Int) ≤ 7) = true from rfl, Bool.true_and, Bool.true_and]
 dsimp only at *
 by_cases hf1 : frames.length = 1
 case neg =>
  have d0 : decide ((frames.length : Int) = 1) = false := by rw [decide_eq_false_iff_not]; omega
  rw [d0]
  simp only [Bool.and_false, Bool.false_and]
  clear hf1 hfr hcf hcv hwi
  refine aD [aV, cZ, cR, Sh.ct_refNames] Tryz.func138 Tryz.ntmps138 Tryz.results138 ?_
  refine goR ?_
  refine fzB 2 ?_
  refine fzB 3 ?_
  (any_goals refine go dN 0 ?_)
  all_goals (try simp only [go_sem])
 obtain ⟨f, rfl⟩ := List.length_eq_one_iff.1 hf1
 clear hf1 l2
 have hreg := hrg f (List.mem_singleton.2 rfl)
 rw [show decide ((([f] : List aR).length : Int) = 1) = true from rfl, Bool.and_true, show [f].all (nB s) = nB s f from by simp]
 clear hfr hcf
 refine aD [aV, cZ, cR, Sh.ct_refNames] Tryz.func138 Tryz.ntmps138 Tryz.results138 ?_
 refine goR ?_
 refine fzB 2 ?_
 refine fzB 3 ?_
 (any_goals refine go dN 0 ?_)
 refine bX (fun x : Nat × Nat => x.1 ≤ vals.length ∧ ∀ j v, j < x.1 → vals[j]? = some v → fitsF s v = true) (fun x => ⟨190, [(2, bW s), (3, .r (.rp (aX ⟨5, 0, vals, [f]⟩))), (32, aS vals), (33, Iv vals.length), (34, Iv x.1)], [(2, 2, .gone), (3, 2, .gone), (7, x.2, .gone)]⟩) (fun x => vals.length - x.1) (0, 0) ⟨Nat.zero_le _, fun j v hj => by omega⟩ ?_
 rintro ⟨i, u⟩ ⟨hi, hno⟩
 dsimp only at hi hno ⊢
 by_cases hlt : i < vals.length
 case pos =>
  obtain ⟨v, hx, hg, h1, h2, hw⟩ := cC valR vals hlt hcv
  rcases Bool.eq_false_or_eq_true (fitsF s v) with hv | hv
  ·have nx : ∀ j v, j < i + 1 → vals[j]? = some v → fitsF s v = true := fun j v' hj hv' => by
    rcases Nat.lt_succ_iff_lt_or_eq.1 hj with h3 | h3
    ·exact hno j v' h3 hv'
    ·subst h3; rw [hx] at hv'; cases hv'; exact hv
   clear hno
   (any_goals refine go dN 0 ?_)
   refine ⟨(i + 1, u + 9), ⟨by dsimp only; omega, nx⟩, by dsimp only; omega, ?_⟩
   dsimp only
   exact bE
  ·rw [kZ hx hv]
   simp only [Bool.and_false, Bool.false_and]
   clear hno
   (any_goals refine go dN 0 ?_)
   all_goals (try simp only [go_sem])
 obtain rfl : i = vals.length := by omega
 have e1 := bR vals
 rw [jT fun j x hj hx => hno j x hj hx]
 clear hno hi hlt
 (any_goals refine go dN 0 ?_)
 all_goals (try simp only [go_sem])
 refine bX (fun x : Nat × Nat => (x.1 = 0 ∨ x.1 = 1) ∧ (x.1 = 1 → nB s f = true)) (fun x => ⟨190, [(2, bW s), (3, .r (.rp (aX ⟨5, 0, vals, [f]⟩))), (44, bL [f]), (45, Iv 1), (46, Iv x.1)], [(2, 2, .gone), (3, 2, .gone), (7, u, .gone), (9, x.2, .gone), (11, x.2, .gone), (52, x.2, .gone), (55, x.2, .gone)]⟩) (fun x => 1 - x.1) (0, 0) ⟨.inl rfl, by simp⟩ ?_
 rintro ⟨i, w⟩ ⟨hi, hyes⟩
 dsimp only at hi hyes ⊢
 rcases hi with rfl | rfl
 case inr =>
  rw [hyes rfl, Bool.and_true]
  clear hyes
  (any_goals refine go dN 0 ?_)
  all_goals (try simp only [go_sem])
 clear hyes
 have hheld : nB s f = (f.self :: f.regs).all (fitsF s) := by unfold nB; rw [List.all_cons, Bool.and_comm]
 rw [hheld]
 obtain ⟨fn, pc, tov, gen, ⟨sk, sn⟩, regs, tries⟩ := f
 dsimp only at hreg hheld ⊢
 have l6 : (regs.map valC).length = regs.length := List.length_map ..
 have b1 : 1 + regs.length ≤ 9223372036854775807 := by omega
 have b2 : (1 + regs.length) * 16 ≤ 140737488355328 := by omega
 have l4 : (regs.map valR).length = regs.length := List.length_map ..
 (any_goals refine go dN 0 ?_)
 all_goals (try simp only [go_sem])
 (apply jD 52 (((sk, sn) :: regs).map valR); (exact rfl); (exact (Cp ((sk, sn) :: regs)).symm); (exact rfl); (intro K0; (try simp only [go_sem]); exact ⟨id⟩))
 have hl : ((sk, sn) :: regs).length ≤ 9223372036854775807 := by rw [List.length_cons]; omega
 have l7 : (((sk, sn) :: regs).map valR).length = ((sk, sn) :: regs).length := List.length_map ..
 have l8 : ((regs.length : Int) + 1) = (((sk, sn) :: regs).length : Int) := by rw [List.length_cons]; omega
 clear l4 l6 b1 b2
 refine bX (fun y : Nat × Nat => y.1 ≤ ((sk, sn) :: regs).length ∧ ∀ j v, j < y.1 → ((sk, sn) :: regs)[j]? = some v → fitsF s v = true) (fun y => ⟨190, [(2, bW s), (3, .r (.rp (aX ⟨5, 0, vals, [⟨fn, pc, tov, gen, (sk, sn), regs, tries⟩]⟩))), (44, bL [⟨fn, pc, tov, gen, (sk, sn), regs, tries⟩]), (45, Iv 1), (46, Iv 0), (55, aS ((sk, sn) :: regs)), (56, Iv ((sk, sn) :: regs).length), (57, Iv y.1)], [(2, 2, .gone), (3, 2, .gone), (7, u, .gone), (9, y.2, .gone), (11, y.2, .gone), (52, y.2, .gone), (55, y.2, .gone)]⟩) (fun y => ((sk, sn) :: regs).length - y.1) (0, w + 9) ⟨Nat.zero_le _, fun j v hj => by omega⟩ ?_
 rintro ⟨i, y⟩ ⟨hi, hno⟩
 dsimp only at hi hno ⊢
 clear hreg l8
 generalize hL : (sk, sn) :: regs = L at *
 by_cases hlt : i < L.length
 case pos =>
  obtain ⟨v, hx, hg, h1, h2, hw⟩ := cC valR L hlt hl
  rcases Bool.eq_false_or_eq_true (fitsF s v) with hv | hv
  ·have nx : ∀ j v, j < i + 1 → L[j]? = some v → fitsF s v = true := fun j v' hj hv' => by
    rcases Nat.lt_succ_iff_lt_or_eq.1 hj with h3 | h3
    ·exact hno j v' h3 hv'
    ·subst h3; rw [hx] at hv'; cases hv'; exact hv
   clear hno hL
   (any_goals refine go dN 0 ?_)
   refine ⟨(i + 1, y + 9), ⟨by dsimp only; omega, nx⟩, by dsimp only; omega, ?_⟩
   dsimp only
   exact bE
  ·rw [kZ hx hv]
   simp only [Bool.and_false, Bool.false_and]
   clear hno hL
   (any_goals refine go dN 0 ?_)
   all_goals (try simp only [go_sem])
 obtain rfl : i = L.length := by omega
 have e2 := bR L
 have hall : L.all (fitsF s) = true := jT fun j x hj hx => hno j x hj hx
 clear hno hi hlt hL
 (any_goals refine go dN 0 ?_)
 refine ⟨(1, y + 9), ⟨.inr rfl, fun _ => hall⟩, by dsimp only; omega, ?_⟩
 dsimp only
 exact bE
theorem Hf (ca sh tx th en sd : List (List RV)) (aq sq : Int) (c1 c2 : Int) (us vs : List (List RV)) (h : ((ca = (cellsOf ca).map aX ∧ sh = (valsOf sh).map valR ∧ tx = (strsOf tx).map strR ∧ th = (threadsOf th).map aJ ∧ en = (aF en).map endR ∧ sd = (valsOf sd).map valR) ∧ us = (valsOf us).map valR ∧ vs = (framesOf vs).map bA) ∧ Swf ⟨cellsOf ca, valsOf sh, strsOf tx, threadsOf th, aF en, valsOf sd, aq, sq⟩ ∧ Cwf ⟨c1, c2, valsOf us, framesOf vs⟩ ∧ Sh.checkF (valsOf sh) = 0 ∧ Ei ⟨c1, c2, valsOf us, framesOf vs⟩) : FC Cx 138 [.agg [.r (.rs 4 ca), .r (.rs 2 sh), .r (.rs 1 tx), .r (.rs 5 th), .r (.rs 3 en), .r (.rs 2 sd), Iv aq, Iv sq], .agg [Iv c1, Iv c2, .r (.rs 2 us), .r (.rs 8 vs)]] [] (Bv (eB ⟨cellsOf ca, valsOf sh, strsOf tx, threadsOf th, aF en, valsOf sd, aq, sq⟩ ⟨c1, c2, valsOf us, framesOf vs⟩)) [] := by
 have := Ir ⟨cellsOf ca, valsOf sh, strsOf tx, threadsOf th, aF en, valsOf sd, aq, sq⟩ ⟨c1, c2, valsOf us, framesOf vs⟩ h.2.1 h.2.2.1 h.2.2.2.1 h.2.2.2.2
 rwa [gR _ _ _ _ _ _ _ _ h.1.1, show gH ⟨c1, c2, valsOf us, framesOf vs⟩ = .agg [Iv c1, Iv c2, .r (.rs 2 us), .r (.rs 8 vs)] from by
  show AV.agg [Iv c1, Iv c2, aS (valsOf us), bL (framesOf vs)] = _
  rw [fG h.1.2.1, yA h.1.2.2]] at this
def kU (args : List AV) (K : AV → Prop) : Prop := match args with
 | [.agg [.r (.rs 4 ca), .r (.rs 2 sh), .r (.rs 1 tx), .r (.rs 5 th), .r (.rs 3 en), .r (.rs 2 sd), .r (.v (.int .i64 aq)), .r (.v (.int .i64 sq))], .agg [.r (.v (.int .i64 c1)), .r (.v (.int .i64 c2)), .r (.rs 2 us), .r (.rs 8 vs)]] => (((ca = (cellsOf ca).map aX ∧ sh = (valsOf sh).map valR ∧ tx = (strsOf tx).map strR ∧ th = (threadsOf th).map aJ ∧ en = (aF en).map endR ∧ sd = (valsOf sd).map valR) ∧ us = (valsOf us).map valR ∧ vs = (framesOf vs).map bA) ∧ Swf ⟨cellsOf ca, valsOf sh, strsOf tx, threadsOf th, aF en, valsOf sd, aq, sq⟩ ∧ Cwf ⟨c1, c2, valsOf us, framesOf vs⟩ ∧ Sh.checkF (valsOf sh) = 0 ∧ Ei ⟨c1, c2, valsOf us, framesOf vs⟩) ∧ K (Bv (eB ⟨cellsOf ca, valsOf sh, strsOf tx, threadsOf th, aF en, valsOf sd, aq, sq⟩ ⟨c1, c2, valsOf us, framesOf vs⟩))
 | _ => False
noncomputable abbrev Dj : Ct Cx := .pure 138 kU fun args K h => by
 unfold kU at h; split at h; exact ⟨_, aA (Hf _ _ _ _ _ _ _ _ _ _ _ _ h.1) aVy rfl rfl, h.2⟩; exact h.elim
@[go_sem] theorem Sw : type_of% @kU.eq_def := @kU.eq_def
def iE (fs : List aR) : List Int := (fs.filter fun f => !decide (f.gen = -1)).map (·.gen)
def gN (ts : List aP) : List Int := (ts.map fun t => iE t.frames).flatten
theorem Mr {fs : List aR} {i : Nat} {f : aR} (hf : fs[i]? = some f) : iE (fs.take (i + 1)) = iE (fs.take i) ++ (if f.gen = -1 then [] else [f.gen]) := by
 unfold iE
 rw [List.take_add_one, hf, List.filter_append, List.map_append]
 by_cases h : f.gen = -1
 ·rw [if_pos h]; simp [h]
 ·rw [if_neg h]; simp [h]
theorem No {ts : List aP} {i : Nat} {t : aP} (ht : ts[i]? = some t) : gN (ts.take (i + 1)) = gN (ts.take i) ++ iE t.frames := by
 unfold gN
 rw [List.take_add_one, ht, List.map_append, List.flatten_append]
 simp
theorem El (fs : List aR) : (iE fs).length ≤ fs.length := by
 unfold iE; rw [List.length_map]; exact List.length_filter_le _ _
theorem xK : ∀ {ts : List aP}, (∀ t ∈ ts, t.frames.length ≤ 30) → (gN ts).length ≤ 30 * ts.length
 | [], _ => by simp [gN]
 | t :: ts, h => by
  have h1 := xK (ts := ts) fun u hu => h u (List.mem_cons_of_mem _ hu)
  have h2 := El t.frames
  have h3 := h t (List.mem_cons_self ..)
  have e : gN (t :: ts) = iE t.frames ++ gN ts := rfl
  rw [e, List.length_append, List.length_cons]
  omega
theorem aB6 (s : aC) (hl : s.threads.length ≤ 5) (hf : ∀ t ∈ s.threads, t.frames.length ≤ 30) : FC Cx 79 [aO s] [] (cX (gN s.threads)) [] := by
 have l1 : (s.threads.map aJ).length = s.threads.length := List.length_map ..
 refine jP [] Tryz.func79 rfl Tryz.ntmps79 (by simp) Tryz.results79 rfl ?_
 refine rnst ?_
 refine goR ?_
 refine fzB 1 ?_
 (any_goals refine go lv79 0 ?_)
 (apply kQ 3 1003 3 1; (exact rfl); (exact rfl); (intro K0; (try simp only [go_sem]); exact ⟨id⟩))
 refine bX (fun x : Nat × Nat => x.1 ≤ s.threads.length) (fun x => ⟨33, [(3, .os 1003 (1 + (gN (s.threads.take x.1)).length)), (9, cF s.threads), (10, Iv s.threads.length), (11, Iv x.1)], [(1, 2, .gone), (1003, 1 + (gN (s.threads.take x.1)).length, .sl 3 1 ((gN (s.threads.take x.1)).map fun k => [Iv k])), (5, x.2, .gone), (7, x.2, .gone), (28, x.2, .gone)]⟩) (fun x => s.threads.length - x.1) (0, 0) (Nat.zero_le _) ?_
 rintro ⟨i, u⟩ hi
 dsimp only at hi ⊢
 by_cases hlt : i < s.threads.length
 case neg =>
  obtain rfl : i = s.threads.length := by omega
  have e1 := bR s.threads
  rw [List.take_length]
  (any_goals refine go lv79 0 ?_)
  all_goals (try simp only [go_sem])
 obtain ⟨t, hx, hg, h1, h2, hw⟩ := cC aJ s.threads hlt (by omega)
 have hfl := hf t (List.mem_of_getElem? hx)
 have l2 : (t.frames.map bA).length = t.frames.length := List.length_map ..
 have hnx := No hx
 have hL : (gN (s.threads.take i)).length ≤ 150 := by
  have := xK (ts := s.threads.take i) fun u hu => hf u (List.mem_of_mem_take hu)
  rw [List.length_take] at this
  omega
 generalize gN (s.threads.take i) = L at *
 (any_goals refine go lv79 0 ?_)
 refine bX (fun y : Nat × Nat => y.1 ≤ t.frames.length ∧ u ≤ y.2) (fun y => ⟨33, [(3, .os 1003 (1 + (L ++ iE (t.frames.take y.1)).length)), (9, cF s.threads), (10, Iv s.threads.length), (11, Iv i), (16, bL t.frames), (17, Iv t.frames.length), (18, Iv y.1)], [(1, 2, .gone), (1003, 1 + (L ++ iE (t.frames.take y.1)).length, .sl 3 1 ((L ++ iE (t.frames.take y.1)).map fun k => [Iv k])), (5, u + 1, .gone), (7, y.2, .gone), (28, y.2, .gone)]⟩) (fun y => t.frames.length - y.1) (0, u) ⟨Nat.zero_le _, Nat.le_refl _⟩ ?_ rfl ?_ ?_
 rotate_left
 ·exact ⟨by simp [bB, iE], rfl, rfl, rfl, rfl, rfl, rfl, trivial⟩
 ·exact ⟨rfl, .inl ⟨rfl, rfl⟩, by simp [iE], .inl ⟨by simp [iE], by simp [iE]⟩, rfl, .inr ⟨rfl, by omega⟩, rfl, .inl ⟨rfl, rfl⟩, rfl, .inl ⟨rfl, rfl⟩, trivial⟩
 rintro ⟨j, w⟩ ⟨hj, hwu⟩
 dsimp only at hj hwu ⊢
 by_cases hjl : j < t.frames.length
 case neg =>
  obtain rfl : j = t.frames.length := by omega
  have e1 := bR t.frames
  rw [List.take_length]
  have hnx2 : ∀ z, z = s.threads.take (i + 1) → gN z = L ++ iE t.frames := fun z hz => by rw [hz, hnx]
  clear hnx
  (any_goals refine go lv79 0 ?_)
  refine ⟨(i + 1, w + 9), by dsimp only; omega, by dsimp only; omega, ?_⟩
  dsimp only
  rw [hnx2 _ rfl]
  exact bE
 obtain ⟨f, hx', hg', j1, j2, jw⟩ := cC bA t.frames hjl (by omega)
 have hn2 := Mr hx'
 have hM : (iE (t.frames.take j)).length ≤ 30 := by
  have := El (t.frames.take j)
  rw [List.length_take] at this
  omega
 generalize iE (t.frames.take j) = M at *
 have lr : ((L ++ M).map fun k => [Iv k]).length = (L ++ M).length := List.length_map ..
 have lb : (L ++ M).length ≤ 1000 := by rw [List.length_append]; omega
 by_cases hgn : f.gen = -1
 ·have d0 : decide (f.gen = -1) = true := by simpa using hgn
  rw [if_pos hgn, List.append_nil] at hn2
  have hn3 : ∀ z, z = t.frames.take (j + 1) → iE z = M := fun z hz => by rw [hz, hn2]
  clear hgn hn2
  (any_goals refine go lv79 0 ?_)
  refine ⟨(j + 1, w + 9), ⟨by dsimp only; omega, by dsimp only; omega⟩, by dsimp only; omega, ?_⟩
  dsimp only
  rw [hn3 _ rfl]
  exact bE
 ·have d0 : decide (f.gen = -1) = false := by simpa using hgn
  rw [if_neg hgn] at hn2
  have hn3 : ∀ z, z = t.frames.take (j + 1) → L ++ iE z = (L ++ M) ++ [f.gen] := fun z hz => by rw [hz, hn2, List.append_assoc]
  clear hgn hn2
  generalize L ++ M = LM at *
  (any_goals refine go lv79 0 ?_)
  refine ⟨(j + 1, w + 9), ⟨by dsimp only; omega, by dsimp only; omega⟩, by dsimp only; omega, ?_⟩
  dsimp only
  rw [hn3 _ rfl]
  simp only [List.length_append, List.length_cons, List.length_nil, List.map_append, List.map_cons, List.map_nil]
  exact bE
def oX (p : aH) (s : aC) : Nat → Int → List aR → Bool
 | _, _, [] => true
 | k, low, f :: fs => cU p s f && decide (-1 ≤ f.tov ∧ f.tov ≤ low - 1) && ((p.fns.getD f.fn.toNat fn0).gen == !decide (f.gen = -1)) && (!(p.fns.getD f.fn.toNat fn0).gen || iP s k f) && oX p s (k + 1) f.regs.length fs
def kE (p : aH) (s : aC) (t : aP) : Bool := wJ p s t && oX p s 0 0 t.frames
theorem Bp (p : aH) (s : aC) : ∀ (fs : List aR) (k : Nat) (low : Int), oX p s k low fs = true ↔ jV p s k low fs
 | [], k, low => by unfold oX jV; simp
 | f :: fs, k, low => by
  unfold oX jV
  simp only [Bool.and_eq_true, beq_iff_eq, Bool.or_eq_true, Bool.not_eq_true', decide_eq_true_eq]
  rw [Bp p s fs]
  constructor
  ·rintro ⟨⟨⟨⟨a1, a2⟩, a3⟩, a4⟩, a5⟩
   have hg : (p.fns.getD f.fn.toNat fn0).gen = true → 0 ≤ f.gen := fun h => by
    have := a4.resolve_left (by rw [h]; simp)
    unfold iP at this
    simp only [Bool.and_eq_true] at this
    exact (Hl this.1.2).1
   refine ⟨⟨?_, fun h0 => ?_⟩, a5⟩
   ·unfold onF
    rw [a1, decide_eq_true a2]
    by_cases h1 : f.gen = -1
    ·rw [a3, h1]; rfl
    ·have h2 : (p.fns.getD f.fn.toNat fn0).gen = true := by rw [a3]; simp [h1]
     have h3 := hg h2
     rw [h2, decide_eq_true h3, decide_eq_false (by omega)]; rfl
   ·refine a4.resolve_left ?_
    rw [a3]
    simp; omega
  ·rintro ⟨⟨a1, a2⟩, a3⟩
   have h0 := Rh a1
   unfold onF at a1
   simp only [Bool.and_eq_true, Bool.not_eq_true', decide_eq_true_eq, decide_eq_false_iff_not] at a1
   obtain ⟨⟨⟨b1, b2⟩, _⟩, b4⟩ := a1
   refine ⟨⟨⟨⟨b1, b2⟩, ?_⟩, ?_⟩, a3⟩
   ·rw [h0]
    by_cases h1 : 0 ≤ f.gen
    ·rw [decide_eq_true h1, decide_eq_false (by omega)]; rfl
    ·rw [decide_eq_false h1, decide_eq_true (show f.gen = -1 by omega)]; rfl
   ·by_cases h1 : 0 ≤ f.gen
    ·exact .inr (a2 h1)
    ·left; rw [h0, decide_eq_false h1]
theorem yE {p : aH} {s : aC} {t : aP} : kE p s t = true ↔ jY p s t := by
 unfold kE jY
 rw [Bool.and_eq_true, Bp]
theorem Am (p : aH) (s : aC) (t : aP) (hp : Pgo p) (hfs : ∀ f ∈ t.frames, Gwf f) (hl : t.frames.length ≤ 30) (hl2 : s.threads.length ≤ 9223372036854775807) (hsl : s.cells.length ≤ 9223372036854775807) (hno : (((decide (t.state = 3) || decide (t.state = 4)) == decide ((t.frames.length : Int) = 0)) && ((decide (t.state = 3) || decide (t.state = 4)) || (decide (t.val.1 = 0) && decide (t.val.2 = 0))) && fitsF s t.val && decide (0 ≤ t.state ∧ t.state ≤ 4)) = false) :
  FC Cx 82 [bQ p, aO s, dT t] [] (Bv false) [] := by
 have l0 : (t.frames.map bA).length = t.frames.length := List.length_map ..
 have l1 : (s.threads.map aJ).length = s.threads.length := List.length_map ..
 have l2 : (p.fns.map fnR).length = p.fns.length := List.length_map ..
 have lc : (s.cells.map aX).length = s.cells.length := List.length_map ..
 obtain ⟨fs, state, on, ⟨vk, vn⟩⟩ := t
 dsimp only at *
 have w1 : IntKind.i64.wrap ((s.threads.length : Int) - 1) = (s.threads.length : Int) - 1 := by rw [aL] <;> omega
 have hlen : decide ((0 : Int) < (fs.length : Int)) = !decide ((fs.length : Int) = 0) := by
  rw [← decide_not, decide_eq_decide]; omega
 obtain ⟨o3, r1⟩ : ∃ c, decide (state = 3) = c := ⟨_, rfl⟩
 obtain ⟨o4, r2⟩ : ∃ c, decide (state = 4) = c := ⟨_, rfl⟩
 obtain ⟨e, r3⟩ : ∃ c, decide ((fs.length : Int) = 0) = c := ⟨_, rfl⟩
 obtain ⟨v1, r4⟩ : ∃ c, decide (vk = 0) = c := ⟨_, rfl⟩
 obtain ⟨v2, r5⟩ : ∃ c, decide (vn = 0) = c := ⟨_, rfl⟩
 obtain ⟨ff, r6⟩ : ∃ c, fitsF s (vk, vn) = c := ⟨_, rfl⟩
 obtain ⟨w, r7⟩ : ∃ c, decide (0 ≤ state ∧ state ≤ 4) = c := ⟨_, rfl⟩
 rw [r1, r2, r3, r4, r5, r6, r7] at hno
 rw [r3] at hlen
 cases w with
 | false =>
  refine aD [aV, cR, cZ, fA] Tryz.func82 Tryz.ntmps82 Tryz.results82 ?_
  refine goR ?_
  refine fzB 3 ?_
  refine fzB 4 ?_
  refine fzB 5 ?_
  (any_goals refine go lv82 0 ?_)
  all_goals (try simp only [go_sem])
 | true =>
 by_cases hoe : ((o3 || o4) == e) = false
 ·skip
  cases o3 <;> cases o4 <;> cases e <;> first | cases hoe | skip
  all_goals
   refine aD [aV, cR, cZ, fA] Tryz.func82 Tryz.ntmps82 Tryz.results82 ?_
   refine goR ?_
   refine fzB 3 ?_
   refine fzB 4 ?_
   refine fzB 5 ?_
   (any_goals refine go lv82 0 ?_)
   all_goals (try simp only [go_sem])
 by_cases hov : ((o3 || o4) || (v1 && v2)) = false
 ·skip
  cases o3 <;> cases o4 <;> cases v1 <;> cases v2 <;> first | cases hov | skip
  all_goals cases e <;> first | cases hoe rfl | skip
  all_goals
   refine aD [aV, cR, cZ, fA] Tryz.func82 Tryz.ntmps82 Tryz.results82 ?_
   refine goR ?_
   refine fzB 3 ?_
   refine fzB 4 ?_
   refine fzB 5 ?_
   (any_goals refine go lv82 0 ?_)
   all_goals (try simp only [go_sem])
 rw [Bool.not_eq_false] at hoe hov
 cases ff with
 | false =>
  cases o3 <;> cases o4 <;> cases e <;> first | cases hoe | skip
  all_goals cases v1 <;> cases v2 <;> first | cases hov | skip
  all_goals
   refine aD [aV, cR, cZ, fA] Tryz.func82 Tryz.ntmps82 Tryz.results82 ?_
   refine goR ?_
   refine fzB 3 ?_
   refine fzB 4 ?_
   refine fzB 5 ?_
   (any_goals refine go lv82 0 ?_)
   all_goals (try simp only [go_sem])
 | true =>
  rw [hoe, hov] at hno
  cases hno
theorem aF9 {s : aC} (v : Int × Int) {q : Int} (hq : q ≠ 0) : isF' s v q = refF s v q := by
 obtain ⟨k, n⟩ := v
 unfold isF' refF fitsF
 dsimp only
 by_cases h5 : k = 5
 ·subst h5
  rw [show gM 5 n = decide (0 ≤ n) from rfl, if_neg (by decide), if_pos rfl, Bool.eq_iff_iff]
  simp only [Bool.and_eq_true, decide_eq_true_eq, Bool.not_eq_true', decide_eq_false_iff_not, decide_true, true_and]
  constructor
  ·rintro ⟨⟨⟨a, b, c⟩, _⟩, d⟩; exact ⟨⟨a, b⟩, d⟩
  ·rintro ⟨⟨a, b⟩, d⟩; exact ⟨⟨⟨a, b, by rw [d]; exact hq⟩, trivial⟩, d⟩
 ·have d5 : decide (k = 5) = false := by simpa using h5
  rw [d5]; simp
noncomputable def Oh (s : aC) : Bool := iS s.texts && (s.shapes.all fun x => decide (x.2 < (s.texts.length : Int))) && s.cells.all (eB s) && (s.said.all fun v => decide (v.1 = 4) && fitsF s v) && (s.ends.all fun e => decide (0 ≤ e.cell ∧ e.cell ≤ (s.cells.length : Int) - 1) && refF s e.fn 4)
theorem zG {α : Type} {l : List α} {p q : α → Bool} (h : ∀ x, p x = !q x) : l.any p = !l.all q := by
 rw [List.any_eq_not_all_not]
 refine congrArg (fun b => !b) (congrArg l.all (funext fun x => ?_))
 rw [h, Bool.not_not]
theorem Xi (s : aC) : cW s = if kT s = true then 2 else if Sh.checkF s.shapes ≠ 0 then Sh.checkF s.shapes else if Oh s = true then 0 else 3 := by
 unfold cW Oh
 rw [zG (l := s.shapes) (q := fun x => decide (x.2 < (s.texts.length : Int))) (fun x => by rw [← decide_not, decide_eq_decide]; omega), zG (l := s.cells) (q := eB s) (fun _ => rfl),
  zG (l := s.said) (q := fun v => decide (v.1 = 4) && fitsF s v) (fun v => by unfold badS; simp), zG (l := s.ends) (q := fun e => decide (0 ≤ e.cell ∧ e.cell ≤ (s.cells.length : Int) - 1) && refF s e.fn 4) (fun e => by unfold badE; rw [aF9 e.fn (by decide)]; simp)]
 cases iS s.texts <;> cases s.shapes.all _ <;> cases s.cells.all _ <;> cases s.said.all _ <;> cases s.ends.all _ <;> simp
def tQ (p : aH) (s : aC) (x : bM × Nat) : Bool := dJ p s x.1 && (!(decide (x.1.kind = 5) && decide (x.1.num = 1)) || decide ((x.2 : Int) ∈ gN s.threads))
def preD (p : aH) (s : aC) : Bool := decide (0 < s.threads.length) && decide (p.texts.length ≤ s.texts.length) && decide (0 ≤ s.steps ∧ s.steps ≤ 1000000000) && decide (0 ≤ s.asked ∧ s.asked ≤ 1000000000) && decide (s.texts.take p.texts.length = p.texts)
def Hw (p : aH) (s : aC) : Bool := preD p s && (decide (gN s.threads).Nodup && s.cells.zipIdx.all (tQ p s) && s.threads.all (kE p s))
theorem yU {p : aH} {s : aC} : ∀ {fs : List aR} {k : Nat} {low : Int}, jV p s k low fs → iE fs = nS fs
 | [], _, _, _ => rfl
 | f :: fs, k, low, h => by
  unfold jV at h
  have h2 := yU h.2
  have h3 : ¬ f.gen < -1 := by
   have := h.1.1
   unfold onF at this
   simp only [Bool.and_eq_true, Bool.not_eq_true', decide_eq_false_iff_not] at this
   exact this.2
  unfold iE nS at h2 ⊢
  by_cases h1 : 0 ≤ f.gen
  ·rw [List.filter_cons_of_pos (by simp; omega), List.filter_cons_of_pos (by simpa using h1), List.map_cons, List.map_cons, h2]
  ·rw [List.filter_cons_of_neg (by simp; omega), List.filter_cons_of_neg (by simpa using h1), h2]
theorem pS {p : aH} {s : aC} : ∀ {ts : List aP}, (∀ t ∈ ts, jY p s t) → gN ts = rF ts
 | [], _ => rfl
 | t :: ts, h => by
  show iE t.frames ++ gN ts = nS t.frames ++ rF ts
  rw [yU (h t (List.mem_cons_self ..)).2, pS fun u hu => h u (List.mem_cons_of_mem _ hu)]
theorem Nq (p : aH) (s : aC) : Hw p s = uF p s := by
 rw [Bool.eq_iff_iff]
 unfold Hw uF preD
 simp only [Bool.and_eq_true, decide_eq_true_eq, Bool.not_eq_true', decide_eq_false_iff_not, List.all_eq_true]
 constructor
 ·rintro ⟨⟨⟨⟨⟨a1, a2⟩, a3⟩, a4⟩, a5⟩, ⟨a6, a7⟩, a8⟩
  have ht : ∀ t ∈ s.threads, jY p s t := fun t h => yE.1 (a8 t h)
  have eg := pS ht
  rw [eg] at a6
  have hg : (threadsG p s s.threads []).1 = true := kY.2 ⟨ht, a6⟩
  refine ⟨⟨⟨⟨⟨⟨⟨a2, a5⟩, a3⟩, a4⟩, by omega⟩, fun c hc => ?_⟩, hg⟩, fun x hx => ?_⟩
  ·obtain ⟨k, hk⟩ := List.mem_iff_getElem?.1 hc
   have := a7 (c, k) (by rw [List.mem_zipIdx_iff_getElem?]; exact hk)
   unfold tQ at this
   rw [Bool.and_eq_true] at this
   exact this.1
  ·have := a7 x hx
   unfold tQ at this
   rw [Bool.and_eq_true, eg] at this
   have e : decide ((x.2 : Int) ∈ (threadsG p s s.threads []).2) = decide ((x.2 : Int) ∈ rF s.threads) := by rw [decide_eq_decide]; exact mH hg _
   rw [e]; exact this.2
 ·rintro ⟨⟨⟨⟨⟨⟨⟨a1, a2⟩, a3⟩, a4⟩, a5⟩, a6⟩, a7⟩, a8⟩
  have h9 := kY.1 a7
  have eg := pS h9.1
  refine ⟨⟨⟨⟨⟨by omega, a1⟩, a3⟩, a4⟩, a2⟩, ⟨by rw [eg]; exact h9.2, fun x hx => ?_⟩, fun t h => yE.2 (h9.1 t h)⟩
  unfold tQ
  rw [Bool.and_eq_true, eg]
  refine ⟨a6 x.1 ?_, ?_⟩
  ·obtain ⟨c, k⟩ := x
   rw [List.mem_zipIdx_iff_getElem?] at hx
   exact List.mem_of_getElem? hx
  ·have e : decide ((x.2 : Int) ∈ (threadsG p s s.threads []).2) = decide ((x.2 : Int) ∈ rF s.threads) := by rw [decide_eq_decide]; exact mH a7 _
   rw [← e]; exact a8 x hx
theorem Kp (p : aH) (s : aC) : eO p s = if checkF p ≠ 0 then checkF p else if cW s ≠ 0 then cW s else if yV s = true then 2 else if Hw p s = true then 0 else 3 := by
 unfold eO; rw [Nq]
def kP (s : aC) : Prop := ∀ c ∈ s.cells, Ei c
theorem Jr (s : aC) (hs : Swf s) (hrg : kP s) : FC Cx 78 [aO s] [] (Iv (cW s)) [] := by
 have hl := hs.len
 obtain ⟨s1, s2, s3, s4, s5, s6⟩ := hs.len
 have l1 : (s.cells.map aX).length = s.cells.length := List.length_map ..
 have l2 : (s.texts.map strR).length = s.texts.length := List.length_map ..
 have l3 : (s.said.map valR).length = s.said.length := List.length_map ..
 have l4 : (s.ends.map endR).length = s.ends.length := List.length_map ..
 have l5 : (s.shapes.map valR).length = s.shapes.length := List.length_map ..
 have hshw := hs.shapes
 rw [Xi]
 refine aD [Sh.ct_fault, yR, Dj, cZ, cR, aV] Tryz.func78 Tryz.ntmps78 Tryz.results78 ?_
 refine goR ?_
 refine fzB 1 ?_
 (any_goals refine go lv78 0 ?_)
 -- texts that are too long
 generalize hA0 : (decide ((300 : Int) < (s.cells.length : Int)) || decide ((300 : Int) < (s.texts.length : Int)) || decide ((200 : Int) < (s.said.length : Int)) || decide ((100 : Int) < (s.ends.length : Int))) = A0
 refine cI [1, 3, 46, 47, 48] (fun k : Nat => k ≤ s.texts.length) (fun k => ⟨203, [(1, bW s), (3, Bv (A0 || (s.texts.take k).any bigS)), (46, bZ s.texts), (47, Iv s.texts.length), (48, Iv k)], [(1, 2, .gone)]⟩) (fun k => s.texts.length - k) 0 (Nat.zero_le _) ?_ rfl (by simp [cE, memN, hA0])
 intro k hk
 by_cases hlt : k < s.texts.length
 case pos =>
  obtain ⟨x, hx, hg, h1, h2, hw⟩ := cC strR s.texts hlt (by omega)
  (any_goals refine go lv78 0 ?_)
  refine ⟨k + 1, by omega, by omega, ?_⟩
  rw [rM hx, ← Bool.or_assoc]
  exact aY [1, 3, 46, 47, 48]
 obtain rfl : k = s.texts.length := by omega
 have e1 := bR s.texts
 have c2 : (A0 || s.texts.any bigS || s.cells.any bigC) = kT s := by rw [← hA0]; rfl
 rw [List.take_length]
 clear hlt hk
 generalize hA1 : (A0 || s.texts.any bigS) = A1 at *
 (any_goals refine go lv78 0 ?_)
 clear e1
 -- cells that are too large
 refine cI [1, 3, 60, 61, 62] (fun x : Nat × Nat => x.1 ≤ s.cells.length) (fun x => let k := x.1; let u := x.2; ⟨203, [(1, bW s), (3, Bv (A1 || (s.cells.take k).any bigC)), (60, dG s.cells), (61, Iv s.cells.length), (62, Iv k)], [(1, 2, .gone), (7, u, .gone), (16, u, .gone), (18, u, .gone), (20, u, .gone), (22, u, .gone)]⟩) (fun x => s.cells.length - x.1) (0, 0) (Nat.zero_le _) ?_ rfl (by simp [cE, memN])
 rintro ⟨k, u⟩ hk
 dsimp only at hk ⊢
 by_cases hlt : k < s.cells.length
 case pos =>
  obtain ⟨c, hx, hg, h1, h2, hw⟩ := cC aX s.cells hlt (by omega)
  have lv : (c.vals.map valR).length = c.vals.length := List.length_map ..
  have hb : bigC c = (if c.kind = 7 then decide ((600 : Int) < (c.vals.length : Int)) else decide ((100 : Int) < (c.vals.length : Int))) := by
   unfold bigC
   by_cases h7 : c.kind = 7
   ·rw [if_pos h7, decide_eq_true h7, Bool.not_true, Bool.false_or, Bool.eq_iff_iff]; simp; omega
   ·rw [if_neg h7, decide_eq_false h7, Bool.not_false, Bool.true_or, Bool.and_true]
  have eb := rM (q := bigC) hx
  by_cases h7 : c.kind = 7
  ·rw [if_pos h7] at hb
   have d7 : decide (c.kind = 7) = true := by simpa using h7
   clear h7
   (any_goals refine go lv78 0 ?_)
   refine ⟨(k + 1, u + 9), by dsimp only; omega, by dsimp only; omega, ?_⟩
   dsimp only
   rw [eb, hb, ← Bool.or_assoc]
   exact aY [1, 3, 60, 61, 62]
  ·rw [if_neg h7] at hb
   have d7 : decide (c.kind = 7) = false := by simpa using h7
   clear h7
   (any_goals refine go lv78 0 ?_)
   refine ⟨(k + 1, u + 9), by dsimp only; omega, by dsimp only; omega, ?_⟩
   dsimp only
   rw [eb, hb, ← Bool.or_assoc]
   exact aY [1, 3, 60, 61, 62]
 obtain rfl : k = s.cells.length := by omega
 have e1 := bR s.cells
 rw [List.take_length, c2]
 clear hlt hk c2 hA1
 cases hL : kT s with
 | true =>
  rw [if_pos rfl]
  (any_goals refine go lv78 0 ?_)
  all_goals (try simp only [go_sem])
 | false =>
 rw [if_neg (by simp)]
 have hp := Bg hL
 by_cases hk : Sh.checkF s.shapes = 0
 case neg =>
  rw [if_pos hk]
  have d0 : decide (Sh.checkF s.shapes = 0) = false := by simpa using hk
  (any_goals refine go lv78 0 ?_)
  all_goals (try simp only [go_sem])
 rw [if_neg (by simpa using hk)]
 have d0 : decide (Sh.checkF s.shapes = 0) = true := by simpa using hk
 have hc3 := hp.cells
 (any_goals refine go lv78 0 ?_)
 clear e1
 -- texts
 generalize hB0 : decide ((19 : Int) ≤ (s.texts.length : Int)) = B0
 refine cI [1, 10, 90, 91, 92] (fun k : Nat => k ≤ s.texts.length) (fun k => ⟨203, [(1, bW s), (10, Bv (B0 && tOk s.texts k)), (90, bZ s.texts), (91, Iv s.texts.length), (92, Iv k)], [(1, 2, .gone), (7, u, .gone), (16, u, .gone), (18, u, .gone), (20, u, .gone), (22, u, .gone)]⟩) (fun k => s.texts.length - k) 0 (Nat.zero_le _) ?_ rfl (by simp [cE, memN, hB0, tOk])
 intro k hk
 by_cases hlt : k < s.texts.length
 case pos =>
  have c1 : decide ((k : Int) < (s.texts.length : Int)) = true := by rw [decide_eq_true_eq]; omega
  have t1 : Int.toNat (k : Int) = k := by omega
  have w1 : IntKind.i64.wrap ((k : Int) + 1) = ((k + 1 : Nat) : Int) := by rw [aL] <;> omega
  obtain ⟨t, ht⟩ : ∃ t, s.texts[k]? = some t := ⟨s.texts[k], List.getElem?_eq_getElem hlt⟩
  have hg := aE strR ht ([] : List RV)
  have hm : List.drop 0 (List.take k (s.texts.map strR)) = (s.texts.take k).map strR := by rw [List.map_take]; rfl
  have lm : ((s.texts.take k).map strR).length = k := by simp; omega
  have ek : s.texts.getD k ⟨#[]⟩ = t := by simp [List.getD, ht]
  (any_goals refine go (eM 24 lv78) 0 ?_)
  refine mJ (st' := ⟨203, [(1, bW s), (10, Bv (B0 && tOk s.texts k && (decide (19 ≤ k) || decide (t = cH.getD k ⟨#[]⟩)))), (90, bZ s.texts), (91, Iv s.texts.length), (92, Iv k), (11, Iv k), (12, Sv t)], [(1, 2, .gone), (7, u, .gone), (16, u, .gone), (18, u, .gone), (20, u, .gone), (22, u, .gone)]⟩) True rfl ?_ fun _ => ?_
  ·cases hq : (B0 && tOk s.texts k) with
   | false =>
    simp only [Bool.false_and]
    (any_goals refine go lv78 0 ?_)
    all_goals (try simp only [go_sem])
    exact Lx.le (aY [1, 10, 90, 91, 92, 11, 12])
   | true =>
    by_cases h19 : 19 ≤ k
    ·have e2 : decide ((19 : Int) ≤ (k : Int)) = true := by rw [decide_eq_true_eq]; omega
     rw [decide_eq_true h19]
     (any_goals refine go lv78 0 ?_)
     all_goals (try simp only [go_sem])
     exact Lx.le (aY [1, 10, 90, 91, 92, 11, 12])
    ·have e2 : decide ((19 : Int) ≤ (k : Int)) = false := by rw [decide_eq_false_iff_not]; omega
     rw [decide_eq_false h19]
     obtain ⟨x, hx⟩ : ∃ x, cH[k]? = some x := ⟨cH[k]'(by rw [mA]; omega), List.getElem?_eq_getElem _⟩
     have hgw := aE strR hx ([] : List RV)
     have ew : cH.getD k ⟨#[]⟩ = x := by simp [List.getD, hx]
     rw [ew]
     (any_goals refine go lv78 0 ?_)
     all_goals (try simp only [go_sem])
     exact Lx.le (aY [1, 10, 90, 91, 92, 11, 12])
  generalize hX : (B0 && tOk s.texts k && (decide (19 ≤ k) || decide (t = cH.getD k ⟨#[]⟩))) = X
  (any_goals refine go lv78 0 ?_)
  refine cI [1, 10, 90, 91, 92, 12, 113, 114, 115] (fun i : Nat => i ≤ k) (fun i => ⟨203, [(1, bW s), (10, Bv (X && ((s.texts.take k).take i).all fun u => !decide (t = u))), (90, bZ s.texts), (91, Iv s.texts.length), (92, Iv k), (12, Sv t), (113, bZ (s.texts.take k)), (114, Iv k), (115, Iv i)], [(1, 2, .gone), (7, u, .gone), (16, u, .gone), (18, u, .gone), (20, u, .gone), (22, u, .gone)]⟩) (fun i => k - i) 0 (Nat.zero_le _) ?_ rfl (by simp [cE, memN])
  intro i hi
  by_cases hik : i < k
  case pos =>
   have c2 : decide ((i : Int) < (k : Int)) = true := by rw [decide_eq_true_eq]; omega
   have t2 : Int.toNat (i : Int) = i := by omega
   have w2 : IntKind.i64.wrap ((i : Int) + 1) = ((i + 1 : Nat) : Int) := by rw [aL] <;> omega
   obtain ⟨y, hy⟩ : ∃ s', (s.texts.take k)[i]? = some s' := ⟨(s.texts.take k)[i]'(by simp; omega), List.getElem?_eq_getElem _⟩
   have hgy := aE strR hy ([] : List RV)
   (any_goals refine go lv78 0 ?_)
   refine ⟨i + 1, by omega, by omega, ?_⟩
   rw [iH hy, ← Bool.and_assoc]
   exact aY [1, 10, 90, 91, 92, 12, 113, 114, 115]
  obtain rfl : i = k := by omega
  have c2 : decide ((i : Int) < (i : Int)) = false := by rw [decide_eq_false_iff_not]; omega
  have eX : (X && ((s.texts.take i).take i).all fun u => !decide (t = u)) = (B0 && tOk s.texts (i + 1)) := by
   rw [Lb, ← hX]
   unfold tOne
   rw [ek, List.take_of_length_le (l := s.texts.take i) (by simp; omega)]
   simp only [Bool.and_assoc]
  rw [eX]
  (any_goals refine go lv78 0 ?_)
  refine ⟨i + 1, by omega, by omega, ?_⟩
  exact aY [1, 10, 90, 91, 92]
 obtain rfl : k = s.texts.length := by omega
 have e1 := bR s.texts
 have hC0 : (B0 && tOk s.texts s.texts.length) = iS s.texts := by
  unfold iS
  by_cases h19 : 19 ≤ s.texts.length
  ·rw [← hB0, decide_eq_true (show (19 : Int) ≤ (s.texts.length : Int) by omega), decide_eq_true h19, Bool.true_and, Bool.true_and, Rb _ h19]
  ·rw [← hB0, decide_eq_false (show ¬ (19 : Int) ≤ (s.texts.length : Int) by omega), decide_eq_false h19]; rfl
 rw [hC0]
 clear hlt hC0 hB0 hk
 unfold Oh
 generalize iS s.texts = C0
 (any_goals refine go lv78 0 ?_)
 clear e1
 -- shapes
 refine cI [1, 10, 128, 129, 130] (fun x : Nat × Nat => x.1 ≤ s.shapes.length) (fun x => let k := x.1; let u := x.2; ⟨203, [(1, bW s), (10, Bv (C0 && (s.shapes.take k).all (fun x => decide (x.2 < (s.texts.length : Int))))), (128, aS s.shapes), (129, Iv s.shapes.length), (130, Iv k)], [(1, 2, .gone), (7, u, .gone), (16, u, .gone), (18, u, .gone), (20, u, .gone), (22, u, .gone)]⟩) (fun x => s.shapes.length - x.1) (0, u) (Nat.zero_le _) ?_ rfl (by simp [cE, memN])
 clear u
 rintro ⟨k, u⟩ hk
 dsimp only at hk ⊢
 by_cases hlt : k < s.shapes.length
 case pos =>
  obtain ⟨x, hx, hg, h1, h2, hw⟩ := cC valR s.shapes hlt (by omega)
  have eb := iH (q := (fun x => decide (x.2 < (s.texts.length : Int)))) hx
  generalize (s.shapes.take k).all (fun x => decide (x.2 < (s.texts.length : Int))) = T at *
  (any_goals refine go lv78 0 ?_)
  refine ⟨(k + 1, u + 9), by dsimp only; omega, by dsimp only; omega, ?_⟩
  dsimp only
  rw [eb, ← Bool.and_assoc]
  exact aY [1, 10, 128, 129, 130]
 obtain rfl : k = s.shapes.length := by omega
 have e1 := bR s.shapes
 rw [List.take_length]
 clear hlt hk
 generalize (C0 && s.shapes.all (fun x => decide (x.2 < (s.texts.length : Int)))) = C1
 (any_goals refine go lv78 0 ?_)
 clear e1
 -- cells
 refine cI [1, 10, 145, 146, 147] (fun x : Nat × Nat => x.1 ≤ s.cells.length) (fun x => let k := x.1; let u := x.2; ⟨203, [(1, bW s), (10, Bv (C1 && (s.cells.take k).all (eB s))), (145, dG s.cells), (146, Iv s.cells.length), (147, Iv k)], [(1, 2, .gone), (7, u, .gone), (16, u, .gone), (18, u, .gone), (20, u, .gone), (22, u, .gone)]⟩) (fun x => s.cells.length - x.1) (0, u) (Nat.zero_le _) ?_ rfl (by simp [cE, memN])
 clear u
 rintro ⟨k, u⟩ hk
 dsimp only at hk ⊢
 by_cases hlt : k < s.cells.length
 case pos =>
  obtain ⟨x, hx, hg, h1, h2, hw⟩ := cC aX s.cells hlt (by omega)
  have hcw := hs.cell x (List.mem_of_getElem? hx)
  have hcr := hrg x (List.mem_of_getElem? hx)
  have eb := iH (q := (eB s)) hx
  generalize (s.cells.take k).all (eB s) = T at *
  (any_goals refine go lv78 0 ?_)
  refine ⟨(k + 1, u + 9), by dsimp only; omega, by dsimp only; omega, ?_⟩
  dsimp only
  rw [eb, ← Bool.and_assoc]
  exact aY [1, 10, 145, 146, 147]
 obtain rfl : k = s.cells.length := by omega
 have e1 := bR s.cells
 rw [List.take_length]
 clear hlt hk
 generalize (C1 && s.cells.all (eB s)) = C2
 (any_goals refine go lv78 0 ?_)
 clear e1
 -- what was said
 refine cI [1, 10, 159, 160, 161] (fun x : Nat × Nat => x.1 ≤ s.said.length) (fun x => let k := x.1; let u := x.2; ⟨203, [(1, bW s), (10, Bv (C2 && (s.said.take k).all (fun v => decide (v.1 = 4) && fitsF s v))), (159, aS s.said), (160, Iv s.said.length), (161, Iv k)], [(1, 2, .gone), (7, u, .gone), (16, u, .gone), (18, u, .gone), (20, u, .gone), (22, u, .gone)]⟩) (fun x => s.said.length - x.1) (0, u) (Nat.zero_le _) ?_ rfl (by simp [cE, memN])
 clear u
 rintro ⟨k, u⟩ hk
 dsimp only at hk ⊢
 by_cases hlt : k < s.said.length
 case pos =>
  obtain ⟨x, hx, hg, h1, h2, hw⟩ := cC valR s.said hlt (by omega)
  have eb := iH (q := (fun v => decide (v.1 = 4) && fitsF s v)) hx
  generalize (s.said.take k).all (fun v => decide (v.1 = 4) && fitsF s v) = T at *
  (any_goals refine go lv78 0 ?_)
  refine ⟨(k + 1, u + 9), by dsimp only; omega, by dsimp only; omega, ?_⟩
  dsimp only
  rw [eb, ← Bool.and_assoc, ← Bool.and_assoc]
  exact aY [1, 10, 159, 160, 161]
 obtain rfl : k = s.said.length := by omega
 have e1 := bR s.said
 rw [List.take_length]
 clear hlt hk
 generalize (C2 && s.said.all (fun v => decide (v.1 = 4) && fitsF s v)) = C3
 (any_goals refine go lv78 0 ?_)
 clear e1
 -- ends
 refine cI [1, 10, 178, 179, 180] (fun x : Nat × Nat => x.1 ≤ s.ends.length) (fun x => let k := x.1; let u := x.2; ⟨203, [(1, bW s), (10, Bv (C3 && (s.ends.take k).all (fun e => decide (0 ≤ e.cell ∧ e.cell ≤ (s.cells.length : Int) - 1) && refF s e.fn 4))), (178, fP s.ends), (179, Iv s.ends.length), (180, Iv k)], [(1, 2, .gone), (7, u, .gone), (16, u, .gone), (18, u, .gone), (20, u, .gone), (22, u, .gone)]⟩) (fun x => s.ends.length - x.1) (0, u) (Nat.zero_le _) ?_ rfl (by simp [cE, memN])
 clear u
 rintro ⟨k, u⟩ hk
 dsimp only at hk ⊢
 by_cases hlt : k < s.ends.length
 case pos =>
  obtain ⟨x, hx, hg, h1, h2, hw⟩ := cC endR s.ends hlt (by omega)
  have w1 : IntKind.i64.wrap ((s.cells.length : Int) - 1) = (s.cells.length : Int) - 1 := by rw [aL] <;> omega
  have eb := iH (q := (fun e => decide (0 ≤ e.cell ∧ e.cell ≤ (s.cells.length : Int) - 1) && refF s e.fn 4)) hx
  generalize (s.ends.take k).all (fun e => decide (0 ≤ e.cell ∧ e.cell ≤ (s.cells.length : Int) - 1) && refF s e.fn 4) = T at *
  (any_goals refine go lv78 0 ?_)
  refine ⟨(k + 1, u + 9), by dsimp only; omega, by dsimp only; omega, ?_⟩
  dsimp only
  rw [eb, ← Bool.and_assoc, ← Bool.and_assoc]
  exact aY [1, 10, 178, 179, 180]
 obtain rfl : k = s.ends.length := by omega
 have e1 := bR s.ends
 rw [List.take_length]
 clear hlt hk
 generalize (C3 && s.ends.all (fun e => decide (0 ≤ e.cell ∧ e.cell ≤ (s.cells.length : Int) - 1) && refF s e.fn 4)) = C4
 cases C4
 all_goals
  (any_goals refine go lv78 0 ?_)
  all_goals (try simp only [go_sem])
theorem Ie (ca sh tx th en sd : List (List RV)) (aq sq : Int) (h : (ca = (cellsOf ca).map aX ∧ sh = (valsOf sh).map valR ∧ tx = (strsOf tx).map strR ∧ th = (threadsOf th).map aJ ∧ en = (aF en).map endR ∧ sd = (valsOf sd).map valR) ∧ Swf ⟨cellsOf ca, valsOf sh, strsOf tx, threadsOf th, aF en, valsOf sd, aq, sq⟩ ∧ kP ⟨cellsOf ca, valsOf sh, strsOf tx, threadsOf th, aF en, valsOf sd, aq, sq⟩) : FC Cx 78 [.agg [.r (.rs 4 ca), .r (.rs 2 sh), .r (.rs 1 tx), .r (.rs 5 th), .r (.rs 3 en), .r (.rs 2 sd), Iv aq, Iv sq]] [] (Iv (cW ⟨cellsOf ca, valsOf sh, strsOf tx, threadsOf th, aF en, valsOf sd, aq, sq⟩)) [] := by
 have := Jr ⟨cellsOf ca, valsOf sh, strsOf tx, threadsOf th, aF en, valsOf sd, aq, sq⟩ h.2.1 h.2.2
 rwa [gR _ _ _ _ _ _ _ _ h.1] at this
def kV (args : List AV) (K : AV → Prop) : Prop := match args with
 | [.agg [.r (.rs 4 ca), .r (.rs 2 sh), .r (.rs 1 tx), .r (.rs 5 th), .r (.rs 3 en), .r (.rs 2 sd), .r (.v (.int .i64 aq)), .r (.v (.int .i64 sq))]] => ((ca = (cellsOf ca).map aX ∧ sh = (valsOf sh).map valR ∧ tx = (strsOf tx).map strR ∧ th = (threadsOf th).map aJ ∧ en = (aF en).map endR ∧ sd = (valsOf sd).map valR) ∧ Swf ⟨cellsOf ca, valsOf sh, strsOf tx, threadsOf th, aF en, valsOf sd, aq, sq⟩ ∧ kP ⟨cellsOf ca, valsOf sh, strsOf tx, threadsOf th, aF en, valsOf sd, aq, sq⟩) ∧ K (Iv (cW ⟨cellsOf ca, valsOf sh, strsOf tx, threadsOf th, aF en, valsOf sd, aq, sq⟩))
 | _ => False
noncomputable abbrev oY : Ct Cx := .pure 78 kV fun args K h => by
 unfold kV at h; split at h; exact ⟨_, aA (Ie _ _ _ _ _ _ _ _ h.1) en78 rfl rfl, h.2⟩; exact h.elim
@[go_sem] theorem Tg : type_of% @kV.eq_def := @kV.eq_def
end Go.Proofs.YtbhnmolmkembdaaGreatDoor
namespace Go.Proofs.YtbhnmolmkembdaaGreatDoor
set_option linter.unusedVariables false
set_option linter.unusedSimpArgs false
set_option maxHeartbeats 10000000
open Go Go.ChangeShapes Go.WideShapes Go.ChangeAt Go.RowKit
theorem aWt : Tryz.prog.bytesOf 50 = 16 := by kernel_rfl
theorem Vb {row : List RV} (h : Ro Tryz.prog 61 row) : ∃ f : aR, row = bA f ∧ Gwf f ∧ f.regs.length ≤ 8796093021952 := by
 obtain ⟨f, rfl, hf⟩ := Ip h
 refine ⟨f, rfl, hf, ?_⟩
 obtain ⟨rows, hr, h1, h2⟩ := dV h Tryz.underlying61
 match rows, h1 with
 | [a, b, c, d, e, u, v], _ =>
  obtain ⟨x1, rfl, _⟩ := cS (h2 0 _ a rfl rfl) Tryz.underlying3
  obtain ⟨x2, rfl, _⟩ := cS (h2 1 _ b rfl rfl) Tryz.underlying3
  obtain ⟨x3, rfl, _⟩ := cS (h2 2 _ c rfl rfl) Tryz.underlying3
  obtain ⟨x4, rfl, q4⟩ := cS (h2 3 _ d rfl rfl) Tryz.underlying3
  obtain ⟨x5, rfl, _⟩ := nV (h2 4 _ e rfl rfl)
  have h6 := h2 5 _ u rfl rfl
  obtain ⟨x6, rfl, m6, _⟩ := jC valR (fun v => WI v.2) h6 Tryz.underlying23 Jp fun r hr => nV hr
  have h7 := Ud h6 Tryz.underlying23
  rw [aWt, List.length_map] at h7
  have e : f.regs.map valR = x6.map valR := by
   have h8 := congrArg (fun l => l[6]?) hr
   simpa [bA, valR] using h8
  have e2 := congrArg List.length e
  rw [List.length_map, List.length_map] at e2
  have : reachBytes = 140737488351232 := rfl
  omega
theorem Wl {row : List RV} (h : Ro Tryz.prog 48 row) : ∃ c : bM, row = aX c ∧ Cwf c ∧ Ei c := by
 obtain ⟨rows, rfl, h1, h2⟩ := dV h Tryz.underlying48
 match rows, h1 with
 | [a, b, u, v], _ =>
  obtain ⟨x1, rfl, _⟩ := cS (h2 0 _ a rfl rfl) Tryz.underlying3
  obtain ⟨x2, rfl, _⟩ := cS (h2 1 _ b rfl rfl) Tryz.underlying3
  obtain ⟨x3, rfl, m3, q3⟩ := jC valR (fun v => WI v.2) (h2 2 _ u rfl rfl) Tryz.underlying23 Jp fun r hr => nV hr
  obtain ⟨x4, rfl, m4, q4⟩ := jC bA (fun f => Gwf f ∧ f.regs.length ≤ 8796093021952) (h2 3 _ v rfl rfl) Tryz.underlying46 Ri fun r hr => Vb hr
  exact ⟨⟨x1, x2, x3, x4⟩, rfl, ⟨m3, q3, m4, fun f hf => (q4 f hf).1⟩, fun f hf => (q4 f hf).2⟩
theorem Uk {row : List RV} (h : Ro Tryz.prog 32 row) : ∃ s : aC, row = cJ s ∧ Swf s ∧ kP s := by
 obtain ⟨rows, rfl, h1, h2⟩ := dV h Tryz.underlying32
 match rows, h1 with
 | [a, b, c, d, e, u, v, w], _ =>
  obtain ⟨x1, rfl, m1, q1⟩ := jC aX (fun c => Cwf c ∧ Ei c) (h2 0 _ a rfl rfl) Tryz.underlying27 aK1 fun r hr => Wl hr
  obtain ⟨x2, rfl, m2, q2⟩ := jC valR Sh.WfS (h2 1 _ b rfl rfl) Tryz.underlying28 aF3 fun r hr => Up hr
  obtain ⟨x3, rfl, m3, _⟩ := jC strR (fun _ => True) (h2 2 _ c rfl rfl) Tryz.underlying24 aH4 fun r hr => by
   obtain ⟨s, hs, _⟩ := aBb hr Tryz.underlying9
   exact ⟨s, hs, trivial⟩
  obtain ⟨x4, rfl, m4, q4⟩ := jC aJ (fun t => t.frames.length ≤ 9223372036854775807 ∧ ∀ f ∈ t.frames, Gwf f) (h2 3 _ d rfl rfl) Tryz.underlying29 Zs fun r hr => Ut hr
  obtain ⟨x5, rfl, m5, _⟩ := jC endR (fun _ => True) (h2 4 _ e rfl rfl) Tryz.underlying30 aUo fun r hr => aJo hr
  obtain ⟨x6, rfl, m6, _⟩ := jC valR (fun v => WI v.2) (h2 5 _ u rfl rfl) Tryz.underlying23 Jp fun r hr => nV hr
  obtain ⟨x7, rfl, _⟩ := cS (h2 6 _ v rfl rfl) Tryz.underlying3
  obtain ⟨x8, rfl, _⟩ := cS (h2 7 _ w rfl rfl) Tryz.underlying3
  exact ⟨⟨x1, x2, x3, x4, x5, x6, x7, x8⟩, rfl, ⟨⟨m1, m2, m3, m4, m5, m6⟩, q2, fun c hc => (q1 c hc).1, q4⟩, fun c hc => (q1 c hc).2⟩
end Go.Proofs.YtbhnmolmkembdaaGreatDoor
namespace Go.Proofs.YtbhnmolmkembdaaGreatDoor
set_option linter.unusedVariables false
set_option linter.unusedSimpArgs false
set_option maxHeartbeats 10000000
open Go
set_option maxRecDepth 10000
def aDr (args : List AV) (K : AV → Prop) : Prop := match args with
 | [.agg [.r (.rs 4 ca), .r (.rs 2 sh), .r (.rs 1 tx), .r (.rs 5 th), .r (.rs 3 en), .r (.rs 2 sd), .r (.v (.int .i64 aq)), .r (.v (.int .i64 sq))], .agg [.r (.rs 4 ca'), .r (.rs 2 sh'), .r (.rs 1 tx'), .r (.rs 5 th'), .r (.rs 3 en'), .r (.rs 2 sd'), .r (.v (.int .i64 aq')), .r (.v (.int .i64 sq'))]] => (((ca = (cellsOf ca).map aX ∧ sh = (valsOf sh).map valR ∧ tx = (strsOf tx).map strR ∧ th = (threadsOf th).map aJ ∧ en = (aF en).map endR ∧ sd = (valsOf sd).map valR) ∧ (ca' = (cellsOf ca').map aX ∧ sh' = (valsOf sh').map valR ∧ tx' = (strsOf tx').map strR ∧ th' = (threadsOf th').map aJ ∧ en' = (aF en').map endR ∧ sd' = (valsOf sd').map valR)) ∧ Swf ⟨cellsOf ca, valsOf sh, strsOf tx, threadsOf th, aF en, valsOf sd, aq, sq⟩ ∧ Swf ⟨cellsOf ca', valsOf sh', strsOf tx', threadsOf th', aF en', valsOf sd', aq', sq'⟩) ∧ K (Bv (decide (⟨cellsOf ca, valsOf sh, strsOf tx, threadsOf th, aF en, valsOf sd, aq, sq⟩ = (⟨cellsOf ca', valsOf sh', strsOf tx', threadsOf th', aF en', valsOf sd', aq', sq'⟩ : aC))))
 | _ => False
attribute [go_sem] aDr
@[go_sem] theorem aA1 (k1 k2 k3 k4 : IntKind) (sz : Nat) (fs : List (List RV)) (a b c d : Int) (xs : List (List RV)) : threadsOf ([.rs sz fs, .v (.int k1 a), .v (.int k2 b), .v (.int k3 c), .v (.int k4 d)] :: xs) = ⟨framesOf fs, a, b, (c, d)⟩ :: threadsOf xs := rfl
@[go_sem] theorem aDf : threadsOf [] = [] := rfl
@[go_sem] theorem aCb (k1 k2 k3 k4 k5 k6 : IntKind) (s1 s2 : Nat) (us vs : List (List RV)) (a b c d e f : Int) (xs : List (List RV)) : framesOf ([.v (.int k1 a), .v (.int k2 b), .v (.int k3 c), .v (.int k4 d), .v (.int k5 e), .v (.int k6 f), .rs s1 us, .rs s2 vs] :: xs) = ⟨a, b, c, d, (e, f), valsOf us, triesOf vs⟩ :: framesOf xs := rfl
@[go_sem] theorem aHj : framesOf [] = [] := rfl
@[go_sem] theorem aKi : valsOf [] = [] := rfl
@[go_sem] theorem aJd : triesOf [] = [] := rfl
@[go_sem] theorem aIr (k : IntKind) (n : Int) (xs : List (List RV)) : aI ([.v (.int k n)] :: xs) = n :: aI xs := rfl
@[go_sem] theorem aKj : aI [] = [] := rfl
def elB : AV → RV → Prop
 | .r z, y => z = y
 | .nd _ s rs, y => y = .rs s (ndRs rs)
 | _, _ => False
def vI : List AV → List RV → Prop
 | [], [] => True
 | x :: l, y :: m => elB x y ∧ vI l m
 | _, _ => False
def qV : List (List AV) → List (List RV) → Prop
 | [], [] => True
 | x :: l, y :: m => vI x y ∧ qV l m
 | _, _ => False
theorem Dz : ∀ {l : List AV} {m : List RV}, vI l m → m.length = l.length
 | [], [], _ => rfl
 | _ :: _, _ :: _, h => by simp [Dz h.2]
 | [], _ :: _, h => h.elim
 | _ :: _, [], h => h.elim
theorem Ik : ∀ {l : List AV} {m : List RV} {j : Nat} {x : AV} {y : RV}, vI l m → l[j]? = some x → m[j]? = some y → elB x y
 | x' :: l, y' :: m, 0, x, y, h, hx, hy => by simp at hx hy; subst hx; subst hy; exact h.1
 | x' :: l, y' :: m, j + 1, x, y, h, hx, hy => Ik h.2 (by simpa using hx) (by simpa using hy)
 | [], _, _, _, _, _, hx, _ => by simp at hx
 | _ :: _, [], _, _, _, _, _, hy => by simp at hy
theorem Bd : ∀ {l : List (List AV)} {m : List (List RV)}, qV l m → m.length = l.length
 | [], [], _ => rfl
 | _ :: _, _ :: _, h => by simp [Bd h.2]
 | [], _ :: _, h => h.elim
 | _ :: _, [], h => h.elim
theorem xQ : ∀ {l : List (List AV)} {m : List (List RV)} {j : Nat} {x : List AV} {y : List RV}, qV l m → l[j]? = some x → m[j]? = some y → vI x y
 | x' :: l, y' :: m, 0, x, y, h, hx, hy => by simp at hx hy; subst hx; subst hy; exact h.1
 | x' :: l, y' :: m, j + 1, x, y, h, hx, hy => xQ h.2 (by simpa using hx) (by simpa using hy)
 | [], _, _, _, _, _, hx, _ => by simp at hx
 | _ :: _, [], _, _, _, _, _, hy => by simp at hy
theorem jF {α : Type} {f : α → List AV} {g : α → List RV} (h : ∀ x, vI (f x) (g x)) : ∀ {l : List α}, qV (l.map f) (l.map g)
 | [] => trivial
 | x :: _ => ⟨h x, jF h⟩
theorem Bz : ∀ {l : List (List AV)} {m : List (List RV)} {i : Nat} {x : List AV} {y : List RV}, qV l m → vI x y → qV (l.set i x) (m.set i y)
 | [], [], _, _, _, h, _ => h
 | _ :: _, _ :: _, 0, _, _, h, hx => ⟨hx, h.2⟩
 | _ :: _, _ :: _, i + 1, _, _, h, hx => ⟨h.1, Bz h.2 hx⟩
 | [], _ :: _, _, _, _, h, _ => h.elim
 | _ :: _, [], _, _, _, h, _ => h.elim
theorem aG5 {ls : List Loc} {st : St} {x : AV} {y : RV} (h : elB x y) : Bor ls st x (.r y) := by
 unfold elB at h
 split at h
 ·subst h; exact .same _ rfl
 ·subst h; exact .nd _ _ _
 ·exact h.elim
theorem aAf {st : St} {k ver e sz : Nat} {rows : List (List AV)} {rowsR : List (List RV)} (hk : aB k st.rs = (ver, .sl e sz rows)) (h : qV rows rowsR) : Bor [.R k] st (.os k ver) (.r (.rs sz rowsR)) :=
 .sl k ver e sz rows rowsR (by simp) hk (Bd h) (fun i row rowR h1 h2 => Dz (xQ h h1 h2)) fun i j row rowR x y h1 h2 h3 h4 => aG5 (Ik (xQ h h1 h2) h3 h4)
section
variable {C : Ctx} {T : List (Ct C)} {r : List It} {st st' : St} {K : Exit → St → Prop}
theorem tI (k : Nat) {ver e sz : Nat} {rows : List (List AV)} (rowsR : List (List RV)) (hk : aB k st.rs = (ver, .sl e sz rows)) (h : qV rows rowsR) (hr : hasC r = true) (hst : ∀ K0 : St → Prop, Imp (K0 st') (K0 (gU k ver (.rs sz rowsR) st))) (hk2 : Rn C T r st' K) : Rn C T r st K := by
 have hk' := (hst fun s => Rn C T r s K).run hk2
 exact tU hr (fun e a w ⟨ho, g, hs⟩ => ⟨ho, g, hs.frz hk (by simp) (aAf hk h)⟩) hk'
end
abbrev cellC (c : bM) : List AV := [Iv c.kind, Iv c.num, aS c.vals, bL c.frames]
abbrev threadC (t : aP) : List AV := [bL t.frames, Iv t.state, Iv t.on, Iv t.val.1, Iv t.val.2]
abbrev frameC (f : aR) : List AV := [Iv f.fn, Iv f.pc, Iv f.tov, Iv f.gen, Iv f.self.1, Iv f.self.2, aS f.regs, dK f.tries]
abbrev endC (e : EndT) : List AV := [Iv e.cell, Iv e.fn.1, Iv e.fn.2]
theorem Eg (l : List bM) : ∀ row ∈ l.map cellC, aW bO row = true := fun row h => by
 obtain ⟨x, _, rfl⟩ := List.mem_map.1 h; rfl
@[go_sem] theorem aD0 : ∀ l : List bM, mY (l.map cellC) = true
 | [] => rfl
 | x :: l => aD0 l
@[go_sem] theorem aYb (l : List bM) : ((l.map aX).map fun r => r.map AV.r) = l.map cellC := by rw [List.map_map]; rfl
theorem yW (xs : List (List RV)) : ∀ row ∈ (cellsOf xs).map cellC, aW bO row = true := Eg _
theorem Hr (xs : List (List RV)) (h : xs = (cellsOf xs).map aX ∧ xs.length ≤ 1000000000) : FC Cx 21 [.r (.rs 4 xs)] [] (.os 0 1) [(0, 1, .sl 48 4 ((cellsOf xs).map cellC))] := by
 have hl : (cellsOf xs).length = xs.length := by simp [cellsOf]
 have hlenS : ∀ l : List bM, (l.map cellC).length = l.length := fun l => List.length_map ..
 obtain ⟨h1, h2⟩ := h
 generalize cellsOf xs = l at h1 hl
 subst h1
 rw [← hl] at h2
 refine iG [] (i := 0) [.os 0 1] Tryz.func21 rfl Tryz.ntmps21 (by simp) Tryz.results21 (Eg _) ?_
 refine rnst ?_
 iterate 8 (any_goals (first | (focus (intro K0; (try simp only [go_sem, *]); (first | exact ⟨id⟩ | (refine ⟨fun h => ?_⟩; (repeat' (first | exact h | refine And.intro ?_ ?_ | omega | rfl)); done)))) | (refine jX ?_) | (refine iB ?_) | (apply eJ lv21; (exact rfl)) | (refine eQ ?_) | (apply mU; (exact rfl)) | (refine gT ?_) | ((first | apply Rn_g | apply Rd_g); (exact rfl); (exact rfl); (focus (intro K0; (try simp only [bB, ev, Nat.reduceEqDiff, ↓reduceIte]); exact ⟨id⟩))) | (with_reducible (first | apply kB | apply jZ)) | ((with_reducible (first | apply iC | apply iF | apply lR | apply gV | apply gZ | apply lO)); (exact rfl)) | ((first | apply fU | apply fK); (focus (intro K0; (try simp only [go_sem]); exact ⟨id⟩)); (exact rfl)) | ((first | apply gY | apply gW); (exact rfl); (focus (intro K0; (try simp only [go_sem]); exact ⟨id⟩)); (focus (first | (simp only [Nat.reduceLT]; done) | omega)); (focus (intro hw0; (try simp only [Bool.and_eq_true, Bool.not_eq_true', dU, dD] at hw0); (focus (intro K0; (try simp only [go_sem, *]); (first | exact ⟨id⟩ | (refine ⟨fun h => ?_⟩; (repeat' (first | exact h | refine And.intro ?_ ?_ | omega | rfl)); done))))))) | (apply Rn_c; (focus (intro K0; (try simp only [bB, ev, Nat.reduceEqDiff, ↓reduceIte]); exact ⟨id⟩))) | (with_reducible (first | refine rR ?_ | refine sF ?_)) | (refine jW ?_) | (refine kF rfl ?_) | (refine Rn_b ?_) | (apply gP lv21; (exact rfl)) | (refine kA ?_) | (apply nP; (exact rfl)) | (refine nM (by kernel_rfl) ?_) | ((with_reducible (first | refine fQ (fun h => ?_) (fun h => ?_) | refine fR (fun h => ?_) (fun h => ?_) | refine fF (fun h => ?_) (fun h => ?_))) <;> (have h' := h) <;> (try simp only [decide_eq_true_eq, decide_eq_false_iff_not, Bool.not_eq_true', Bool.not_eq_false', Bool.and_eq_true, Bool.or_eq_true, Bool.or_eq_false_iff, beq_iff_eq, bne_iff_ne, ne_eq, Bool.not_true, Bool.not_false, not_false_eq_true, reduceCtorEq, beq_eq_false_iff_ne, bne_eq_false_iff_eq] at h') <;> (first | apply pL | apply rT)) | (refine fT rfl rfl ?_) | (first | refine fO ?_ | refine lN ?_ | refine dI ?_) | (refine eE (T := []) ?_) | (refine mZ ?_)))
 ·intro K0; (try simp only [go_sem]); exact ⟨id⟩
 refine lL (sz := 4) rfl (.inl rfl) rfl rfl (Nat.le_of_ble_eq_true rfl) rfl rfl (by kernel_rfl) (fun q hq => ?_)
 apply oB
 ·intro K0; (try simp only [go_sem]); exact ⟨id⟩
 cases q with
 | true =>
  have h0 : l = [] := by have := hq rfl; simpa using this
  subst h0
  (any_goals refine go lv21 0 ?_)
  all_goals (try simp only [go_sem])
 | false =>
  clear hq
  (any_goals refine go lv21 0 ?_)
  all_goals (try simp only [go_sem])
def gK (st : St) (d : Nat) (args : List AV) (K : AV → List Loc → List (Loc × Cont) → Prop) : Prop := match args with
 | [.r (.rs 4 xs)] => (xs = (cellsOf xs).map aX ∧ xs.length ≤ 1000000000) ∧ K (ren (fun _ => d) (fun _ => st.cur d) (.os 0 1)) [.R d] [(.R d, .s (1 + st.cur d) (.sl 48 4 ((cellsOf xs).map cellC)))]
 | _ => False
theorem xV (st : St) (d : Nat) (args : List AV) (K : AV → List Loc → List (Loc × Cont) → Prop) (h : gK st d args K) : ∃ r ls outs, dC Cx 21 st args r ls outs ∧ K r ls outs := by
 unfold gK at h
 split at h
 ·exact ⟨_, _, _, dC.own (Hr _ h.1) rfl (yW _) rfl d, h.2⟩
 ·exact h.elim
noncomputable def oV : Ct Cx := .res 21 gK en21 xV
@[go_sem] theorem Vm : oV.g = 21 := rfl
@[go_sem] theorem Pm (c : Call) (fop : Operand) (caps : List AV) (o : Oper) (st : St) (K : List Loc → List (Loc × Cont) → Prop) : oV.run c fop caps o st K = kH gK c fop caps o st K := rfl
@[go_sem] theorem Tl : type_of% @gK.eq_def := @gK.eq_def
theorem yB (l : List aP) : ∀ row ∈ l.map threadC, aW bO row = true := fun row h => by
 obtain ⟨x, _, rfl⟩ := List.mem_map.1 h; rfl
@[go_sem] theorem Uv : ∀ l : List aP, mY (l.map threadC) = true
 | [] => rfl
 | x :: l => Uv l
@[go_sem] theorem aNw (l : List aP) : ((l.map aJ).map fun r => r.map AV.r) = l.map threadC := by rw [List.map_map]; rfl
theorem vF (xs : List (List RV)) : ∀ row ∈ (threadsOf xs).map threadC, aW bO row = true := yB _
theorem Bo (xs : List (List RV)) (h : xs = (threadsOf xs).map aJ ∧ xs.length ≤ 1000000000) : FC Cx 25 [.r (.rs 5 xs)] [] (.os 0 1) [(0, 1, .sl 56 5 ((threadsOf xs).map threadC))] := by
 have hl : (threadsOf xs).length = xs.length := by simp [threadsOf]
 have hlenS : ∀ l : List aP, (l.map threadC).length = l.length := fun l => List.length_map ..
 obtain ⟨h1, h2⟩ := h
 generalize threadsOf xs = l at h1 hl
 subst h1
 rw [← hl] at h2
 refine iG [] (i := 0) [.os 0 1] Tryz.func25 rfl Tryz.ntmps25 (by simp) Tryz.results25 (yB _) ?_
 refine rnst ?_
 iterate 8 (any_goals (first | (focus (intro K0; (try simp only [go_sem, *]); (first | exact ⟨id⟩ | (refine ⟨fun h => ?_⟩; (repeat' (first | exact h | refine And.intro ?_ ?_ | omega | rfl)); done)))) | (refine jX ?_) | (refine iB ?_) | (apply eJ lv25; (exact rfl)) | (refine eQ ?_) | (apply mU; (exact rfl)) | (refine gT ?_) | ((first | apply Rn_g | apply Rd_g); (exact rfl); (exact rfl); (focus (intro K0; (try simp only [bB, ev, Nat.reduceEqDiff, ↓reduceIte]); exact ⟨id⟩))) | (with_reducible (first | apply kB | apply jZ)) | ((with_reducible (first | apply iC | apply iF | apply lR | apply gV | apply gZ | apply lO)); (exact rfl)) | ((first | apply fU | apply fK); (focus (intro K0; (try simp only [go_sem]); exact ⟨id⟩)); (exact rfl)) | ((first | apply gY | apply gW); (exact rfl); (focus (intro K0; (try simp only [go_sem]); exact ⟨id⟩)); (focus (first | (simp only [Nat.reduceLT]; done) | omega)); (focus (intro hw0; (try simp only [Bool.and_eq_true, Bool.not_eq_true', dU, dD] at hw0); (focus (intro K0; (try simp only [go_sem, *]); (first | exact ⟨id⟩ | (refine ⟨fun h => ?_⟩; (repeat' (first | exact h | refine And.intro ?_ ?_ | omega | rfl)); done))))))) | (apply Rn_c; (focus (intro K0; (try simp only [bB, ev, Nat.reduceEqDiff, ↓reduceIte]); exact ⟨id⟩))) | (with_reducible (first | refine rR ?_ | refine sF ?_)) | (refine jW ?_) | (refine kF rfl ?_) | (refine Rn_b ?_) | (apply gP lv25; (exact rfl)) | (refine kA ?_) | (apply nP; (exact rfl)) | (refine nM (by kernel_rfl) ?_) | ((with_reducible (first | refine fQ (fun h => ?_) (fun h => ?_) | refine fR (fun h => ?_) (fun h => ?_) | refine fF (fun h => ?_) (fun h => ?_))) <;> (have h' := h) <;> (try simp only [decide_eq_true_eq, decide_eq_false_iff_not, Bool.not_eq_true', Bool.not_eq_false', Bool.and_eq_true, Bool.or_eq_true, Bool.or_eq_false_iff, beq_iff_eq, bne_iff_ne, ne_eq, Bool.not_true, Bool.not_false, not_false_eq_true, reduceCtorEq, beq_eq_false_iff_ne, bne_eq_false_iff_eq] at h') <;> (first | apply pL | apply rT)) | (refine fT rfl rfl ?_) | (first | refine fO ?_ | refine lN ?_ | refine dI ?_) | (refine eE (T := []) ?_) | (refine mZ ?_)))
 ·intro K0; (try simp only [go_sem]); exact ⟨id⟩
 refine lL (sz := 5) rfl (.inl rfl) rfl rfl (Nat.le_of_ble_eq_true rfl) rfl rfl (by kernel_rfl) (fun q hq => ?_)
 apply oB
 ·intro K0; (try simp only [go_sem]); exact ⟨id⟩
 cases q with
 | true =>
  have h0 : l = [] := by have := hq rfl; simpa using this
  subst h0
  (any_goals refine go lv25 0 ?_)
  all_goals (try simp only [go_sem])
 | false =>
  clear hq
  (any_goals refine go lv25 0 ?_)
  all_goals (try simp only [go_sem])
def eP (st : St) (d : Nat) (args : List AV) (K : AV → List Loc → List (Loc × Cont) → Prop) : Prop := match args with
 | [.r (.rs 5 xs)] => (xs = (threadsOf xs).map aJ ∧ xs.length ≤ 1000000000) ∧ K (ren (fun _ => d) (fun _ => st.cur d) (.os 0 1)) [.R d] [(.R d, .s (1 + st.cur d) (.sl 56 5 ((threadsOf xs).map threadC)))]
 | _ => False
theorem uL (st : St) (d : Nat) (args : List AV) (K : AV → List Loc → List (Loc × Cont) → Prop) (h : eP st d args K) : ∃ r ls outs, dC Cx 25 st args r ls outs ∧ K r ls outs := by
 unfold eP at h
 split at h
 ·exact ⟨_, _, _, dC.own (Bo _ h.1) rfl (vF _) rfl d, h.2⟩
 ·exact h.elim
noncomputable def lQ : Ct Cx := .res 25 eP en25 uL
@[go_sem] theorem Sl : lQ.g = 25 := rfl
@[go_sem] theorem Ml (c : Call) (fop : Operand) (caps : List AV) (o : Oper) (st : St) (K : List Loc → List (Loc × Cont) → Prop) : lQ.run c fop caps o st K = kH eP c fop caps o st K := rfl
@[go_sem] theorem Ns : type_of% @eP.eq_def := @eP.eq_def
theorem Cr (l : List aR) : ∀ row ∈ l.map frameC, aW bO row = true := fun row h => by
 obtain ⟨x, _, rfl⟩ := List.mem_map.1 h; rfl
@[go_sem] theorem aAi : ∀ l : List aR, mY (l.map frameC) = true
 | [] => rfl
 | x :: l => aAi l
@[go_sem] theorem aW8 (l : List aR) : ((l.map bA).map fun r => r.map AV.r) = l.map frameC := by rw [List.map_map]; rfl
theorem xS (xs : List (List RV)) : ∀ row ∈ (framesOf xs).map frameC, aW bO row = true := Cr _
theorem Cy (xs : List (List RV)) (h : xs = (framesOf xs).map bA ∧ xs.length ≤ 1000000000) : FC Cx 26 [.r (.rs 8 xs)] [] (.os 0 1) [(0, 1, .sl 61 8 ((framesOf xs).map frameC))] := by
 have hl : (framesOf xs).length = xs.length := by simp [framesOf]
 have hlenS : ∀ l : List aR, (l.map frameC).length = l.length := fun l => List.length_map ..
 obtain ⟨h1, h2⟩ := h
 generalize framesOf xs = l at h1 hl
 subst h1
 rw [← hl] at h2
 refine iG [] (i := 0) [.os 0 1] Tryz.func26 rfl Tryz.ntmps26 (by simp) Tryz.results26 (Cr _) ?_
 refine rnst ?_
 iterate 8 (any_goals (first | (focus (intro K0; (try simp only [go_sem, *]); (first | exact ⟨id⟩ | (refine ⟨fun h => ?_⟩; (repeat' (first | exact h | refine And.intro ?_ ?_ | omega | rfl)); done)))) | (refine jX ?_) | (refine iB ?_) | (apply eJ lv26; (exact rfl)) | (refine eQ ?_) | (apply mU; (exact rfl)) | (refine gT ?_) | ((first | apply Rn_g | apply Rd_g); (exact rfl); (exact rfl); (focus (intro K0; (try simp only [bB, ev, Nat.reduceEqDiff, ↓reduceIte]); exact ⟨id⟩))) | (with_reducible (first | apply kB | apply jZ)) | ((with_reducible (first | apply iC | apply iF | apply lR | apply gV | apply gZ | apply lO)); (exact rfl)) | ((first | apply fU | apply fK); (focus (intro K0; (try simp only [go_sem]); exact ⟨id⟩)); (exact rfl)) | ((first | apply gY | apply gW); (exact rfl); (focus (intro K0; (try simp only [go_sem]); exact ⟨id⟩)); (focus (first | (simp only [Nat.reduceLT]; done) | omega)); (focus (intro hw0; (try simp only [Bool.and_eq_true, Bool.not_eq_true', dU, dD] at hw0); (focus (intro K0; (try simp only [go_sem, *]); (first | exact ⟨id⟩ | (refine ⟨fun h => ?_⟩; (repeat' (first | exact h | refine And.intro ?_ ?_ | omega | rfl)); done))))))) | (apply Rn_c; (focus (intro K0; (try simp only [bB, ev, Nat.reduceEqDiff, ↓reduceIte]); exact ⟨id⟩))) | (with_reducible (first | refine rR ?_ | refine sF ?_)) | (refine jW ?_) | (refine kF rfl ?_) | (refine Rn_b ?_) | (apply gP lv26; (exact rfl)) | (refine kA ?_) | (apply nP; (exact rfl)) | (refine nM (by kernel_rfl) ?_) | ((with_reducible (first | refine fQ (fun h => ?_) (fun h => ?_) | refine fR (fun h => ?_) (fun h => ?_) | refine fF (fun h => ?_) (fun h => ?_))) <;> (have h' := h) <;> (try simp only [decide_eq_true_eq, decide_eq_false_iff_not, Bool.not_eq_true', Bool.not_eq_false', Bool.and_eq_true, Bool.or_eq_true, Bool.or_eq_false_iff, beq_iff_eq, bne_iff_ne, ne_eq, Bool.not_true, Bool.not_false, not_false_eq_true, reduceCtorEq, beq_eq_false_iff_ne, bne_eq_false_iff_eq] at h') <;> (first | apply pL | apply rT)) | (refine fT rfl rfl ?_) | (first | refine fO ?_ | refine lN ?_ | refine dI ?_) | (refine eE (T := []) ?_) | (refine mZ ?_)))
 ·intro K0; (try simp only [go_sem]); exact ⟨id⟩
 refine lL (sz := 8) rfl (.inl rfl) rfl rfl (Nat.le_of_ble_eq_true rfl) rfl rfl (by kernel_rfl) (fun q hq => ?_)
 apply oB
 ·intro K0; (try simp only [go_sem]); exact ⟨id⟩
 cases q with
 | true =>
  have h0 : l = [] := by have := hq rfl; simpa using this
  subst h0
  (any_goals refine go lv26 0 ?_)
  all_goals (try simp only [go_sem])
 | false =>
  clear hq
  (any_goals refine go lv26 0 ?_)
  all_goals (try simp only [go_sem])
def fH (st : St) (d : Nat) (args : List AV) (K : AV → List Loc → List (Loc × Cont) → Prop) : Prop := match args with
 | [.r (.rs 8 xs)] => (xs = (framesOf xs).map bA ∧ xs.length ≤ 1000000000) ∧ K (ren (fun _ => d) (fun _ => st.cur d) (.os 0 1)) [.R d] [(.R d, .s (1 + st.cur d) (.sl 61 8 ((framesOf xs).map frameC)))]
 | _ => False
theorem wG (st : St) (d : Nat) (args : List AV) (K : AV → List Loc → List (Loc × Cont) → Prop) (h : fH st d args K) : ∃ r ls outs, dC Cx 26 st args r ls outs ∧ K r ls outs := by
 unfold fH at h
 split at h
 ·exact ⟨_, _, _, dC.own (Cy _ h.1) rfl (xS _) rfl d, h.2⟩
 ·exact h.elim
noncomputable def nA : Ct Cx := .res 26 fH en26 wG
@[go_sem] theorem Ty : nA.g = 26 := rfl
@[go_sem] theorem Mp (c : Call) (fop : Operand) (caps : List AV) (o : Oper) (st : St) (K : List Loc → List (Loc × Cont) → Prop) : nA.run c fop caps o st K = kH fH c fop caps o st K := rfl
@[go_sem] theorem Pv : type_of% @fH.eq_def := @fH.eq_def
theorem Pf (l : List (Int × Int)) : ∀ row ∈ l.map valC, aW bO row = true := fun row h => by
 obtain ⟨x, _, rfl⟩ := List.mem_map.1 h; rfl
@[go_sem] theorem Ww (l : List (Int × Int)) : ((l.map valR).map fun r => r.map AV.r) = l.map valC := by rw [List.map_map]; rfl
theorem Dk (xs : List (List RV)) (h : xs = (valsOf xs).map valR ∧ xs.length ≤ 1000000000) : FC Cx 139 [.r (.rs 2 xs)] [] (.os 0 1) [(0, 1, .sl 97 2 ((valsOf xs).map valC))] := by
 have hl : (valsOf xs).length = xs.length := by simp [valsOf]
 have hlenS : ∀ l : List (Int × Int), (l.map valC).length = l.length := fun l => List.length_map ..
 obtain ⟨h1, h2⟩ := h
 generalize valsOf xs = l at h1 hl
 subst h1
 rw [← hl] at h2
 refine iG [] (i := 0) [.os 0 1] Tryz.func139 rfl Tryz.ntmps139 (by simp) Tryz.results139 (Pf _) ?_
 refine rnst ?_
 iterate 8 (any_goals (first | (focus (intro K0; (try simp only [go_sem, *]); (first | exact ⟨id⟩ | (refine ⟨fun h => ?_⟩; (repeat' (first | exact h | refine And.intro ?_ ?_ | omega | rfl)); done)))) | (refine jX ?_) | (refine iB ?_) | (apply eJ Qx; (exact rfl)) | (refine eQ ?_) | (apply mU; (exact rfl)) | (refine gT ?_) | ((first | apply Rn_g | apply Rd_g); (exact rfl); (exact rfl); (focus (intro K0; (try simp only [bB, ev, Nat.reduceEqDiff, ↓reduceIte]); exact ⟨id⟩))) | (with_reducible (first | apply kB | apply jZ)) | ((with_reducible (first | apply iC | apply iF | apply lR | apply gV | apply gZ | apply lO)); (exact rfl)) | ((first | apply fU | apply fK); (focus (intro K0; (try simp only [go_sem]); exact ⟨id⟩)); (exact rfl)) | ((first | apply gY | apply gW); (exact rfl); (focus (intro K0; (try simp only [go_sem]); exact ⟨id⟩)); (focus (first | (simp only [Nat.reduceLT]; done) | omega)); (focus (intro hw0; (try simp only [Bool.and_eq_true, Bool.not_eq_true', dU, dD] at hw0); (focus (intro K0; (try simp only [go_sem, *]); (first | exact ⟨id⟩ | (refine ⟨fun h => ?_⟩; (repeat' (first | exact h | refine And.intro ?_ ?_ | omega | rfl)); done))))))) | (apply Rn_c; (focus (intro K0; (try simp only [bB, ev, Nat.reduceEqDiff, ↓reduceIte]); exact ⟨id⟩))) | (with_reducible (first | refine rR ?_ | refine sF ?_)) | (refine jW ?_) | (refine kF rfl ?_) | (refine Rn_b ?_) | (apply gP Qx; (exact rfl)) | (refine kA ?_) | (apply nP; (exact rfl)) | (refine nM (by kernel_rfl) ?_) | ((with_reducible (first | refine fQ (fun h => ?_) (fun h => ?_) | refine fR (fun h => ?_) (fun h => ?_) | refine fF (fun h => ?_) (fun h => ?_))) <;> (have h' := h) <;> (try simp only [decide_eq_true_eq, decide_eq_false_iff_not, Bool.not_eq_true', Bool.not_eq_false', Bool.and_eq_true, Bool.or_eq_true, Bool.or_eq_false_iff, beq_iff_eq, bne_iff_ne, ne_eq, Bool.not_true, Bool.not_false, not_false_eq_true, reduceCtorEq, beq_eq_false_iff_ne, bne_eq_false_iff_eq] at h') <;> (first | apply pL | apply rT)) | (refine fT rfl rfl ?_) | (first | refine fO ?_ | refine lN ?_ | refine dI ?_) | (refine eE (T := []) ?_) | (refine mZ ?_)))
 ·intro K0; (try simp only [go_sem]); exact ⟨id⟩
 refine lL (sz := 2) rfl (.inl rfl) rfl rfl (Nat.le_of_ble_eq_true rfl) rfl rfl (by kernel_rfl) (fun q hq => ?_)
 apply oB
 ·intro K0; (try simp only [go_sem]); exact ⟨id⟩
 cases q with
 | true =>
  have h0 : l = [] := by have := hq rfl; simpa using this
  subst h0
  (any_goals refine go Qx 0 ?_)
  all_goals (try simp only [go_sem])
 | false =>
  clear hq
  (any_goals refine go Qx 0 ?_)
  all_goals (try simp only [go_sem])
theorem Gu (xs : List (List RV)) (h : xs = (valsOf xs).map valR ∧ xs.length ≤ 1000000000) : FC Cx 139 [.r (.rs 2 xs)] [] (aS (valsOf xs)) [] := (Dk xs h).freeze1 (Ww _).symm
def kX (args : List AV) (K : AV → Prop) : Prop := match args with
 | [.r (.rs 2 xs)] => (xs = (valsOf xs).map valR ∧ xs.length ≤ 1000000000) ∧ K (aS (valsOf xs))
 | _ => False
noncomputable abbrev Dm : Ct Cx := .pure 139 kX fun args K h => by
 unfold kX at h; split at h; exact ⟨_, aA (Gu _ h.1) aTw rfl rfl, h.2⟩; exact h.elim
@[go_sem] theorem Uu : type_of% @kX.eq_def := @kX.eq_def
theorem Xl (l : List EndT) : ∀ row ∈ l.map endC, aW bO row = true := fun row h => by
 obtain ⟨x, _, rfl⟩ := List.mem_map.1 h; rfl
@[go_sem] theorem aL1 : ∀ l : List EndT, mY (l.map endC) = true
 | [] => rfl
 | x :: l => aL1 l
@[go_sem] theorem Yz (l : List EndT) : ((l.map endR).map fun r => r.map AV.r) = l.map endC := by rw [List.map_map]; rfl
theorem Jl (xs : List (List RV)) (h : xs = (aF xs).map endR ∧ xs.length ≤ 1000000000) : FC Cx 140 [.r (.rs 3 xs)] [] (.os 0 1) [(0, 1, .sl 127 3 ((aF xs).map endC))] := by
 have hl : (aF xs).length = xs.length := by simp [aF]
 have hlenS : ∀ l : List EndT, (l.map endC).length = l.length := fun l => List.length_map ..
 obtain ⟨h1, h2⟩ := h
 generalize aF xs = l at h1 hl
 subst h1
 rw [← hl] at h2
 refine iG [] (i := 0) [.os 0 1] Tryz.func140 rfl Tryz.ntmps140 (by simp) Tryz.results140 (Xl _) ?_
 refine rnst ?_
 iterate 8 (any_goals (first | (focus (intro K0; (try simp only [go_sem, *]); (first | exact ⟨id⟩ | (refine ⟨fun h => ?_⟩; (repeat' (first | exact h | refine And.intro ?_ ?_ | omega | rfl)); done)))) | (refine jX ?_) | (refine iB ?_) | (apply eJ Ql; (exact rfl)) | (refine eQ ?_) | (apply mU; (exact rfl)) | (refine gT ?_) | ((first | apply Rn_g | apply Rd_g); (exact rfl); (exact rfl); (focus (intro K0; (try simp only [bB, ev, Nat.reduceEqDiff, ↓reduceIte]); exact ⟨id⟩))) | (with_reducible (first | apply kB | apply jZ)) | ((with_reducible (first | apply iC | apply iF | apply lR | apply gV | apply gZ | apply lO)); (exact rfl)) | ((first | apply fU | apply fK); (focus (intro K0; (try simp only [go_sem]); exact ⟨id⟩)); (exact rfl)) | ((first | apply gY | apply gW); (exact rfl); (focus (intro K0; (try simp only [go_sem]); exact ⟨id⟩)); (focus (first | (simp only [Nat.reduceLT]; done) | omega)); (focus (intro hw0; (try simp only [Bool.and_eq_true, Bool.not_eq_true', dU, dD] at hw0); (focus (intro K0; (try simp only [go_sem, *]); (first | exact ⟨id⟩ | (refine ⟨fun h => ?_⟩; (repeat' (first | exact h | refine And.intro ?_ ?_ | omega | rfl)); done))))))) | (apply Rn_c; (focus (intro K0; (try simp only [bB, ev, Nat.reduceEqDiff, ↓reduceIte]); exact ⟨id⟩))) | (with_reducible (first | refine rR ?_ | refine sF ?_)) | (refine jW ?_) | (refine kF rfl ?_) | (refine Rn_b ?_) | (apply gP Ql; (exact rfl)) | (refine kA ?_) | (apply nP; (exact rfl)) | (refine nM (by kernel_rfl) ?_) | ((with_reducible (first | refine fQ (fun h => ?_) (fun h => ?_) | refine fR (fun h => ?_) (fun h => ?_) | refine fF (fun h => ?_) (fun h => ?_))) <;> (have h' := h) <;> (try simp only [decide_eq_true_eq, decide_eq_false_iff_not, Bool.not_eq_true', Bool.not_eq_false', Bool.and_eq_true, Bool.or_eq_true, Bool.or_eq_false_iff, beq_iff_eq, bne_iff_ne, ne_eq, Bool.not_true, Bool.not_false, not_false_eq_true, reduceCtorEq, beq_eq_false_iff_ne, bne_eq_false_iff_eq] at h') <;> (first | apply pL | apply rT)) | (refine fT rfl rfl ?_) | (first | refine fO ?_ | refine lN ?_ | refine dI ?_) | (refine eE (T := []) ?_) | (refine mZ ?_)))
 ·intro K0; (try simp only [go_sem]); exact ⟨id⟩
 refine lL (sz := 3) rfl (.inl rfl) rfl rfl (Nat.le_of_ble_eq_true rfl) rfl rfl (by kernel_rfl) (fun q hq => ?_)
 apply oB
 ·intro K0; (try simp only [go_sem]); exact ⟨id⟩
 cases q with
 | true =>
  have h0 : l = [] := by have := hq rfl; simpa using this
  subst h0
  (any_goals refine go Ql 0 ?_)
  all_goals (try simp only [go_sem])
 | false =>
  clear hq
  (any_goals refine go Ql 0 ?_)
  all_goals (try simp only [go_sem])
theorem Na (xs : List (List RV)) (h : xs = (aF xs).map endR ∧ xs.length ≤ 1000000000) : FC Cx 140 [.r (.rs 3 xs)] [] (fP (aF xs)) [] := (Jl xs h).freeze1 (Yz _).symm
def oK (args : List AV) (K : AV → Prop) : Prop := match args with
 | [.r (.rs 3 xs)] => (xs = (aF xs).map endR ∧ xs.length ≤ 1000000000) ∧ K (fP (aF xs))
 | _ => False
noncomputable abbrev Lz : Ct Cx := .pure 140 oK fun args K h => by
 unfold oK at h; split at h; exact ⟨_, aA (Na _ h.1) aR1 rfl rfl, h.2⟩; exact h.elim
@[go_sem] theorem Yw : type_of% @oK.eq_def := @oK.eq_def
abbrev valN (v : Int × Int) : List NV := [.r (.v (.int .i64 v.1)), .r (.v (.int .i64 v.2))]
abbrev fZ (f : aR) : List NV := [.r (.v (.int .i64 f.fn)), .r (.v (.int .i64 f.pc)), .r (.v (.int .i64 f.tov)), .r (.v (.int .i64 f.gen)), .r (.v (.int .i64 f.self.1)), .r (.v (.int .i64 f.self.2)), .nd 50 2 (f.regs.map valN), .r (.rs 2 (f.tries.map tryR))]
abbrev frameA2 (f : aR) : List AV := [Iv f.fn, Iv f.pc, Iv f.tov, Iv f.gen, Iv f.self.1, Iv f.self.2, .nd 50 2 (f.regs.map valN), dK f.tries]
theorem pA (l : List (Int × Int)) : (l.map valN).map (List.map nvC) = l.map valC := by rw [List.map_map]; rfl
theorem gD (l : List aR) : (l.map fZ).map (List.map nvC) = l.map frameA2 := by rw [List.map_map]; rfl
theorem qG (l : List aR) : ∀ row ∈ l.map frameA2, aW bO row = true := fun row h => by
 obtain ⟨x, _, rfl⟩ := List.mem_map.1 h; rfl
def mixL {α β : Type} (f g : α → β) (l : List α) (i : Nat) : List β := (l.take i).map f ++ (l.drop i).map g
theorem Bf {α β : Type} (f g : α → β) (l : List α) (i : Nat) : (mixL f g l i).length = l.length := by
 unfold mixL; rw [List.length_append, List.length_map, List.length_map, List.length_take, List.length_drop]; omega
theorem Fs {α β : Type} (f g : α → β) {l : List α} {i : Nat} {x : α} (h : l[i]? = some x) : (mixL f g l i)[i]? = some (g x) := by
 have hi := (List.getElem?_eq_some_iff.1 h).1
 unfold mixL
 rw [List.getElem?_append_right (by rw [List.length_map, List.length_take]; omega), List.length_map, List.length_take, List.getElem?_map, List.getElem?_drop]
 rw [show i + (i - min i l.length) = i by omega, h]; rfl
theorem Cm {α β : Type} (f g : α → β) {l : List α} {i : Nat} {x : α} (h : l[i]? = some x) : (mixL f g l i).set i (f x) = mixL f g l (i + 1) := by
 have hi := (List.getElem?_eq_some_iff.1 h).1
 unfold mixL
 rw [List.set_append_right _ _ (by rw [List.length_map, List.length_take]; omega), List.length_map, List.length_take, show i - min i l.length = 0 by omega]
 have hd : l.drop i = x :: l.drop (i + 1) := by
  rw [List.drop_eq_getElem_cons hi]
  congr 1
  rw [List.getElem?_eq_getElem hi] at h; exact Option.some.inj h
 rw [hd, List.map_cons, List.set_cons_zero, List.take_add_one, h, List.map_append, List.append_assoc]; rfl
theorem Ch {α β : Type} (f g : α → β) (l : List α) : mixL f g l l.length = l.map f := by
 unfold mixL; rw [List.take_length, List.drop_length]; simp
theorem Uz (fs : List aR) (hl : fs.length ≤ 1000000000) (hr : ∀ f ∈ fs, f.regs.length ≤ 1000000000 ∧ f.tries.length ≤ 1000000000) : FC Cx 141 [bL fs] [] (.os 0 1) [(0, 1, .sl 61 8 (fs.map frameA2))] := by
 have l1 : (fs.map bA).length = fs.length := List.length_map ..
 have l2 : (fs.map frameC).length = fs.length := List.length_map ..
 refine iG [nA, rA, Ln] (i := 0) [.os 0 1] Tryz.func141 rfl Tryz.ntmps141 (by simp) Tryz.results141 (qG _) ?_
 refine rnst ?_
 (any_goals refine go Ru 0 ?_)
 refine bX (fun x : Nat × Nat => x.1 ≤ fs.length) (fun x => ⟨33, [(0, .os 5 1), (7, Iv fs.length), (8, Iv x.1)], [(5, 1, .sl 61 8 (mixL frameA2 frameC fs x.1)), (20, x.2, .gone)]⟩) (fun x => fs.length - x.1) (0, 0) (Nat.zero_le _) ?_
 rintro ⟨i, u⟩ hi
 dsimp only at hi ⊢
 by_cases hlt : i < fs.length
 case neg =>
  obtain rfl : i = fs.length := by omega
  have e1 := bR fs
  rw [Ch]
  (any_goals refine go Ru 0 ?_)
  all_goals (try simp only [go_sem])
 obtain ⟨f, hx, hg, h1, h2, hw⟩ := cC bA fs hlt (by omega)
 obtain ⟨r1, r2⟩ := hr f (List.mem_of_getElem? hx)
 have l3 : (f.regs.map valR).length = f.regs.length := List.length_map ..
 have l4 : (f.tries.map tryR).length = f.tries.length := List.length_map ..
 have q1 := Bf frameA2 frameC fs i
 have q2 := Fs frameA2 frameC hx
 have q3 := Cm frameA2 frameC hx
 have q5 : (mixL frameA2 frameC fs i).getD i [] = frameC f := by rw [List.getD_eq_getElem?_getD, q2]; rfl
 generalize mixL frameA2 frameC fs i = R at *
 have q4 : ∀ X, (R.set i X).length = R.length := fun X => List.length_set
 have q6 : ∀ X, (R.set i X).getD i [] = X := fun X => by rw [List.getD_eq_getElem?_getD, List.getElem?_set_self (by omega)]; rfl
 have q7 : ∀ X Y, (R.set i X).set i Y = R.set i Y := fun X Y => List.set_set ..
 (any_goals refine go (eM 6 Ru) 0 ?_)
 (apply dM 5 i 6 20 (f.regs.map valN); (exact rfl); (exact List.getElem?_set_self (by rw [q1]; exact hlt)); (exact rfl); (exact (by decide)); (exact congrArg (fun z => (1 + u, Res.sl 50 2 z)) (pA f.regs).symm); (exact rfl); (intro K0; (try simp only [go_sem, q7]); exact ⟨id⟩))
 clear q2 q4 q5 q6 q7
 (any_goals refine go Ru 0 ?_)
 refine ⟨(i + 1, u + 9), by dsimp only; omega, by dsimp only; omega, ?_⟩
 dsimp only
 rw [← q3]
 exact bE
theorem Lm (xs : List (List RV)) : ∀ row ∈ (framesOf xs).map frameA2, aW bO row = true := qG _
theorem aAa (xs : List (List RV)) (h : xs = (framesOf xs).map bA ∧ (framesOf xs).length ≤ 1000000000 ∧ ∀ f ∈ framesOf xs, f.regs.length ≤ 1000000000 ∧ f.tries.length ≤ 1000000000) : FC Cx 141 [.r (.rs 8 xs)] [] (.os 0 1) [(0, 1, .sl 61 8 ((framesOf xs).map frameA2))] := by
 have := Uz (framesOf xs) h.2.1 h.2.2
 rwa [show bL (framesOf xs) = .r (.rs 8 xs) from by show AV.r (RV.rs 8 ((framesOf xs).map bA)) = _; rw [← h.1]] at this
def mQ (st : St) (d : Nat) (args : List AV) (K : AV → List Loc → List (Loc × Cont) → Prop) : Prop := match args with
 | [.r (.rs 8 xs)] => (xs = (framesOf xs).map bA ∧ (framesOf xs).length ≤ 1000000000 ∧ ∀ f ∈ framesOf xs, f.regs.length ≤ 1000000000 ∧ f.tries.length ≤ 1000000000) ∧ K (ren (fun _ => d) (fun _ => st.cur d) (.os 0 1)) [.R d] [(.R d, .s (1 + st.cur d) (.sl 61 8 ((framesOf xs).map frameA2)))]
 | _ => False
theorem Id (st : St) (d : Nat) (args : List AV) (K : AV → List Loc → List (Loc × Cont) → Prop) (h : mQ st d args K) : ∃ r ls outs, dC Cx 141 st args r ls outs ∧ K r ls outs := by
 unfold mQ at h
 split at h
 ·exact ⟨_, _, _, dC.own (aAa _ h.1) rfl (Lm _) rfl d, h.2⟩
 ·exact h.elim
noncomputable def xT : Ct Cx := .res 141 mQ aQ0 Id
@[go_sem] theorem aH7 : xT.g = 141 := rfl
@[go_sem] theorem aCs (c : Call) (fop : Operand) (caps : List AV) (o : Oper) (st : St) (K : List Loc → List (Loc × Cont) → Prop) : xT.run c fop caps o st K = kH mQ c fop caps o st K := rfl
@[go_sem] theorem aEx : type_of% @mQ.eq_def := @mQ.eq_def
abbrev cV (c : bM) : List AV := [Iv c.kind, Iv c.num, aS c.vals, .nd 61 8 (c.frames.map fZ)]
abbrev aU (t : aP) : List AV := [.nd 61 8 (t.frames.map fZ), Iv t.state, Iv t.on, Iv t.val.1, Iv t.val.2]
structure SmF (fs : List aR) : Prop where
 len : fs.length ≤ 1000000000
 each : ∀ f ∈ fs, f.regs.length ≤ 1000000000 ∧ f.tries.length ≤ 1000000000
structure Sml (s : aC) : Prop where
 cells : s.cells.length ≤ 1000000000
 shapes : s.shapes.length ≤ 1000000000
 texts : s.texts.length ≤ 1000000000
 threads : s.threads.length ≤ 1000000000
 ends : s.ends.length ≤ 1000000000
 said : s.said.length ≤ 1000000000
 vals : ∀ c ∈ s.cells, c.vals.length ≤ 1000000000
 cell : ∀ c ∈ s.cells, SmF c.frames
 thread : ∀ t ∈ s.threads, SmF t.frames
abbrev ownC (k v : Nat) (cs : List bM) : Nat × Nat × Res := (k, v, .sl 48 4 (cs.map cV))
abbrev ownT (k v : Nat) (ts : List aP) : Nat × Nat × Res := (k, v, .sl 56 5 (ts.map aU))
theorem Yj (cs : List bM) (ts : List aP) (k : Nat) : bN (domR [ownC 7 1 cs, ownT 16 1 ts]) (aB k [ownC 7 1 cs, ownT 16 1 ts]).2 := by
 have e : aB k [ownC 7 1 cs, ownT 16 1 ts] = if k = 7 then (1, .sl 48 4 (cs.map cV)) else if k = 16 then (1, .sl 56 5 (ts.map aU)) else (0, .gone) := rfl
 rw [e]
 split
 ·exact fun row h => by obtain ⟨x, _, rfl⟩ := List.mem_map.1 h; rfl
 ·split
  ·exact fun row h => by obtain ⟨x, _, rfl⟩ := List.mem_map.1 h; rfl
  ·trivial
theorem aL4 (s : aC) (hm : Sml s) : FC Cx 84 [aO s] [] (.agg [.os 7 1, aS s.shapes, bZ s.texts, .os 16 1, fP s.ends, aS s.said, Iv s.asked, Iv s.steps]) [ownC 7 1 s.cells, ownT 16 1 s.threads] := by
 obtain ⟨m1, m2, m3, m4, m5, m6, m7, m8, m9⟩ := hm
 have l1 : (s.cells.map aX).length = s.cells.length := List.length_map ..
 have l2 : (s.shapes.map valR).length = s.shapes.length := List.length_map ..
 have l3 : (s.texts.map strR).length = s.texts.length := List.length_map ..
 have l4 : (s.threads.map aJ).length = s.threads.length := List.length_map ..
 have l5 : (s.ends.map endR).length = s.ends.length := List.length_map ..
 have l6 : (s.said.map valR).length = s.said.length := List.length_map ..
 have l7 : (s.cells.map cellC).length = s.cells.length := List.length_map ..
 have l8 : (s.threads.map threadC).length = s.threads.length := List.length_map ..
 refine jR [oV, lQ, Dm, Jy, Lz, Kg, xT]  Tryz.func84 rfl Tryz.ntmps84 (by simp) Tryz.results84 rfl (Yj _ _) ?_
 refine rnst ?_
 (any_goals refine go lv84 0 ?_)
 refine bX (fun x : Nat × Nat => x.1 ≤ s.cells.length) (fun x => ⟨80, [(1, .os 1 1), (2, .os 2 1), (31, Iv s.cells.length), (32, Iv x.1)], [(1, 1, .bx [.os 7 1, aS s.shapes, bZ s.texts, .os 16 1, fP s.ends, aS s.said, Iv s.asked, Iv s.steps]), (2, 1, .bx [NilS, NilS, NilS, NilS, NilS, NilS, Iv 0, Iv 0]), (7, 1, .sl 48 4 (mixL cV cellC s.cells x.1)), (16, 1, .sl 56 5 (s.threads.map threadC)), (54, x.2, .gone)]⟩) (fun x => s.cells.length - x.1) (0, 0) (Nat.zero_le _) ?_
 rintro ⟨i, u⟩ hi
 dsimp only at hi ⊢
 by_cases hlt : i < s.cells.length
 case pos =>
  obtain ⟨c, hx, hg, h1, h2, hw⟩ := cC aX s.cells hlt (by omega)
  have r1 := m7 c (List.mem_of_getElem? hx)
  obtain ⟨r2, r3⟩ := m8 c (List.mem_of_getElem? hx)
  have l9 : (c.vals.map valR).length = c.vals.length := List.length_map ..
  have l10 : (c.frames.map bA).length = c.frames.length := List.length_map ..
  have q1 := Bf cV cellC s.cells i
  have q2 := Fs cV cellC hx
  have q3 := Cm cV cellC hx
  have q5 : (mixL cV cellC s.cells i).getD i [] = cellC c := by rw [List.getD_eq_getElem?_getD, q2]; rfl
  generalize mixL cV cellC s.cells i = R at *
  have q4 : ∀ X, (R.set i X).length = R.length := fun X => List.length_set
  have q6 : ∀ X, (R.set i X).getD i [] = X := fun X => by rw [List.getD_eq_getElem?_getD, List.getElem?_set_self (by omega)]; rfl
  have q7 : ∀ X Y, (R.set i X).set i Y = R.set i Y := fun X Y => List.set_set ..
  clear m7 m8 m9
  (any_goals refine go (eM 6 lv84) 0 ?_)
  (apply dM 7 i 3 54 (c.frames.map fZ); (exact rfl); (exact List.getElem?_set_self (by rw [q1]; exact hlt)); (exact rfl); (exact (by decide)); (exact congrArg (fun z => (1 + u, Res.sl 61 8 z)) (gD c.frames).symm); (exact rfl); (intro K0; (try simp only [go_sem, q7]); exact ⟨id⟩))
  clear q2 q4 q5 q6 q7
  (any_goals refine go lv84 0 ?_)
  refine ⟨(i + 1, u + 9), by dsimp only; omega, by dsimp only; omega, ?_⟩
  dsimp only
  rw [← q3]
  exact bE
 obtain rfl : i = s.cells.length := by omega
 have e1 := bR s.cells
 rw [Ch]
 clear hi hlt
 (any_goals refine go lv84 0 ?_)
 clear e1
 refine bX (fun x : Nat × Nat => x.1 ≤ s.threads.length) (fun x => ⟨80, [(1, .os 1 1), (2, .os 2 1), (62, Iv s.threads.length), (63, Iv x.1)], [(1, 1, .bx [.os 7 1, aS s.shapes, bZ s.texts, .os 16 1, fP s.ends, aS s.said, Iv s.asked, Iv s.steps]), (2, 1, .bx [NilS, NilS, NilS, NilS, NilS, NilS, Iv 0, Iv 0]), (7, 1, .sl 48 4 (s.cells.map cV)), (16, 1, .sl 56 5 (mixL aU threadC s.threads x.1)), (54, u, .gone), (75, x.2, .gone)]⟩) (fun x => s.threads.length - x.1) (0, 0) (Nat.zero_le _) ?_
 rintro ⟨i, w⟩ hi
 dsimp only at hi ⊢
 by_cases hlt : i < s.threads.length
 case pos =>
  obtain ⟨t, hx, hg, h1, h2, hw⟩ := cC aJ s.threads hlt (by omega)
  obtain ⟨r2, r3⟩ := m9 t (List.mem_of_getElem? hx)
  have l10 : (t.frames.map bA).length = t.frames.length := List.length_map ..
  have q1 := Bf aU threadC s.threads i
  have q2 := Fs aU threadC hx
  have q3 := Cm aU threadC hx
  have q5 : (mixL aU threadC s.threads i).getD i [] = threadC t := by rw [List.getD_eq_getElem?_getD, q2]; rfl
  generalize mixL aU threadC s.threads i = R at *
  have q4 : ∀ X, (R.set i X).length = R.length := fun X => List.length_set
  have q6 : ∀ X, (R.set i X).getD i [] = X := fun X => by rw [List.getD_eq_getElem?_getD, List.getElem?_set_self (by omega)]; rfl
  have q7 : ∀ X Y, (R.set i X).set i Y = R.set i Y := fun X Y => List.set_set ..
  clear m7 m8 m9
  (any_goals refine go (eM 11 lv84) 0 ?_)
  (apply dM 16 i 0 75 (t.frames.map fZ); (exact rfl); (exact List.getElem?_set_self (by rw [q1]; exact hlt)); (exact rfl); (exact (by decide)); (exact congrArg (fun z => (1 + w, Res.sl 61 8 z)) (gD t.frames).symm); (exact rfl); (intro K0; (try simp only [go_sem, q7]); exact ⟨id⟩))
  clear q2 q4 q5 q6 q7
  (any_goals refine go lv84 0 ?_)
  refine ⟨(i + 1, w + 9), by dsimp only; omega, by dsimp only; omega, ?_⟩
  dsimp only
  rw [← q3]
  exact bE
 obtain rfl : i = s.threads.length := by omega
 have e1 := bR s.threads
 rw [Ch]
 clear hi hlt
 (any_goals refine go lv84 0 ?_)
 all_goals (try simp only [go_sem])
structure kK where
 kind : Int
 step : Int
 thread : Int
 fn : Int
 pc : Int
 line : Int
 a : Int
 b : Int
 val : Int × Int
 old : Int × Int
 deriving DecidableEq
abbrev Bw (e : kK) : List RV := [.v (.int .i64 e.kind), .v (.int .i64 e.step), .v (.int .i64 e.thread), .v (.int .i64 e.fn), .v (.int .i64 e.pc), .v (.int .i64 e.line), .v (.int .i64 e.a), .v (.int .i64 e.b), .v (.int .i64 e.val.1), .v (.int .i64 e.val.2), .v (.int .i64 e.old.1), .v (.int .i64 e.old.2)]
abbrev kD (e : kK) : AV := .agg [Iv e.kind, Iv e.step, Iv e.thread, Iv e.fn, Iv e.pc, Iv e.line, Iv e.a, Iv e.b, Iv e.val.1, Iv e.val.2, Iv e.old.1, Iv e.old.2]
abbrev cP (l : List kK) : AV := .r (.rs 12 (l.map Bw))
def atF (p : aH) (s : aC) (th : Nat) (f : aR) : kK := ⟨0, s.steps, th, f.fn, f.pc, ((p.fns.getD f.fn.toNat fn0).code.getD f.pc.toNat ins0).line, 0, 0, (0, 0), (0, 0)⟩
theorem aU1 (p : aH) (s : aC) (th : Nat) (t : aP) (f : aR) (hp : Pgo p) (ht : s.threads[th]? = some t) (hf : t.frames[t.frames.length - 1]? = some f) (hfr : cU p s f = true) (hl : t.frames.length ≤ 1000000000) :
  FC Cx 86 [.r (.rp (dQ p)), bW s, Iv th] [] (kD (atF p s th f)) [] := by
 have l0 : (p.fns.map fnR).length = p.fns.length := List.length_map ..
 have l1 : (s.threads.map aJ).length = s.threads.length := List.length_map ..
 have l2 : (t.frames.map bA).length = t.frames.length := List.length_map ..
 have hk := (List.getElem?_eq_some_iff.1 ht).1
 have hfk := (List.getElem?_eq_some_iff.1 hf).1
 have t1 : Int.toNat (th : Int) = th := by omega
 have t2 : Int.toNat ((t.frames.length : Int) - 1) = t.frames.length - 1 := by omega
 have w1 : IntKind.i64.wrap ((t.frames.length : Int) - 1) = (t.frames.length : Int) - 1 := by rw [aL] <;> omega
 have d1 : decide ((0 : Int) < (t.frames.length : Int)) = true := by rw [decide_eq_true_eq]; omega
 have hg := aE aJ ht ([] : List RV)
 have hgf := aE bA hf ([] : List RV)
 obtain ⟨⟨g1, g2⟩, g3, g4⟩ := iI hfr
 obtain ⟨F, hF⟩ : ∃ F, p.fns[f.fn.toNat]? = some F := ⟨p.fns[f.fn.toNat]'(by omega), List.getElem?_eq_getElem _⟩
 have gF := aE fnR hF ([] : List RV)
 have eF : p.fns.getD f.fn.toNat fn0 = F := by rw [List.getD_eq_getElem?_getD, hF]; rfl
 rw [eF] at g4
 have l3 : (F.code.map insR).length = F.code.length := List.length_map ..
 obtain ⟨I, hI⟩ : ∃ I, F.code[f.pc.toNat]? = some I := ⟨F.code[f.pc.toNat]'(by omega), List.getElem?_eq_getElem _⟩
 have gI := aE insR hI ([] : List RV)
 have eI : F.code.getD f.pc.toNat ins0 = I := by rw [List.getD_eq_getElem?_getD, hI]; rfl
 unfold atF
 rw [eF, eI]
 clear eF eI hfr
 obtain ⟨fn, pc, tov, gen, ⟨sk, sn⟩, regs, tries⟩ := f
 dsimp only at *
 refine aD [] Tryz.func86 Tryz.ntmps86 Tryz.results86 ?_
 (any_goals refine go lv86 0 ?_)
 all_goals (try simp only [go_sem])
theorem Ov (p : aH) (s : aC) (th : Nat) (t : aP) (f : aR) (hp : Pgo p) (ht : s.threads[th]? = some t) (hf : t.frames[t.frames.length - 1]? = some f) (hfr : cU p s f = true) (hl : t.frames.length ≤ 1000000000) :
  FC Cx 37 [bQ p, aO s, Iv th] [] (kD (atF p s th f)) [] := by
 have l0 : (p.fns.map fnR).length = p.fns.length := List.length_map ..
 have l1 : (s.threads.map aJ).length = s.threads.length := List.length_map ..
 have l2 : (t.frames.map bA).length = t.frames.length := List.length_map ..
 have hk := (List.getElem?_eq_some_iff.1 ht).1
 have hfk := (List.getElem?_eq_some_iff.1 hf).1
 have t1 : Int.toNat (th : Int) = th := by omega
 have t2 : Int.toNat ((t.frames.length : Int) - 1) = t.frames.length - 1 := by omega
 have w1 : IntKind.i64.wrap ((t.frames.length : Int) - 1) = (t.frames.length : Int) - 1 := by rw [aL] <;> omega
 have d1 : decide ((0 : Int) < (t.frames.length : Int)) = true := by rw [decide_eq_true_eq]; omega
 have hg := aE aJ ht ([] : List RV)
 have hgf := aE bA hf ([] : List RV)
 obtain ⟨⟨g1, g2⟩, g3, g4⟩ := iI hfr
 obtain ⟨F, hF⟩ : ∃ F, p.fns[f.fn.toNat]? = some F := ⟨p.fns[f.fn.toNat]'(by omega), List.getElem?_eq_getElem _⟩
 have gF := aE fnR hF ([] : List RV)
 have eF : p.fns.getD f.fn.toNat fn0 = F := by rw [List.getD_eq_getElem?_getD, hF]; rfl
 rw [eF] at g4
 have l3 : (F.code.map insR).length = F.code.length := List.length_map ..
 obtain ⟨I, hI⟩ : ∃ I, F.code[f.pc.toNat]? = some I := ⟨F.code[f.pc.toNat]'(by omega), List.getElem?_eq_getElem _⟩
 have gI := aE insR hI ([] : List RV)
 have eI : F.code.getD f.pc.toNat ins0 = I := by rw [List.getD_eq_getElem?_getD, hI]; rfl
 unfold atF
 rw [eF, eI]
 clear eF eI hfr
 obtain ⟨fn, pc, tov, gen, ⟨sk, sn⟩, regs, tries⟩ := f
 dsimp only at *
 refine aD [] Tryz.func37 Tryz.ntmps37 Tryz.results37 ?_
 refine goR ?_
 refine fzB 3 ?_
 refine fzB 4 ?_
 (any_goals refine go lv37 0 ?_)
 all_goals (try simp only [go_sem])
theorem aD4 (e : kK) (k a b : Int) (v o : Int × Int) : FC Cx 88 [kD e, Iv k, Iv a, Iv b, VV v.1 v.2, VV o.1 o.2] [] (kD { e with kind := k, a := a, b := b, val := v, old := o }) [] := by
 refine aD [] Tryz.func88 Tryz.ntmps88 Tryz.results88 ?_
 (any_goals refine go lv88 0 ?_)
 all_goals (try simp only [go_sem])
def spN (m : List (Nat × Nat)) (args0 : List AV) (r0 : AV) (rs1 : List (Nat × Nat × Res)) (st : St) (_ : Nat) (args : List AV) (K : AV → List Loc → List (Loc × Cont) → Prop) : Prop :=
 args = args0 ∧ K (ren (mpS (m.map fun q => (q.1, q.2, st.cur q.2))) (mpD (m.map fun q => (q.1, q.2, st.cur q.2))) r0) (m.map fun q => .R q.2) (m.map fun q => (.R q.2, .s ((aB q.1 rs1).1 + st.cur q.2) (dH (mpS (m.map fun q => (q.1, q.2, st.cur q.2))) (mpD (m.map fun q => (q.1, q.2, st.cur q.2))) (aB q.1 rs1).2)))
structure NOk {C : Ctx} (f : Nat) (m : List (Nat × Nat)) (args0 : List AV) (r0 : AV) (rs1 : List (Nat × Nat × Res)) : Prop where
 fc : FC C f args0 [] r0 rs1
 keys : (rs1.all fun p => m.any fun q => q.1 == p.1) = true
 nd : ndB (m.map (·.2)) = true
 nd1 : ndB (m.map (·.1)) = true
 args : aW bO args0 = true
 noR : ∀ σ δ, renL σ δ args0 = args0
 res : bI (domR rs1) r0 = true
 in1 : ∀ p ∈ rs1, bN (domR rs1) p.2.2
 dom : ∀ q ∈ m, domR rs1 q.1 = true ∧ 1 ≤ (aB q.1 rs1).1
theorem aEh {m : List (Nat × Nat)} (h : (m.map (·.1)).Nodup) (c : Nat → Nat) : ∀ q ∈ m, mpS (m.map fun q => (q.1, q.2, c q.2)) q.1 = q.2 ∧ mpD (m.map fun q => (q.1, q.2, c q.2)) q.1 = c q.2 := by
 induction m with
 | nil => intro q hq; simp at hq
 | cons p m ih =>
  intro q hq
  rw [List.map_cons, List.nodup_cons] at h
  rcases List.mem_cons.1 hq with rfl | hq
  ·simp [mpS, mpD]
  ·have hne : q.1 ≠ p.1 := fun e => h.1 (by rw [← e]; exact List.mem_map_of_mem hq)
   have := ih h.2 q hq
   simp only [List.map_cons, mpS, mpD]
   rw [if_neg (by simpa using hne), if_neg (by simpa using hne)]
   exact this
theorem aJv {C : Ctx} {f : Nat} {m : List (Nat × Nat)} {args0 : List AV} {r0 : AV} {rs1 : List (Nat × Nat × Res)} (q : NOk (C := C) f m args0 r0 rs1) (st : St) (d : Nat) (args : List AV) (K : AV → List Loc → List (Loc × Cont) → Prop) (h : spN m args0 r0 rs1 st d args K) :
  ∃ r ls outs, dC C f st args r ls outs ∧ K r ls outs := by
 obtain ⟨rfl, h3⟩ := h
 have hmp := aEh (zY q.nd1) st.cur
 have hc := dC.gen (st := st) q.fc (m.map fun q => (q.1, q.2, st.cur q.2)) (by simpa [List.any_map] using q.keys) (by rw [List.map_map]; exact zY q.nd) (bY q.args) q.res (fun p hp => by simp at hp) q.in1 (fun p hp => by simp at hp) (fun p hp _ _ => by
  obtain ⟨z, hz, rfl⟩ := List.mem_map.1 hp
  have := (q.dom z hz).2
  rw [(hmp z hz).1, (hmp z hz).2]
  exact Nat.lt_add_of_pos_left this)
 rw [q.noR] at hc
 refine ⟨_, _, _, hc, ?_⟩
 have e1 : (m.map fun q => (q.1, q.2, st.cur q.2)).map (fun z => Loc.R (mpS (m.map fun q => (q.1, q.2, st.cur q.2)) z.1)) = m.map fun q => Loc.R q.2 := by
  rw [List.map_map]
  exact List.map_congr_left fun z hz => congrArg Loc.R (hmp z hz).1
 have e2 : (m.map fun q => (q.1, q.2, st.cur q.2)).map (fun z => ((Loc.R (mpS (m.map fun q => (q.1, q.2, st.cur q.2)) z.1), Cont.s (jJ (mpD (m.map fun q => (q.1, q.2, st.cur q.2))) (mpS (m.map fun q => (q.1, q.2, st.cur q.2))) rs1 st z.1) (dH (mpS (m.map fun q => (q.1, q.2, st.cur q.2))) (mpD (m.map fun q => (q.1, q.2, st.cur q.2))) (aB z.1 rs1).2)) : Loc × Cont)) =
   m.map fun z => (Loc.R z.2, Cont.s ((aB z.1 rs1).1 + st.cur z.2) (dH (mpS (m.map fun q => (q.1, q.2, st.cur q.2))) (mpD (m.map fun q => (q.1, q.2, st.cur q.2))) (aB z.1 rs1).2)) := by
  rw [List.map_map]
  refine List.map_congr_left fun z hz => ?_
  simp only [Function.comp]
  rw [(hmp z hz).1]
  unfold jJ
  rw [if_pos (q.dom z hz).1, (hmp z hz).2]
 rw [e1, e2]
 exact h3
noncomputable def ctN {C : Ctx} (f : Nat) (m : List (Nat × Nat)) (args0 : List AV) (r0 : AV) (rs1 : List (Nat × Nat × Res)) (he : aG C.P f) (q : NOk (C := C) f m args0 r0 rs1) : Ct C := .res f (spN m args0 r0 rs1) he (aJv q)
@[go_sem] theorem aYy {C : Ctx} (f : Nat) (m : List (Nat × Nat)) (args0 : List AV) (r0 : AV) (rs1 : List (Nat × Nat × Res)) (he : aG C.P f) (q : NOk (C := C) f m args0 r0 rs1) : (ctN f m args0 r0 rs1 he q).g = f := rfl
@[go_sem] theorem aX4 {C : Ctx} (f : Nat) (m : List (Nat × Nat)) (args0 : List AV) (r0 : AV) (rs1 : List (Nat × Nat × Res)) (he : aG C.P f) (q : NOk (C := C) f m args0 r0 rs1) (c : Call) (fop : Operand) (cs : List AV) (o : Oper) (st : St) (K : List Loc → List (Loc × Cont) → Prop) : (ctN f m args0 r0 rs1 he q).run c fop cs o st K = kH (spN m args0 r0 rs1) c fop cs o st K := rfl
attribute [go_sem] spN
abbrev boxS (s : aC) (k v a va b vb : Nat) : Nat × Nat × Res := (k, v, .bx [.os a va, aS s.shapes, bZ s.texts, .os b vb, fP s.ends, aS s.said, Iv s.asked, Iv s.steps])
theorem Qi (s : aC) (cs : List bM) (ts : List aP) (k : Nat) : bN (domR [boxS s 0 0 1 0 2 0, ownC 1 0 cs, ownT 2 0 ts]) (aB k [boxS s 0 0 1 0 2 0, ownC 1 0 cs, ownT 2 0 ts]).2 := by
 have e : aB k [boxS s 0 0 1 0 2 0, ownC 1 0 cs, ownT 2 0 ts] = if k = 0 then (0, (boxS s 0 0 1 0 2 0).2.2) else if k = 1 then (0, .sl 48 4 (cs.map cV)) else if k = 2 then (0, .sl 56 5 (ts.map aU)) else (0, .gone) := rfl
 rw [e]
 split
 ·rfl
 ·split
  ·exact fun row h => by obtain ⟨x, _, rfl⟩ := List.mem_map.1 h; rfl
  ·split
   ·exact fun row h => by obtain ⟨x, _, rfl⟩ := List.mem_map.1 h; rfl
   ·trivial
def TrG (f : FnT) (W : WT) (l : List (Int × Int)) : Prop := ∀ (j : Nat) (y : Int × Int), l[j]? = some y → (0 ≤ y.1 ∧ y.1 < f.regs) ∧ To f W y.2 (l.take j)
theorem TrG.keeps {f : FnT} {W W' : WT} {l : List (Int × Int)} (h : TrG f W l) (hk : ∀ t l, To f W t l → To f W' t l) : TrG f W' l := fun j y hy => ⟨(h j y hy).1, hk _ _ (h j y hy).2⟩
theorem TrG.nil (f : FnT) (W : WT) : TrG f W [] := fun j y hy => by simp at hy
theorem TrG.take {f : FnT} {W : WT} {l : List (Int × Int)} (h : TrG f W l) (k : Nat) : TrG f W (l.take k) := fun j y hy => by
 rw [List.getElem?_take] at hy
 split at hy
 ·rename_i hj
  have := h j y hy
  rw [List.take_take, Nat.min_eq_left (by omega)]; exact this
 ·cases hy
theorem TrG.push {f : FnT} {W : WT} {l : List (Int × Int)} (h : TrG f W l) {a b : Int} (ha : 0 ≤ a ∧ a < f.regs) (hb : To f W b l) : TrG f W (l ++ [(a, b)]) := fun j y hy => by
 by_cases hj : j < l.length
 ·rw [List.getElem?_append_left hj] at hy
  rw [List.take_append_of_le_length (by omega)]
  exact h j y hy
 ·rw [List.getElem?_append_right (by omega)] at hy
  have he : j - l.length = 0 := by
   rcases Nat.eq_zero_or_pos (j - l.length) with h | h
   ·exact h
   ·rw [List.getElem?_eq_none (by simp; omega)] at hy; cases hy
  rw [he] at hy; simp at hy; subst hy
  rw [show j = l.length by omega, List.take_left]
  exact ⟨ha, hb⟩
def Wtr6 (f : FnT) (W : WT) : Prop := ∀ k : Nat, W.seen.getD k false = true → TrG f W (W.out.getD k [])
theorem lJ {f : FnT} {n : Int} {l : List (Int × Int)} {W : WT} (hi : Wiv f W) (hn : 0 ≤ n) (hl : TrG f (aZ f n l W) l) (hW : Wtr6 f W) : Wtr6 f (aZ f n l W) := by
 intro k hk
 by_cases hs : W.seen.getD k false = true
 ·have hT := qT hi hs
  have h2 := cM (n := n) (l := l) hT
  have : (aZ f n l W).out.getD k [] = W.out.getD k [] := h2.out
  rw [this]
  exact (hW k hs).keeps fun t l' hT => cM hT
 ·have h1 := hi.out
  unfold aZ at hk hl ⊢
  split at hk
  ·exact absurd hk hs
  ·rename_i hb
   rw [if_neg hb] at hl ⊢
   split at hk
   ·rename_i hs2
    rw [if_pos hs2] at hl ⊢
    by_cases he : n.toNat = k
    ·subst he
     dsimp only
     rw [eW (by omega)]; exact hl
    ·dsimp only at hk; rw [fY he] at hk; exact absurd hk hs
   ·split at hk <;> exact absurd hk hs
theorem Pc {f : FnT} {n : Int} {l : List (Int × Int)} {W : WT} (h : (aZ f n l W).bad = false) : W.bad = false := by
 cases hx : W.bad with
 | false => rfl
 | true => rw [pC hx] at h; cases h
theorem Vr {f : FnT} {n : Int} {W : WT} (h : Wiv f W) (hc : Cok f) (hr : ∀ i ∈ f.code, i.op = 30 → 0 ≤ i.a ∧ i.a < f.regs) (hn : 0 ≤ n) (hs : W.seen.getD n.toNat false = true) (hb : (bU f n W).bad = false) (hW : Wtr6 f W) : Wtr6 f (bU f n W) := by
 have hi : f.code.getD n.toNat ins0 = ins0 ∨ f.code.getD n.toNat ins0 ∈ f.code := by
  cases hg : f.code[n.toNat]? with
  | none => left; simp [List.getD, hg]
  | some i => right; simp only [List.getD, hg, Option.getD_some]; exact List.mem_of_getElem? hg
 have hA : (f.code.getD n.toNat ins0).op = 13 ∨ (f.code.getD n.toNat ins0).op = 14 → 0 ≤ (f.code.getD n.toNat ins0).a := fun ho => hi.elim (fun h => by rw [h] at ho; rcases ho with ho | ho <;> cases ho) (fun h => hc.a _ h ho)
 have hB : (f.code.getD n.toNat ins0).op = 15 ∨ (f.code.getD n.toNat ins0).op = 30 → 0 ≤ (f.code.getD n.toNat ins0).b := fun ho => hi.elim (fun h => by rw [h] at ho; rcases ho with ho | ho <;> cases ho) (fun h => hc.b _ h ho)
 have hR : (f.code.getD n.toNat ins0).op = 30 → 0 ≤ (f.code.getD n.toNat ins0).a ∧ (f.code.getD n.toNat ins0).a < f.regs := fun ho => hi.elim (fun h => by rw [h] at ho; cases ho) (fun h => hr _ h ho)
 have hl := hW n.toNat hs
 unfold bU at hb ⊢
 generalize f.code.getD n.toNat ins0 = i at hA hB hR hb ⊢
 generalize W.out.getD n.toNat [] = l at hl hb ⊢
 dsimp only at hb ⊢
 split at hb
 ·rename_i h1; rw [if_pos h1]; exact hW
 ·rename_i h1
  rw [if_neg h1]
  split at hb
  ·rename_i h2; rw [if_pos h2]
   exact lJ h (hA h2) (hl.keeps fun t l' hT => cM hT) hW
  ·rename_i h2
   rw [if_neg h2]
   split at hb
   ·rename_i h3; rw [if_pos h3]
    have q := (cK (n := i.b) (l := l) h (hB (.inl h3))).1
    exact lJ q (by omega) ((hl.keeps fun t l' hT => cM hT).keeps fun t l' hT => cM hT) (lJ h (hB (.inl h3)) (hl.keeps fun t l' hT => cM hT) hW)
   ·rename_i h3
    rw [if_neg h3]
    split at hb
    ·rename_i h4; rw [if_pos h4]
     have q := (cK (n := i.b) (l := l) h (hB (.inr h4))).1
     have hT := cM (n := n + 1) (l := l ++ [(i.a, i.b)]) (oR h (hB (.inr h4)) (Pc hb))
     exact lJ q (by omega) (((hl.keeps fun t l' hT => cM hT).keeps fun t l' hT => cM hT).push (hR h4) hT) (lJ h (hB (.inr h4)) (hl.keeps fun t l' hT => cM hT) hW)
    ·rename_i h4
     rw [if_neg h4]
     split at hb
     ·rename_i h5; rw [if_pos h5]
      split at hb
      ·cases hb
      ·rename_i h6; rw [if_neg h6]
       exact lJ h (by omega) ((hl.take _).keeps fun t l' hT => cM hT) hW
     ·rename_i h5; rw [if_neg h5]
      exact lJ h (by omega) (hl.keeps fun t l' hT => cM hT) hW
def Wtd6 (W : WT) : Prop := ∀ t ∈ W.todo, W.seen.getD t.toNat false = true
theorem lC {f : FnT} {n : Int} {l : List (Int × Int)} {W : WT} (hi : Wiv f W) (hn : 0 ≤ n) (h : Wtd6 W) : Wtd6 (aZ f n l W) := by
 have h1 := hi.seen
 unfold aZ
 split
 ·exact h
 ·rename_i hb
  split
  ·intro t ht
   dsimp only at ht ⊢
   by_cases he : n.toNat = t.toNat
   ·rw [← he, eW (by omega)]
   ·rw [fY he]
    rcases List.mem_append.1 ht with ht | ht
    ·exact h t ht
    ·simp at ht; subst ht; exact absurd rfl he
  ·split <;> exact h
theorem aAm {f : FnT} {n : Int} {W : WT} (h : Wiv f W) (hc : Cok f) (hn : 0 ≤ n) (hW : Wtd6 W) : Wtd6 (bU f n W) := by
 have hi : f.code.getD n.toNat ins0 = ins0 ∨ f.code.getD n.toNat ins0 ∈ f.code := by
  cases hg : f.code[n.toNat]? with
  | none => left; simp [List.getD, hg]
  | some i => right; simp only [List.getD, hg, Option.getD_some]; exact List.mem_of_getElem? hg
 have hA : (f.code.getD n.toNat ins0).op = 13 ∨ (f.code.getD n.toNat ins0).op = 14 → 0 ≤ (f.code.getD n.toNat ins0).a := fun ho => hi.elim (fun h => by rw [h] at ho; rcases ho with ho | ho <;> cases ho) (fun h => hc.a _ h ho)
 have hB : (f.code.getD n.toNat ins0).op = 15 ∨ (f.code.getD n.toNat ins0).op = 30 → 0 ≤ (f.code.getD n.toNat ins0).b := fun ho => hi.elim (fun h => by rw [h] at ho; rcases ho with ho | ho <;> cases ho) (fun h => hc.b _ h ho)
 unfold bU
 generalize f.code.getD n.toNat ins0 = i at hA hB ⊢
 generalize W.out.getD n.toNat [] = l
 dsimp only
 split
 ·exact hW
 ·split
  ·rename_i ho; exact lC h (hA ho) hW
  ·split
   ·rename_i ho
    exact lC (cK (n := i.b) (l := l) h (hB (.inl ho))).1 (by omega) (lC h (hB (.inl ho)) hW)
   ·split
    ·rename_i ho
     exact lC (cK (n := i.b) (l := l) h (hB (.inr ho))).1 (by omega) (lC h (hB (.inr ho)) hW)
    ·split
     ·split
      ·exact hW
      ·exact lC h (by omega) hW
     ·exact lC h (by omega) hW
theorem Pz {f : FnT} (hc : Cok f) (hr : ∀ i ∈ f.code, i.op = 30 → 0 ≤ i.a ∧ i.a < f.regs) : ∀ (k : Nat) (W : WT), Wiv f W → Wtd6 W → Wtr6 f W → (runW f k W).bad = false → Wtr6 f (runW f k W)
 | 0, W, _, _, h, _ => h
 | k + 1, W, hi, ht, h, hb => by
  have hrun : runW f (k + 1) W = if cL W = true then runW f k (dP f W) else W := rfl
  rw [hrun] at hb ⊢
  split at hb
  ·rename_i hg
   rw [if_pos hg]
   have h0 : 0 < W.todo.length := by simp [cL] at hg; exact hg.1
   obtain ⟨q1, q2, q3, q4⟩ := qO hi h0
   have hbs : (dP f W).bad = false := by
    cases hx : (dP f W).bad with
    | false => rfl
    | true =>
     have : ∀ (k : Nat) (W : WT), Wiv f W → W.bad = true → (runW f k W).bad = true := fun k => by
      induction k with
      | zero => intro W _ h; exact h
      | succ k ih =>
       intro W hi h
       show (if cL W = true then runW f k (dP f W) else W).bad = true
       have : cL W = false := by unfold cL; rw [h]; simp
       rw [this, if_neg (by simp)]; exact h
     rw [this k _ (jE hi hc hg).1 hx] at hb; cases hb
   have hm : jK W ∈ W.todo := by
    unfold jK
    rw [List.getD_eq_getElem?_getD, List.getElem?_eq_getElem (show W.todo.length - 1 < W.todo.length by omega)]
    exact List.getElem_mem _
   have hp : Wtr6 f (popW W) := fun k hk => (h k hk).keeps fun t l hT => ⟨hT.lo, hT.hi, hT.few, hT.seen, hT.out⟩
   have hpt : Wtd6 (popW W) := fun t ht' => ht t (List.mem_of_mem_take ht')
   exact Pz hc hr k _ (jE hi hc hg).1 (aAm q1 hc q3 hpt) (Vr q1 hc hr q3 (ht _ hm) hbs hp) hb
  ·rename_i hg; rw [if_neg hg]; exact h
theorem aAw {f : FnT} (hc : Cok f) (hr : ∀ i ∈ f.code, i.op = 30 → 0 ≤ i.a ∧ i.a < f.regs) (hb : (bK f).bad = false) : Wtr6 f (bK f) := by
 obtain ⟨i0, m0⟩ := jI f
 obtain ⟨q1, q2⟩ := cK (n := 0) (l := []) i0 (Int.le_refl 0)
 have h0 : Wtr6 f (W0 f) := fun k hk => by
  exfalso
  have : (W0 f).seen.getD k false = false := by
   show (List.replicate f.code.length false).getD k false = false
   simp only [List.getD, List.getElem?_replicate]
   split <;> rfl
  rw [this] at hk; cases hk
 have t0 : Wtd6 (W0 f) := fun t ht => by cases ht
 exact Pz hc hr _ _ q1 (lC i0 (Int.le_refl 0) t0) (lJ i0 (Int.le_refl 0) (TrG.nil _ _) h0) hb
theorem Te {p : aH} {f : FnT} (h : kW p f = true) : ∀ i ∈ f.code, i.op = 30 → 0 ≤ i.a ∧ i.a < f.regs := by
 intro i hi ho
 obtain ⟨k, hk, rfl⟩ := List.getElem_of_mem hi
 have h1 := List.all_eq_true.1 h k (List.mem_range.2 hk)
 rw [show f.code.getD k ins0 = f.code[k] by simp [List.getD, List.getElem?_eq_getElem hk]] at h1
 have h2 : lP p f f.code[k] = true := by
  unfold fE at h1
  split at h1
  ·cases h1
  ·split at h1
   ·cases h1
   ·rename_i h; simpa using h
 simp only [lP, Bool.and_eq_true] at h2
 have h3 := h2.1.1.2
 have e : fB (f.code[k]).op 0 = 114 := by rw [ho]; rfl
 rw [e] at h3
 have h4 : wiF (f.code[k]).a 0 (f.regs - 1) = true := h3
 have h5 := pX.1 h4
 exact ⟨h5.1, by omega⟩
theorem sM {p : aH} {s : aC} {f : aR} (hw : Pwf p) (hp : checkF p = 0) (h : cU p s f = true) : f.tries.length ≤ 20 ∧ f.regs.length ≤ 60 ∧ (f.regs.length : Int) = (p.fns.getD f.fn.toNat fn0).regs ∧ TrG (p.fns.getD f.fn.toNat fn0) (bK (p.fns.getD f.fn.toNat fn0)) f.tries := by
 obtain ⟨⟨g1, g2⟩, g3, g4⟩ := iI h
 obtain ⟨F, hF⟩ : ∃ F, p.fns[f.fn.toNat]? = some F := ⟨p.fns[f.fn.toNat]'(by omega), List.getElem?_eq_getElem _⟩
 have eF : p.fns.getD f.fn.toNat fn0 = F := by rw [List.getD_eq_getElem?_getD, hF]; rfl
 obtain ⟨hpok, hfun, hcok, hbad⟩ := Ba hw hp (List.mem_of_getElem? hF)
 have hord : kW p F = true := by
  unfold bP at hfun
  split at hfun
  ·cases hfun
  ·split at hfun
   ·cases hfun
   ·rename_i h; simpa using h
 have hr60 := (hpok.fn F (List.mem_of_getElem? hF)).2.1
 unfold cU at h
 simp only [Bool.and_eq_true, decide_eq_true_eq] at h
 obtain ⟨⟨⟨⟨⟨⟨⟨_, _⟩, _⟩, b4⟩, _⟩, b6⟩, b7⟩, _⟩ := h
 rw [eF] at b4 b6 b7 ⊢
 have hT := qT (zI hcok) b6
 have hfew := hT.few
 rw [← b7] at hfew
 refine ⟨hfew, by omega, b4, ?_⟩
 have := aAw hcok (Te hord) hbad f.pc.toNat b6
 rw [← b7] at this
 exact this
structure iQ (s t : aC) : Prop where
 texts : s.texts.length ≤ t.texts.length
 cells : ∀ (k : Nat) (c : bM), s.cells[k]? = some c → ∃ c', t.cells[k]? = some c' ∧ c'.kind = c.kind ∧ (c.kind = 4 → c'.num = c.num)
theorem iQ.at {s t : aC} (h : iQ s t) {n : Nat} (hn : n < s.cells.length) : n < t.cells.length ∧ (t.cells.getD n dZ).kind = (s.cells.getD n dZ).kind ∧ ((s.cells.getD n dZ).kind = 4 → (t.cells.getD n dZ).num = (s.cells.getD n dZ).num) := by
 have h0 : s.cells[n]? = some s.cells[n] := List.getElem?_eq_getElem hn
 obtain ⟨c', h1, h2, h3⟩ := h.cells n _ h0
 have e1 : s.cells.getD n dZ = s.cells[n] := by rw [List.getD_eq_getElem?_getD, h0]; rfl
 have e2 : t.cells.getD n dZ = c' := by rw [List.getD_eq_getElem?_getD, h1]; rfl
 rw [e1, e2]
 exact ⟨(List.getElem?_eq_some_iff.1 h1).1, h2, h3⟩
theorem iQ.fits {s t : aC} (h : iQ s t) {v : Int × Int} (hv : fitsF s v = true) : fitsF t v = true := by
 unfold fitsF at hv ⊢
 simp only [Bool.and_eq_true] at hv ⊢
 refine ⟨hv.1, ?_⟩
 have h2 := hv.2
 by_cases k4 : v.1 = 4
 ·rw [if_pos k4] at h2 ⊢
  have := h.texts
  simp at h2 ⊢; omega
 ·rw [if_neg k4] at h2 ⊢
  by_cases k5 : v.1 = 5
  ·rw [if_pos k5] at h2 ⊢
   have h0 := wI hv.1 (.inr k5)
   simp only [Bool.and_eq_true, decide_eq_true_eq, Bool.not_eq_true', decide_eq_false_iff_not] at h2 ⊢
   obtain ⟨q1, q2, _⟩ := h.at (n := v.2.toNat) (by omega)
   exact ⟨by omega, by rw [q2]; exact h2.2⟩
  ·rw [if_neg k5]
theorem iQ.ref {s t : aC} (h : iQ s t) {v : Int × Int} {q : Int} (hv : refF s v q = true) : refF t v q = true := by
 unfold refF at hv ⊢
 simp only [Bool.and_eq_true, decide_eq_true_eq] at hv ⊢
 obtain ⟨⟨⟨a, b⟩, c⟩, d⟩ := hv
 obtain ⟨q1, q2, _⟩ := h.at (n := v.2.toNat) (by omega)
 exact ⟨⟨⟨a, b⟩, by omega⟩, by rw [q2]; exact d⟩
theorem iQ.is {s t : aC} (h : iQ s t) {v : Int × Int} {q : Int} (hv : isF' s v q = true) : isF' t v q = true := by
 unfold isF' at hv ⊢
 simp only [Bool.and_eq_true, decide_eq_true_eq] at hv ⊢
 obtain ⟨⟨a, b⟩, c⟩ := hv
 have hr := Cb (s := s) (n := v.2) (by rw [← b]; exact a)
 obtain ⟨_, q2, _⟩ := h.at (n := v.2.toNat) (by omega)
 exact ⟨⟨h.fits a, b⟩, by rw [q2]; exact c⟩
theorem iQ.all {s t : aC} (h : iQ s t) {l : List (Int × Int)} (hv : l.all (fitsF s) = true) : l.all (fitsF t) = true :=
 List.all_eq_true.2 fun v hm => h.fits (List.all_eq_true.1 hv v hm)
theorem iQ.held {s t : aC} (h : iQ s t) {f : aR} (hf : nB s f = true) : nB t f = true := by
 unfold nB at hf ⊢
 simp only [Bool.and_eq_true] at hf ⊢
 exact ⟨h.all hf.1, h.fits hf.2⟩
theorem iQ.frame {s t : aC} (h : iQ s t) {p : aH} {f : aR} (hf : cU p s f = true) : cU p t f = true := by
 unfold cU at hf ⊢
 simp only [Bool.and_eq_true, decide_eq_true_eq] at hf ⊢
 obtain ⟨⟨⟨⟨⟨⟨⟨a1, a2⟩, a3⟩, a4⟩, a5⟩, a6⟩, a7⟩, a8⟩ := hf
 have hr := a2
 unfold refF at hr
 simp only [Bool.and_eq_true, decide_eq_true_eq] at hr
 obtain ⟨_, _, q3⟩ := h.at (n := f.self.2.toNat) (by have := hr.1.2; have := hr.1.1.2; omega)
 exact ⟨⟨⟨⟨⟨⟨⟨a1, h.ref a2⟩, by rw [q3 hr.2]; exact a3⟩, a4⟩, a5⟩, a6⟩, a7⟩, h.all a8⟩
theorem iQ.saved {s t : aC} (h : iQ s t) {p : aH} {f : aR} (hf : fJ p s f = true) : fJ p t f = true := by
 unfold fJ at hf ⊢
 simp only [Bool.and_eq_true] at hf ⊢
 exact ⟨⟨⟨⟨h.frame hf.1.1.1.1, hf.1.1.1.2⟩, hf.1.1.2⟩, hf.1.2⟩, hf.2⟩
theorem iQ.heap {s t : aC} (h : iQ s t) {p : aH} {c : bM} (hc : dJ p s c = true) : dJ p t c = true := by
 unfold dJ at hc ⊢
 split at hc
 ·rename_i h1; rw [if_pos h1]; exact hc
 ·rename_i h1
  rw [if_neg h1]
  split at hc
  ·rename_i h2
   rw [if_pos h2]
   simp only [Bool.or_eq_true] at hc ⊢
   exact hc.imp id h.saved
  ·rename_i h2; rw [if_neg h2]
theorem iQ.cell {s t : aC} (h : iQ s t) (hsh : t.shapes = s.shapes) {c : bM} (hc : eB s c = true) : eB t c = true := by
 unfold eB at hc ⊢
 simp only [Bool.and_eq_true] at hc ⊢
 obtain ⟨⟨⟨⟨⟨a1, a2⟩, a3⟩, a4⟩, a5⟩, a6⟩ := hc
 have hn : numF t c = numF s c := by unfold numF; rw [hsh]
 refine ⟨⟨⟨⟨⟨a1, by rw [hn]; exact a2⟩, ?_⟩, a4⟩, h.all a5⟩, List.all_eq_true.2 fun f hf => h.held (List.all_eq_true.1 a6 f hf)⟩
 unfold hZ at a3 ⊢
 split at a3
 ·rename_i h1; rw [if_pos h1, hn, hsh]; exact a3
 ·rename_i h1
  rw [if_neg h1]
  split at a3
  ·rename_i h2; rw [if_pos h2]
  ·rename_i h2
   rw [if_neg h2]
   split at a3
   ·rename_i h3; rw [if_pos h3]; exact a3
   ·rename_i h3
    rw [if_neg h3]
    split at a3
    ·rename_i h4
     rw [if_pos h4]
     rw [Bool.not_eq_true', List.any_eq_false] at a3 ⊢
     intro v hv
     have := a3 v hv
     simp only [Bool.not_eq_true, Bool.not_eq_false'] at this ⊢
     exact h.is this
    ·rename_i h4; rw [if_neg h4]; exact a3
structure Runs (s t : aC) : Prop where
 keeps : iQ s t
 num : ∀ (k : Nat) (c : bM), s.cells[k]? = some c → c.kind = 5 → c.num = 1 → ∃ c', t.cells[k]? = some c' ∧ c'.num = 1
theorem Runs.goes {s t : aC} (h : Runs s t) {k : Nat} {f : aR} (hf : iP s k f = true) : iP t k f = true := by
 unfold iP at hf ⊢
 simp only [Bool.and_eq_true] at hf ⊢
 refine ⟨⟨hf.1.1, h.keeps.ref hf.1.2⟩, ?_⟩
 have hr := hf.1.2
 unfold refF at hr
 simp only [Bool.and_eq_true, decide_eq_true_eq] at hr
 have hlt : f.gen.toNat < s.cells.length := by have := hr.1.2; have := hr.1.1.2; omega
 have h0 : s.cells[f.gen.toNat]? = some s.cells[f.gen.toNat] := List.getElem?_eq_getElem hlt
 have e1 : s.cells.getD f.gen.toNat dZ = s.cells[f.gen.toNat] := by rw [List.getD_eq_getElem?_getD, h0]; rfl
 have h3 := hr.2
 have h4 := hf.2
 simp only [decide_eq_true_eq] at h4
 rw [e1] at h4
 simp only [e1] at h3
 obtain ⟨c', q1, q2⟩ := h.num _ _ h0 h3 h4
 have e2 : t.cells.getD f.gen.toNat dZ = c' := by rw [List.getD_eq_getElem?_getD, q1]; rfl
 rw [e2]; simp [q2]
theorem Runs.on {s t : aC} (h : iQ s t) {p : aH} {low : Int} {f : aR} (hf : onF p s low f = true) : onF p t low f = true := by
 unfold onF at hf ⊢
 simp only [Bool.and_eq_true] at hf ⊢
 exact ⟨⟨⟨h.frame hf.1.1.1, hf.1.1.2⟩, hf.1.2⟩, hf.2⟩
theorem Runs.stack {s t : aC} (h : Runs s t) {p : aH} : ∀ {fs : List aR} {k : Nat} {low : Int}, jV p s k low fs → jV p t k low fs
 | [], _, _, _ => trivial
 | f :: fs, k, low, hs => ⟨⟨Runs.on h.keeps hs.1.1, fun h0 => h.goes (hs.1.2 h0)⟩, Runs.stack h hs.2⟩
theorem pN {p : aH} {s : aC} : ∀ {fs : List aR} {k : Nat} {low : Int} {i : Nat} {f : aR}, jV p s k low fs → fs[i]? = some f → ∃ low', onF p s low' f = true ∧ (0 ≤ f.gen → iP s (k + i) f = true)
 | f0 :: fs, k, low, 0, f, h, hf => by simp at hf; subst hf; exact ⟨_, h.1⟩
 | f0 :: fs, k, low, i + 1, f, h, hf => by
  have := pN (i := i) h.2 (by simpa using hf)
  rwa [show k + 1 + i = k + (i + 1) by omega] at this
 | [], _, _, _, _, _, hf => by simp at hf
theorem Au {p : aH} {s : aC} {low : Int} {f : aR} (h : onF p s low f = true) : cU p s f = true := by
 unfold onF at h
 simp only [Bool.and_eq_true] at h
 exact h.1.1.1
theorem Sc (n : Nat) {C : Ctx} {f : Nat} {args : List AV} {rs0 : List (Nat × Nat × Res)} {xs ys : List RV} {y z : AV} (hf : FC C f args rs0 (.tup [.agg (xs.map .r), y, z]) []) (h : rowB (nilB n) xs ys) : FC C f args rs0 (.tup [.agg (ys.map .r), y, z]) [] := by
 refine aA6 hf fun cur g w N v hv => ?_
 cases hv with
 | tup _ us hs hu =>
  refine .tup _ us hs fun j x u hx hju => ?_
  match j with
  | 0 =>
   simp at hx; subst hx
   exact AR.nilD (xA h) (fun j x y hx hy => Ia n x y (zW h hx hy)) (hu 0 _ u rfl hju)
  | 1 => exact hu 1 x u hx hju
  | 2 => exact hu 2 x u hx hju
  | j + 3 => simp at hx
theorem Ug (l : List (Int × Int)) : ndRs (l.map valN) = l.map valR := by rw [sD, List.map_map]; rfl
theorem lB (l : List aR) : ndRs (l.map fZ) = l.map bA := by
 rw [sD, List.map_map]
 refine List.map_congr_left fun f _ => ?_
 show [_, _, _, _, _, _, RV.rs 2 (ndRs (f.regs.map valN)), _] = _
 rw [Ug]; rfl
@[go_sem] theorem Iw (n : Nat) (st : St) : ∀ (l : List bM) (K : List Loc → List (List RV) → Prop), nD (fI n st) (l.map cV) K = K [] (l.map aX)
 | [], K => rfl
 | x :: l, K => by
  have e : aX x = [.v (.int .i64 x.kind), .v (.int .i64 x.num), .rs 2 (x.vals.map valR), .rs 8 (ndRs (x.frames.map fZ))] := by rw [lB]
  cases n <;> (simp only [List.map_cons, nD, nX, fI, e]; rw [Iw _ st l]; rfl)
@[go_sem] theorem Dh (n : Nat) (st : St) : ∀ (l : List aP) (K : List Loc → List (List RV) → Prop), nD (fI n st) (l.map aU) K = K [] (l.map aJ)
 | [], K => rfl
 | x :: l, K => by
  have e : aJ x = [.rs 8 (ndRs (x.frames.map fZ)), .v (.int .i64 x.state), .v (.int .i64 x.on), .v (.int .i64 x.val.1), .v (.int .i64 x.val.2)] := by rw [lB]
  cases n <;> (simp only [List.map_cons, nD, nX, fI, e]; rw [Dh _ st l]; rfl)
@[go_sem] theorem aK6 (σ δ : Nat → Nat) (l : List bM) : (l.map cV).map (renL σ δ) = l.map cV := by rw [List.map_map]; exact List.map_congr_left fun x _ => rfl
@[go_sem] theorem aGs (σ δ : Nat → Nat) (l : List aP) : (l.map aU).map (renL σ δ) = l.map aU := by rw [List.map_map]; exact List.map_congr_left fun x _ => rfl
theorem Fm (c : bM) : vI (cV c) (aX c) := ⟨rfl, rfl, rfl, congrArg (RV.rs 8) (lB _).symm, trivial⟩
theorem xL (t : aP) : vI (aU t) (aJ t) := ⟨congrArg (RV.rs 8) (lB _).symm, rfl, rfl, rfl, rfl, trivial⟩
theorem aKx (s : aC) (hm : Sml s) (a b : Nat) (hab : (a == b) = false) : NOk (C := Cx) 84 [(7, a), (16, b)] [aO s] (.agg [.os 7 1, aS s.shapes, bZ s.texts, .os 16 1, fP s.ends, aS s.said, Iv s.asked, Iv s.steps]) [ownC 7 1 s.cells, ownT 16 1 s.threads] :=
 ⟨aL4 s hm, rfl, by simp [ndB, memN, show a ≠ b by simpa using hab], rfl, rfl, fun _ _ => rfl, rfl, fun p hp => by
  rcases List.mem_cons.1 hp with rfl | hp
  ·exact Yj s.cells s.threads 7
  ·rcases List.mem_cons.1 hp with rfl | hp
   ·exact Yj s.cells s.threads 16
   ·simp at hp, fun q hq => by
  rcases List.mem_cons.1 hq with rfl | hq
  ·exact ⟨rfl, Nat.le_refl _⟩
  ·rcases List.mem_cons.1 hq with rfl | hq
   ·exact ⟨rfl, Nat.le_refl _⟩
   ·simp at hq⟩
theorem aAg {s : aC} (h : cW s = 0) {c : bM} (hc : c ∈ s.cells) (k5 : c.kind = 5) (n0 : c.num = 0) : c.frames.length = 1 := by
 have := (qC.1 h).cells c hc
 unfold eB at this
 simp only [Bool.and_eq_true, decide_eq_true_eq] at this
 obtain ⟨⟨⟨_, a4⟩, _⟩, _⟩ := this
 have : dE c = 1 := if_pos ⟨k5, n0⟩
 rw [this] at a4; omega
theorem Lr {p : aH} {s : aC} (hw : Pwf p) (hR : Hp p s) : Sml s ∧ (∀ t ∈ s.threads, t.frames.length ≤ 30 ∧ ∀ f ∈ t.frames, (f.tries.length ≤ 1000000000 ∧ ∀ y ∈ f.tries, 0 ≤ y.1 ∧ y.1 < (f.regs.length : Int)) ∧ (0 ≤ f.gen → f.gen < (s.cells.length : Int))) := by
 have hH := qC.1 hR.heap
 have hfew := hR.few
 unfold yV at hfew
 simp only [Bool.or_eq_false_iff, decide_eq_false_iff_not, List.any_eq_false, decide_eq_true_eq] at hfew
 have h100 : s.shapes.length ≤ 100 := (Sh.good_ups hH.shapes 0).2.1
 have fr : ∀ f : aR, cU p s f = true → f.regs.length ≤ 1000000000 ∧ f.tries.length ≤ 1000000000 ∧ ∀ y ∈ f.tries, 0 ≤ y.1 ∧ y.1 < (f.regs.length : Int) := fun f hf => by
  obtain ⟨a1, a2, a3, a4⟩ := sM hw hR.prog hf
  refine ⟨by omega, by omega, fun y hy => ?_⟩
  obtain ⟨j, hj⟩ := List.mem_iff_getElem?.1 hy
  rw [a3]; exact (a4 j y hj).1
 have thr : ∀ t ∈ s.threads, t.frames.length ≤ 30 ∧ ∀ f ∈ t.frames, cU p s f = true ∧ (0 ≤ f.gen → f.gen < (s.cells.length : Int)) := fun t ht => by
  refine ⟨by have := hfew.2 t ht; omega, fun f hf => ?_⟩
  obtain ⟨j, hj⟩ := List.mem_iff_getElem?.1 hf
  obtain ⟨low, ho, hg⟩ := pN (hR.threads t ht).2 hj
  refine ⟨Au ho, fun h0 => ?_⟩
  have := hg h0
  unfold iP at this
  simp only [Bool.and_eq_true] at this
  exact (Hl this.1.2).2.1
 refine ⟨⟨by have := hH.cellN; omega, by omega, by have := hH.textN; omega, by omega, by have := hH.endN; omega, by have := hH.saidN; omega, fun c hc => ?_, fun c hc => ?_, fun t ht => ⟨by have := (thr t ht).1; omega, fun f hf => ⟨(fr f ((thr t ht).2 f hf).1).1, (fr f ((thr t ht).2 f hf).1).2.1⟩⟩⟩, fun t ht => ⟨(thr t ht).1, fun f hf => ⟨(fr f ((thr t ht).2 f hf).1).2, ((thr t ht).2 f hf).2⟩⟩⟩
 ·have := hH.valN c hc
  unfold bigC at this
  simp at this; omega
 ·have hcf := hH.cells c hc
  by_cases hg : c.kind = 5 ∧ c.num = 0
  ·have h1 := aAg hR.heap hc hg.1 hg.2
   obtain ⟨f, hf⟩ := List.length_eq_one_iff.1 h1
   have hh := hR.cells c hc
   unfold dJ at hh
   rw [if_neg (by rw [hg.1]; decide), if_pos hg.1, hg.2, hf] at hh
   have hs : fJ p s f = true := by simpa using hh
   unfold fJ at hs
   simp only [Bool.and_eq_true] at hs
   have hfr := fr f hs.1.1.1.1
   rw [hf]
   exact ⟨by simp, fun g hg' => by simp at hg'; subst hg'; exact ⟨hfr.1, hfr.2.1⟩⟩
  ·have h1 : dE c = 0 := if_neg hg
   unfold eB at hcf
   simp only [Bool.and_eq_true, decide_eq_true_eq] at hcf
   have h2 := hcf.1.1.2
   rw [h1] at h2
   have h3 : c.frames = [] := List.length_eq_zero_iff.1 (by omega)
   rw [h3]
   exact ⟨by simp, fun g hg' => by simp at hg'⟩
noncomputable def askE (p : aH) (s : aC) (th : Int) : Int :=
 if eO p s ≠ 0 then eO p s else if th < 0 ∨ (s.threads.length : Int) ≤ th then 5 else if (s.threads.getD th.toNat wZ).state ≠ 0 then 8 else 0
theorem Ce (p : aH) (s : aC) (th : Int) (hw : Pwf p) (hs : Swf s) : FC Cx 90 [bQ p, aO s, Iv th] [] (Iv (askE p s th)) [] := by
 have l1 : (s.threads.map aJ).length = s.threads.length := List.length_map ..
 unfold askE
 by_cases hf : eO p s = 0
 case neg =>
  rw [if_pos hf]
  have d0 : decide (eO p s = 0) = false := by simpa using hf
  clear hf
  refine aD [lH] Tryz.func90 Tryz.ntmps90 Tryz.results90 ?_
  refine goR ?_
  refine fzB 3 ?_
  refine fzB 4 ?_
  (any_goals refine go lv90 0 ?_)
  repeat' (first | (refine Br.go (fun h h' => ?_) (fun h h' => ?_)) | (refine Br.mk (fun h => ?_) (fun h => ?_)))
  all_goals (try simp only [go_sem])
 rw [if_neg (by simpa using hf)]
 have d0 : decide (eO p s = 0) = true := by simpa using hf
 by_cases h1 : th < 0
 ·rw [if_pos (.inl h1)]
  have d2 : decide (th < 0) = true := by simpa using h1
  clear hf h1
  refine aD [lH] Tryz.func90 Tryz.ntmps90 Tryz.results90 ?_
  refine goR ?_
  refine fzB 3 ?_
  refine fzB 4 ?_
  (any_goals refine go lv90 0 ?_)
  repeat' (first | (refine Br.go (fun h h' => ?_) (fun h h' => ?_)) | (refine Br.mk (fun h => ?_) (fun h => ?_)))
  all_goals (try simp only [go_sem])
 have d2 : decide (th < 0) = false := by simpa using h1
 by_cases h2 : (s.threads.length : Int) ≤ th
 ·rw [if_pos (.inr h2)]
  have d3 : decide ((s.threads.length : Int) ≤ th) = true := by simpa using h2
  clear hf h1 h2
  refine aD [lH] Tryz.func90 Tryz.ntmps90 Tryz.results90 ?_
  refine goR ?_
  refine fzB 3 ?_
  refine fzB 4 ?_
  (any_goals refine go lv90 0 ?_)
  repeat' (first | (refine Br.go (fun h h' => ?_) (fun h h' => ?_)) | (refine Br.mk (fun h => ?_) (fun h => ?_)))
  all_goals (try simp only [go_sem])
 have d3 : decide ((s.threads.length : Int) ≤ th) = false := by simpa using h2
 rw [if_neg (by omega)]
 obtain ⟨t, ht⟩ : ∃ t, s.threads[th.toNat]? = some t := ⟨s.threads[th.toNat]'(by omega), List.getElem?_eq_getElem _⟩
 have hg := aE aJ ht ([] : List RV)
 have et : s.threads.getD th.toNat wZ = t := by rw [List.getD_eq_getElem?_getD, ht]; rfl
 rw [et]
 by_cases h3 : t.state = 0
 ·rw [if_neg (by simpa using h3)]
  have d4 : decide (t.state = 0) = true := by simpa using h3
  clear hf et h3
  refine aD [lH] Tryz.func90 Tryz.ntmps90 Tryz.results90 ?_
  refine goR ?_
  refine fzB 3 ?_
  refine fzB 4 ?_
  (any_goals refine go lv90 0 ?_)
  repeat' (first | (refine Br.go (fun h h' => ?_) (fun h h' => ?_)) | (refine Br.mk (fun h => ?_) (fun h => ?_)))
  all_goals (try simp only [go_sem])
 ·rw [if_pos h3]
  have d4 : decide (t.state = 0) = false := by simpa using h3
  clear hf et h3
  refine aD [lH] Tryz.func90 Tryz.ntmps90 Tryz.results90 ?_
  refine goR ?_
  refine fzB 3 ?_
  refine fzB 4 ?_
  (any_goals refine go lv90 0 ?_)
  repeat' (first | (refine Br.go (fun h h' => ?_) (fun h h' => ?_)) | (refine Br.mk (fun h => ?_) (fun h => ?_)))
  all_goals (try simp only [go_sem])
theorem Qc (s : aC) (th : Nat) (t : aP) (f : aR) (ht : s.threads[th]? = some t) (hf : t.frames[t.frames.length - 1]? = some f) (hl : t.frames.length ≤ 1000000000) : FC Cx 91 [aO s, Iv th] [] (dO f) [] := by
 have l1 : (s.threads.map aJ).length = s.threads.length := List.length_map ..
 have l2 : (t.frames.map bA).length = t.frames.length := List.length_map ..
 have hk := (List.getElem?_eq_some_iff.1 ht).1
 have hfk := (List.getElem?_eq_some_iff.1 hf).1
 have t1 : Int.toNat (th : Int) = th := by omega
 have t2 : Int.toNat ((t.frames.length : Int) - 1) = t.frames.length - 1 := by omega
 have w1 : IntKind.i64.wrap ((t.frames.length : Int) - 1) = (t.frames.length : Int) - 1 := by rw [aL] <;> omega
 have hg := aE aJ ht ([] : List RV)
 have hgf := aE bA hf ([] : List RV)
 obtain ⟨fn, pc, tov, gen, ⟨sk, sn⟩, regs, tries⟩ := f
 refine aD [] Tryz.func91 Tryz.ntmps91 Tryz.results91 ?_
 refine goR ?_
 refine fzB 2 ?_
 (any_goals refine go lv91 0 ?_)
 repeat' (first | (refine Br.go (fun h h' => ?_) (fun h h' => ?_)) | (refine Br.mk (fun h => ?_) (fun h => ?_)))
 all_goals (try simp only [go_sem])
structure Em (p : aH) (s : aC) (th : Int) (n : Nat) (t : aP) (f : aR) : Prop where
 th : th = n
 fault : eO p s = 0
 at' : s.threads[n]? = some t
 state : t.state = 0
 last : t.frames[t.frames.length - 1]? = some f
theorem aMk {p : aH} {s : aC} {th : Int} (h : askE p s th = 0) : ∃ n t f, Em p s th n t f := by
 unfold askE at h
 by_cases hf : eO p s = 0
 case neg => rw [if_pos hf] at h; exact absurd h hf
 rw [if_neg (by simpa using hf)] at h
 by_cases h0 : th < 0 ∨ (s.threads.length : Int) ≤ th
 ·rw [if_pos h0] at h; cases h
 rw [if_neg h0] at h
 obtain ⟨t, ht⟩ : ∃ t, s.threads[th.toNat]? = some t := ⟨s.threads[th.toNat]'(by omega), List.getElem?_eq_getElem _⟩
 have et : s.threads.getD th.toNat wZ = t := by rw [List.getD_eq_getElem?_getD, ht]; rfl
 rw [et] at h
 have h3 : t.state = 0 := by
  by_cases h3 : t.state = 0
  ·exact h3
  ·rw [if_pos h3] at h; cases h
 have hR := Bs.1 hf
 have hH := (hR.threads t (List.mem_of_getElem? ht)).1
 unfold wJ at hH
 simp only [Bool.and_eq_true] at hH
 have hn : t.frames.length ≠ 0 := fun e => by
  have := hH.1.1.1.1
  rw [h3, e] at this
  exact absurd this (by decide)
 exact ⟨th.toNat, t, _, by omega, hf, ht, h3, List.getElem?_eq_getElem (show t.frames.length - 1 < t.frames.length by omega)⟩
def FinU (C : Ctx) (rl : List ResultVar) (r : AV) (rs1 : List (Nat × Nat × Res)) (x : Exit) (st : St) : Prop := ∃ s', (∀ e a w, S C e st a w → S C e s' a w) ∧ FinM C rl r rs1 x s'
theorem aMd {C : Ctx} (T : List (Ct C)) {f : Nat} {fn : Func} {body : Code} {args : List AV} {rs0 rs1 : List (Nat × Nat × Res)} {r : AV} (hf : C.P.funcs[f]? = some fn) (hb : fn.body = some body) {nt : Nat} (hnt : fn.ntmps = nt) (hn : args.length ≤ nt) {rl : List ResultVar} (hr : fn.results = rl.toArray)
  (hw : bI (domR rs1) r = true) (hi : ∀ k, bN (domR rs1) (aB k rs1).2) (h : Rn C T [.c body] ⟨nt, argT 0 args, rs0⟩ (FinU C rl r rs1)) : FC C f args rs0 r rs1 := by
 refine jR T hf hb hnt hn hr hw hi ?_
 unfold Rn at h ⊢
 exact Ju (h : lwp C body _ (ck C [] (FinU C rl r rs1)))
theorem aBv {C : Ctx} {rl : List ResultVar} {r : AV} {rs1 : List (Nat × Nat × Res)} {x : Exit} {st : St} (h : FinM C rl r rs1 x st) : FinU C rl r rs1 x st := ⟨st, fun _ _ _ h => h, h⟩
theorem yC {C : Ctx} {rl : List ResultVar} {r : AV} {rs1 : List (Nat × Nat × Res)} {x : Exit} {st st' : St} (k i j kd : Nat) {ver vd el' sz' el sz : Nat} {rows' : List (List AV)} {row : List AV} (rows : List (List NV)) (hk : aB k st.rs = (ver, .sl el' sz' rows')) (hi : rows'[i]? = some row) (hj : row[j]? = some (.os kd vd)) (hkk : k ≠ kd) (hkd : aB kd st.rs = (vd, .sl el sz (rows.map (List.map nvC))))
  (hst : ∀ K0 : St → Prop, Imp (K0 st') (K0 { st with rs := putR kd (vd + 1, .gone) (putR k (ver, .sl el' sz' (rows'.set i (row.set j (.nd el sz rows)))) st.rs) })) (h : FinU C rl r rs1 x st') : FinU C rl r rs1 x st := by
 obtain ⟨s', h1, h2⟩ := (hst fun s => FinU C rl r rs1 x s).run h
 exact ⟨s', fun e a w ⟨ho, g, hs⟩ => h1 e a w ⟨ho, hs.closeS hk hi hj hkk hkd⟩, h2⟩
def intoF (fs : List aR) (rg : Int) (v : Int × Int) : List aR :=
 if 0 ≤ rg then (match fs[fs.length - 1]? with | some f => fs.set (fs.length - 1) { f with regs := f.regs.set rg.toNat v } | none => fs) else fs
theorem aAv (ts : List aP) (k : Nat) : bN (domR [ownT 0 0 ts]) (aB k [ownT 0 0 ts]).2 := by
 have e : aB k [ownT 0 0 ts] = if k = 0 then (0, .sl 56 5 (ts.map aU)) else (0, .gone) := rfl
 rw [e]
 split
 ·exact fun row h => by obtain ⟨x, _, rfl⟩ := List.mem_map.1 h; rfl
 ·trivial
theorem aLf (ts : List aP) (th : Nat) (t : aP) (rg : Int) (v : Int × Int) (ht : ts[th]? = some t) (hl : ts.length ≤ 1000000000) (hl2 : t.frames.length ≤ 1000000000)
  (hto : 0 ≤ rg → ∃ f, t.frames[t.frames.length - 1]? = some f ∧ rg < (f.regs.length : Int) ∧ f.regs.length ≤ 1000000000) :
  FC Cx 144 [.re 0 0 5 th 0, Iv rg, VV v.1 v.2] [ownT 0 0 ts] (.tup []) [ownT 0 0 (ts.set th { t with frames := intoF t.frames rg v })] := by
 have hk := (List.getElem?_eq_some_iff.1 ht).1
 have q2 : (ts.map aU)[th]? = some (aU t) := by rw [List.getElem?_map, ht]; rfl
 have q1 : (ts.map aU).length = ts.length := List.length_map ..
 have hins := aAv (ts.set th { t with frames := intoF t.frames rg v })
 obtain ⟨vk, vn⟩ := v
 dsimp only at *
 by_cases h0 : 0 ≤ rg
 case neg =>
  have d0 : decide (0 ≤ rg) = false := by simpa using h0
  have e : ts.set th { t with frames := intoF t.frames rg (vk, vn) } = ts := by
   unfold intoF
   rw [if_neg h0]
   apply List.ext_getElem?; intro j
   by_cases hj : th = j
   ·subst hj; rw [List.getElem?_set_self hk, ht]
   ·rw [List.getElem?_set_ne hj]
  rw [e] at hins ⊢
  clear hto h0 e
  refine jR []  Tryz.func144 rfl Tryz.ntmps144 (by simp) Tryz.results144 rfl (hins) ?_
  refine rnst ?_
  refine goR ?_
  refine fzB 5 ?_
  (any_goals refine go aBi 0 ?_)
  repeat' (first | (refine Br.go (fun h h' => ?_) (fun h h' => ?_)) | (refine Br.mk (fun h => ?_) (fun h => ?_)))
  all_goals (try simp only [go_sem])
 have d0 : decide (0 ≤ rg) = true := by simpa using h0
 obtain ⟨f, hf, hr1, hr2⟩ := hto h0
 have hfk := (List.getElem?_eq_some_iff.1 hf).1
 obtain ⟨k, hkn⟩ : ∃ k, t.frames.length = k + 1 := ⟨t.frames.length - 1, by omega⟩
 rw [hkn, Nat.add_sub_cancel] at hf
 have e : ts.set th { t with frames := intoF t.frames rg (vk, vn) } = ts.set th { t with frames := t.frames.set k { f with regs := f.regs.set rg.toNat (vk, vn) } } := by
  unfold intoF
  rw [if_pos h0, hkn, Nat.add_sub_cancel, hf]
 rw [e] at hins ⊢
 have q8 : (ts.set th { t with frames := t.frames.set k { f with regs := f.regs.set rg.toNat (vk, vn) } }).map aU = (ts.map aU).set th (aU { t with frames := t.frames.set k { f with regs := f.regs.set rg.toNat (vk, vn) } }) := List.map_set ..
 have lf0 : (t.frames.map frameA2).length = t.frames.length := List.length_map ..
 have e0 : ((k + 1 : Nat) : Int) - 1 = (k : Int) := by omega
 have w1 : IntKind.i64.wrap (k : Int) = (k : Int) := by rw [aL] <;> omega
 have t2 : Int.toNat (k : Int) = k := by omega
 have p2 : (t.frames.map frameA2)[k]? = some (frameA2 f) := by rw [List.getElem?_map, hf]; rfl
 have lr : (f.regs.map valC).length = f.regs.length := List.length_map ..
 obtain ⟨z, hz⟩ : ∃ z, f.regs[rg.toNat]? = some z := ⟨f.regs[rg.toNat]'(by omega), List.getElem?_eq_getElem _⟩
 have gz := aE valC hz ([] : List AV)
 simp only [ownT] at hins ⊢
 rw [q8] at hins ⊢
 clear q8 e hto hz
 refine aMd []  Tryz.func144 rfl Tryz.ntmps144 (by simp) Tryz.results144 rfl (hins) ?_
 refine rnst ?_
 clear hins
 refine goR ?_
 refine fzB 5 ?_
 (any_goals refine go (eM 2 aBi) 0 ?_)
 repeat' (first | (refine Br.go (fun h h' => ?_) (fun h h' => ?_)) | (refine Br.mk (fun h => ?_) (fun h => ?_)))
 have p9 : (t.frames.map frameA2).set k (frameA2 { f with regs := f.regs.set rg.toNat (vk, vn) }) = ((t.frames.set k { f with regs := f.regs.set rg.toNat (vk, vn) }).map fZ).map (List.map nvC) := by
  rw [gD, List.map_set]
 have q7 : ∀ X Y, ((ts.map aU).set th X).set th Y = (ts.map aU).set th Y := fun X Y => List.set_set ..
 have q4 : ∀ X, ((ts.map aU).set th X).length = ts.length := fun X => by rw [List.length_set, q1]
 have q6 : ∀ X, ((ts.map aU).set th X).getD th [] = X := fun X => by rw [List.getD_eq_getElem?_getD, List.getElem?_set_self (by omega)]; rfl
 (apply lE 0 th 0 201; (exact rfl); (exact q2); (exact rfl); (exact rfl); (exact rfl); (intro K0; (try simp only [go_sem, gD]); exact ⟨id⟩))
 generalize hT0 : ts.map aU = T0 at *
 have p7 : ∀ X Y, ((t.frames.map frameA2).set k X).set k Y = (t.frames.map frameA2).set k Y := fun X Y => List.set_set ..
 have p8 : ∀ X, ((t.frames.map frameA2).set k X).length = t.frames.length := fun X => by rw [List.length_set, lf0]
 have p6 : ∀ X, ((t.frames.map frameA2).set k X).getD k [] = X := fun X => by rw [List.getD_eq_getElem?_getD, List.getElem?_set_self (by omega)]; rfl
 (apply lE 201 k 6 202; (exact rfl); (exact p2); (exact rfl); (exact rfl); (exact rfl); (intro K0; (try simp only [go_sem, pA]); exact ⟨id⟩))
 generalize hR : t.frames.map frameA2 = R at *
 have k1 : (f.regs.map valC).set rg.toNat [Iv vk, Iv vn] = ((f.regs.set rg.toNat (vk, vn)).map valN).map (List.map nvC) := by rw [pA, List.map_set]
 clear hR hT0 p2 q2 hf ht
 obtain ⟨fn, pc, tov, gen, ⟨sk, sn⟩, regs, tries⟩ := f
 dsimp only at *
 (any_goals refine go aBi 0 ?_)
 repeat' (first | (refine Br.go (fun h h' => ?_) (fun h h' => ?_)) | (refine Br.mk (fun h => ?_) (fun h => ?_)))
 all_goals (try simp only [go_sem])
 apply yC 201 k 6 202 ((regs.set rg.toNat (vk, vn)).map valN)
 ·exact rfl
 ·exact List.getElem?_set_self (by omega)
 ·exact rfl
 ·decide
 ·exact rfl
 ·intro K0; (try simp only [go_sem, p7]); exact ⟨id⟩
 apply yC 0 th 0 201 ((t.frames.set k ⟨fn, pc, tov, gen, (sk, sn), regs.set rg.toNat (vk, vn), tries⟩).map fZ)
 ·exact rfl
 ·exact List.getElem?_set_self (by omega)
 ·exact rfl
 ·decide
 ·exact congrArg (fun z => (1, Res.sl 61 8 z)) p9
 ·intro K0; (try simp only [go_sem, q7]); exact ⟨id⟩
 refine aBv ?_
 clear p9 k1
 all_goals (try simp only [go_sem])
theorem aNr (ts : List aP) (th : Nat) (t : aP) (rg : Int) (v : Int × Int) (ht : ts[th]? = some t) (hl : ts.length ≤ 1000000000) (hl2 : t.frames.length ≤ 1000000000)
  (hto : 0 ≤ rg → ∃ f, t.frames[t.frames.length - 1]? = some f ∧ rg < (f.regs.length : Int) ∧ f.regs.length ≤ 1000000000) (a d : Nat) :
  QOk (C := Cx) 144 [(0, a, d)] [.re 0 0 5 th 0, Iv rg, VV v.1 v.2] [ownT 0 0 ts] (.tup []) [ownT 0 0 (ts.set th { t with frames := intoF t.frames rg v })] :=
 ⟨aLf ts th t rg v ht hl hl2 hto, rfl, rfl, rfl, rfl, rfl, fun p hp => by simp at hp; subst hp; exact aAv ts 0, fun p hp => by simp at hp; subst hp; exact aAv _ 0⟩
def ogT (t : aP) (f : aR) (v : Int × Int) : aP := { t with frames := intoF (t.frames.take (t.frames.length - 1)) f.tov v }
def ogC (c : bM) (f : aR) : bM := { c with num := 0, frames := [{ f with tov := -1, gen := -1 }] }
def ogE (e : kK) (f : aR) (v : Int × Int) : kK := { e with kind := 15, a := f.gen, val := v }
theorem aT0 (s : aC) (th : Nat) (t : aP) (f : aR) (c : bM) (v : Int × Int) (e : kK) (ht : s.threads[th]? = some t) (hf : t.frames[t.frames.length - 1]? = some f) (hc : s.cells[f.gen.toNat]? = some c) (h0 : 0 ≤ f.gen) (hl : t.frames.length ≤ 1000000000) (htl : s.threads.length ≤ 1000000000) (hcl : s.cells.length ≤ 1000000000) (hrl : f.regs.length ≤ 1000000000)
  (hto : 0 ≤ f.tov → ∃ f2, (t.frames.take (t.frames.length - 1))[(t.frames.take (t.frames.length - 1)).length - 1]? = some f2 ∧ f.tov < (f2.regs.length : Int) ∧ f2.regs.length ≤ 1000000000) :
  FC Cx 92 [.os 0 0, Iv th, VV v.1 v.2, kD e] [boxS s 0 0 1 0 2 0, ownC 1 0 s.cells, ownT 2 0 s.threads] (cP [ogE e f v])
   [boxS s 0 0 1 0 2 0, ownC 1 0 (s.cells.set f.gen.toNat (ogC c f)), ownT 2 0 (s.threads.set th (ogT t f v))] := by
 have hk := (List.getElem?_eq_some_iff.1 ht).1
 have hck := (List.getElem?_eq_some_iff.1 hc).1
 have t1 : Int.toNat (th : Int) = th := by omega
 have q2 : (s.threads.map aU)[th]? = some (aU t) := by rw [List.getElem?_map, ht]; rfl
 have q1 : (s.threads.map aU).length = s.threads.length := List.length_map ..
 have gc := aE cV hc ([] : List AV)
 have lc : (s.cells.map cV).length = s.cells.length := List.length_map ..
 have hins := Qi s (s.cells.set f.gen.toNat (ogC c f)) (s.threads.set th (ogT t f v))
 have hfk := (List.getElem?_eq_some_iff.1 hf).1
 obtain ⟨k, hkn⟩ : ∃ k, t.frames.length = k + 1 := ⟨t.frames.length - 1, by omega⟩
 have p2 : (t.frames.map frameA2)[k]? = some (frameA2 f) := by rw [List.getElem?_map, show k = t.frames.length - 1 by omega, hf]; rfl
 have lf0 : (t.frames.map frameA2).length = t.frames.length := List.length_map ..
 have e0 : ((k + 1 : Nat) : Int) - 1 = (k : Int) := by omega
 have w1 : IntKind.i64.wrap (k : Int) = (k : Int) := by rw [aL] <;> omega
 have t2 : Int.toNat (k : Int) = k := by omega
 have p3 : ∀ X, List.take k ((t.frames.map frameA2).set k X) = (t.frames.take k).map frameA2 := fun X => by rw [List.take_set_of_le (Nat.le_refl _), List.map_take]
 have p8 : ∀ X, ((t.frames.map frameA2).set k X).length = t.frames.length := fun X => by rw [List.length_set, lf0]
 have p6 : ∀ X, ((t.frames.map frameA2).set k X).getD k [] = X := fun X => by rw [List.getD_eq_getElem?_getD, List.getElem?_set_self (by omega)]; rfl
 -- the thread without its last frame
 have hkk : t.frames.length - 1 = k := by omega
 unfold ogT at hins ⊢
 rw [hkk] at hto hins ⊢
 generalize ht1 : ({ t with frames := t.frames.take k } : aP) = t' at *
 have hts : (s.threads.set th t')[th]? = some t' := List.getElem?_set_self hk
 have hQ := aNr (s.threads.set th t') th t' f.tov v hts (by rw [List.length_set]; exact htl) (by rw [← ht1]; simp; omega) (by rw [← ht1]; exact hto) 2 0
 have hset : (s.threads.set th t').set th { t' with frames := intoF t'.frames f.tov v } = s.threads.set th { t with frames := intoF (t.frames.take k) f.tov v } := by rw [List.set_set, ← ht1]
 rw [hset] at hQ
 generalize hts2 : s.threads.set th { t with frames := intoF (t.frames.take k) f.tov v } = ts2 at *
 have q8 : (s.threads.set th t').map aU = (s.threads.map aU).set th (aU t') := List.map_set ..
 have c8 : (s.cells.set f.gen.toNat (ogC c f)).map cV = (s.cells.map cV).set f.gen.toNat (cV (ogC c f)) := List.map_set ..
 have en : aG Cx.P 144 := aXa
 unfold ogE
 obtain ⟨vk, vn⟩ := v
 dsimp only at *
 simp only [ownC] at hins ⊢
 rw [c8] at hins ⊢
 clear hto hset hts hts2
 refine jR [ctQ 144 [(0, 2, 0)] [.re 0 0 5 th 0, Iv f.tov, VV vk vn] [ownT 0 0 (s.threads.set th t')] (.tup []) [ownT 0 0 ts2] en hQ]  Tryz.func92 rfl Tryz.ntmps92 (by simp) Tryz.results92 rfl (hins) ?_
 refine rnst ?_
 clear hins
 refine goR ?_
 refine fzB 6 ?_
 (apply lE 2 th 0 201; (exact rfl); (exact q2); (exact rfl); (exact rfl); (exact rfl); (intro K0; (try simp only [go_sem, gD]); exact ⟨id⟩))
 (apply lE 201 k 6 202; (exact rfl); (exact p2); (exact rfl); (exact rfl); (exact rfl); (intro K0; (try simp only [go_sem, pA]); exact ⟨id⟩))
 generalize hT0 : s.threads.map aU = T0 at *
 have q4 : ∀ X, (T0.set th X).length = s.threads.length := fun X => by rw [List.length_set, q1]
 have q6 : ∀ X, (T0.set th X).getD th [] = X := fun X => by rw [List.getD_eq_getElem?_getD, List.getElem?_set_self (by omega)]; rfl
 have q7 : ∀ X Y, (T0.set th X).set th Y = T0.set th Y := fun X Y => List.set_set ..
 generalize hR : t.frames.map frameA2 = R at *
 clear hR p2 q2 hf ht
 obtain ⟨fn, pc, tov, gen, ⟨sk, sn⟩, regs, tries⟩ := f
 dsimp only at *
 (any_goals refine go (eM 5 lv92) 0 ?_)
 repeat' (first | (refine Br.go (fun h h' => ?_) (fun h h' => ?_)) | (refine Br.mk (fun h => ?_) (fun h => ?_)))
 all_goals (try simp only [go_sem])
 (apply dM 2 th 0 201 ((t.frames.take k).map fZ); (exact rfl); (exact List.getElem?_set_self (by omega)); (exact rfl); (exact (by decide)); (exact congrArg (fun z => (2, Res.sl 61 8 z)) (gD (t.frames.take k)).symm); (exact rfl); (intro K0; (try simp only [go_sem, q7]); exact ⟨id⟩))
 rw [show T0.set th [AV.nd 61 8 ((t.frames.take k).map fZ), Iv t.state, Iv t.on, Iv t.val.1, Iv t.val.2] = (s.threads.set th t').map aU by rw [q8, ← ht1]]
 clear q8 q4 q6 q7
 generalize s.threads.set th t' = ts1 at *
 generalize hC0 : s.cells.map cV = C0 at *
 have r4 : ∀ X, (C0.set gen.toNat X).length = s.cells.length := fun X => by rw [List.length_set, lc]
 have r6 : ∀ X, (C0.set gen.toNat X).getD gen.toNat [] = X := fun X => by rw [List.getD_eq_getElem?_getD, List.getElem?_set_self (by omega)]; rfl
 have r7 : ∀ X Y, (C0.set gen.toNat X).set gen.toNat Y = C0.set gen.toNat Y := fun X Y => List.set_set ..
 (any_goals refine go (eM 9 lv92) 0 ?_)
 repeat' (first | (refine Br.go (fun h h' => ?_) (fun h h' => ?_)) | (refine Br.mk (fun h => ?_) (fun h => ?_)))
 all_goals (try simp only [go_sem])
 (apply dM 61 0 6 202 (regs.map valN); (exact rfl); (exact rfl); (exact rfl); (exact (by decide)); (exact congrArg (fun z => (1, Res.sl 50 2 z)) (pA regs).symm); (exact rfl); (intro K0; (try simp only [go_sem]); exact ⟨id⟩))
 (apply dM 1 gen.toNat 3 61 [fZ ⟨fn, pc, -1, -1, (sk, sn), regs, tries⟩]; (exact rfl); (exact List.getElem?_set_self (by omega)); (exact rfl); (exact (by decide)); (exact rfl); (exact rfl); (intro K0; (try simp only [go_sem, r7]); exact ⟨id⟩))
 clear r4 r6 r7
 (any_goals refine goN lv92 0 ?_)
 repeat' (first | (refine Br.go (fun h h' => ?_) (fun h h' => ?_)) | (refine Br.mk (fun h => ?_) (fun h => ?_)))
 all_goals (try simp only [go_sem])
 (apply jD 72 [Bw ⟨15, e.step, e.thread, e.fn, e.pc, e.line, gen, e.b, (vk, vn), e.old⟩]; (exact rfl); (exact rfl); (exact rfl); (intro K0; (try simp only [go_sem]); exact ⟨id⟩))
 (any_goals refine go lv92 0 ?_)
 repeat' (first | (refine Br.go (fun h h' => ?_) (fun h h' => ?_)) | (refine Br.mk (fun h => ?_) (fun h => ?_)))
 all_goals (try simp only [go_sem])
 exact ⟨rfl, rfl⟩
section
variable {C : Ctx} {T : List (Ct C)} {r : List It} {st st' : St} {K : Exit → St → Prop} {e : Env} {g : Gh} {a : Act} {w : World}
theorem SR.nilS (h : SR C e st g a w) {k i j ver el' sz' : Nat} (el sz : Nat) {rows' : List (List AV)} {row : List AV} (hk : aB k st.rs = (ver, .sl el' sz' rows')) (hi' : rows'[i]? = some row) (hj : row[j]? = some NilS) :
  SR C e { st with rs := putR k (ver, .sl el' sz' (rows'.set i (row.set j (.nd el sz [])))) st.rs } g a w := by
 obtain ⟨ys, h1, h2, h3, h5⟩ := qZ h hk
 have hrl := h2 row (List.mem_of_getElem? hi')
 have hjs : j < sz' := by rw [← hrl]; exact (List.getElem?_eq_some_iff.1 hj).1
 have hir := (List.getElem?_eq_some_iff.1 hi').1
 have hlt : i * sz' + j < ys.length := by
  rw [h1.1]
  have := Nat.mul_le_mul_right sz' (Nat.succ_le_of_lt hir)
  rw [Nat.succ_mul] at this; omega
 have hv : ys[i * sz' + j]? = some ys[i * sz' + j] := List.getElem?_eq_getElem hlt
 obtain ⟨f1, f2, hf, hcl⟩ := h5.closed (lI h2 hi' hj) rfl hv
 have hvn : ys[i * sz' + j] = .slice none 0 0 := cB (h3 i j row _ _ hi' hj hv)
 generalize hst : ({ st with rs := putR k (ver, .sl el' sz' (rows'.set i (row.set j (.nd el sz [])))) st.rs } : St) = st'
 have hlook : ∀ q, aB q st'.rs = if q = k then (ver, .sl el' sz' (rows'.set i (row.set j (.nd el sz [])))) else aB q st.rs := fun q => by rw [← hst]; exact cQ q k _ _
 have hb : ∀ q b, blk st' g q b → blk st g q b := fun q b hb => by
  refine ⟨?_, hb.2⟩
  have := hb.1
  rw [hlook] at this
  by_cases hq : q = k
  ·subst hq; rw [hk]; simp
  ·rwa [if_neg hq] at this
 refine h.turn2 (by rw [← hst]) (by rw [← hst]) (fun b ⟨q, hq⟩ => ⟨q, hb q b hq⟩) (fun q => .inr ⟨?_, rfl⟩) (fun q q' b h1 h2 => h.uniq q q' b (hb q b h1) (hb q' b h2)) fun hl hN q => ?_
 ·simp only [St.cur, hlook]
  by_cases hq : q = k
  ·subst hq; rw [if_pos rfl, hk]
  ·rw [if_neg hq]
 ·rw [hlook]
  by_cases hq : q = k
  ·subst hq
   rw [if_pos rfl]
   refine ⟨ys, by rw [List.length_set]; exact h1, fun r hr => ?_, fun i2 j2 r x y hr hx hy => ?_, ⟨?_, h5.dup⟩⟩
   ·rcases List.mem_or_eq_of_mem_set hr with hr | rfl
    ·exact h2 r hr
    ·rw [List.length_set]; exact hrl
   ·rw [List.getElem?_set] at hr
    by_cases hii : i = i2
    ·subst hii
     rw [if_pos rfl, if_pos hir] at hr
     cases hr
     rw [List.getElem?_set] at hx
     by_cases hjj : j = j2
     ·subst hjj
      rw [if_pos rfl, if_pos (by omega)] at hx
      cases hx; exact .nd _ _ _ _
     ·rw [if_neg hjj] at hx
      exact hl _ _ (h3 i j2 row x y hi' hx hy)
    ·rw [if_neg hii] at hr
     exact hl _ _ (h3 i2 j2 r x y hr hx hy)
   ·have h6 := hcl _ hN el sz [] [] [] (by rw [hvn]; exact World.ownsRow_nil w 0 el sz) (by simp) .nil
    rw [hvn] at h6
    rw [uV hjs h2 hi', hf]
    simpa [bT] using h6
  ·rw [if_neg hq]; exact (h.res q).mono2 hl hN rfl rfl
theorem aGb (k i j el sz : Nat) {ver el' sz' : Nat} {rows' : List (List AV)} {row : List AV} (hk : aB k st.rs = (ver, .sl el' sz' rows')) (hi : rows'[i]? = some row) (hj : row[j]? = some NilS) (hr : hasC r = true)
  (hst : ∀ K0 : St → Prop, Imp (K0 st') (K0 { st with rs := putR k (ver, .sl el' sz' (rows'.set i (row.set j (.nd el sz [])))) st.rs })) (hk2 : Rn C T r st' K) : Rn C T r st K := by
 have hk' := (hst fun s => Rn C T r s K).run hk2
 exact tU hr (fun e a w ⟨ho, g, hs⟩ => ⟨ho, g, hs.nilS el sz hk hi hj⟩) hk'
end
def oD (p : aH) (f : aR) : InsT := (p.fns.getD f.fn.toNat fn0).code.getD (f.pc - 1).toNat ins0
theorem Cc {p : aH} {s : aC} : ∀ {fs : List aR} {k : Nat} {low : Int} {i : Nat} {f0 f : aR}, jV p s k low fs → fs[i]? = some f0 → fs[i + 1]? = some f → onF p s (f0.regs.length : Int) f = true
 | a :: b :: fs, k, low, 0, f0, f, h, h0, hf => by
  simp at h0 hf; subst h0; subst hf; exact h.2.1.1
 | a :: fs, k, low, i + 1, f0, f, h, h0, hf => Cc (i := i) h.2 (by simpa using h0) (by simpa using hf)
 | [a], _, _, 0, _, _, _, _, hf => by simp at hf
 | [], _, _, _, _, _, _, h0, _ => by simp at h0
theorem Xw {s : aC} (hH : cW s = 0) {c : bM} (hc : c ∈ s.cells) (k5 : c.kind = 5) : c.vals = [] ∧ (c.num = 0 ∨ c.num = 1 ∨ c.num = 2) ∧ (c.num ≠ 0 → c.frames = []) ∧ (c.num = 0 → c.frames.length = 1) := by
 have h := (qC.1 hH).cells c hc
 unfold eB at h
 simp only [Bool.and_eq_true, decide_eq_true_eq] at h
 obtain ⟨⟨⟨⟨⟨_, a2⟩, a3⟩, a4⟩, _⟩, _⟩ := h
 obtain ⟨ck, cn, cv, cf⟩ := c
 dsimp only at k5
 subst k5
 refine ⟨?_, ?_, fun hn => ?_, fun hn => ?_⟩
 ·simpa [hZ] using a3
 ·have a2' : 0 ≤ cn ∧ cn ≤ 2 := by simpa [numF] using a2
  show cn = 0 ∨ cn = 1 ∨ cn = 2
  omega
 ·have : dE ⟨5, cn, cv, cf⟩ = 0 := if_neg fun h => hn h.2
  rw [this] at a4
  exact List.length_eq_zero_iff.1 (by show cf.length = 0; dsimp only at a4; omega)
 ·have : dE ⟨5, cn, cv, cf⟩ = 1 := if_pos ⟨rfl, hn⟩
  rw [this] at a4
  show cf.length = 1; dsimp only at a4; omega
structure YldF (s : aC) (t : aP) (f : aR) (c : bM) : Prop where
 at' : s.cells[f.gen.toNat]? = some c
 kind : c.kind = 5
 vals : c.vals = []
 rg : 0 ≤ f.tov → ∃ f2, (t.frames.take (t.frames.length - 1))[(t.frames.take (t.frames.length - 1)).length - 1]? = some f2 ∧ f.tov < (f2.regs.length : Int) ∧ f2.regs.length ≤ 1000000000
theorem Lw {p : aH} {s : aC} {n : Nat} {t : aP} {f : aR} (hw : Pwf p) (hR : Hp p s) (ht : s.threads[n]? = some t) (hf : t.frames[t.frames.length - 1]? = some f) (h0 : 0 ≤ f.gen) : ∃ c, YldF s t f c := by
 have hT := (hR.threads t (List.mem_of_getElem? ht)).2
 obtain ⟨low, ho, hg⟩ := pN hT hf
 have hfk := (List.getElem?_eq_some_iff.1 hf).1
 have hg := hg h0
 unfold iP at hg
 simp only [Bool.and_eq_true, Bool.not_eq_true', decide_eq_false_iff_not, decide_eq_true_eq] at hg
 obtain ⟨⟨b1, b2⟩, b3⟩ := hg
 obtain ⟨r1, r2, r3⟩ := Hl b2
 have hlt : f.gen.toNat < s.cells.length := by omega
 have hc : s.cells[f.gen.toNat]? = some s.cells[f.gen.toNat] := List.getElem?_eq_getElem hlt
 have e : s.cells.getD f.gen.toNat dZ = s.cells[f.gen.toNat] := by rw [List.getD_eq_getElem?_getD, hc]; rfl
 rw [e] at r3 b3
 obtain ⟨v1, _, _, _⟩ := Xw hR.heap (List.mem_of_getElem? hc) r3
 refine ⟨_, hc, r3, v1, fun h1 => ?_⟩
 obtain ⟨k, hk⟩ : ∃ k, t.frames.length = k + 2 := ⟨t.frames.length - 2, by omega⟩
 have hf2 : t.frames[k]? = some t.frames[k] := List.getElem?_eq_getElem (by omega)
 have hlo := Cc hT hf2 (show t.frames[k + 1]? = some f by rw [show k + 1 = t.frames.length - 1 by omega]; exact hf)
 unfold onF at hlo
 simp only [Bool.and_eq_true, decide_eq_true_eq] at hlo
 have hl : (t.frames.take (t.frames.length - 1)).length = k + 1 := by rw [List.length_take]; omega
 obtain ⟨low2, ho2, _⟩ := pN hT hf2
 have h60 := (sM hw hR.prog (Au ho2)).2.1
 refine ⟨t.frames[k], ?_, by omega, by omega⟩
 rw [hl, Nat.add_sub_cancel, List.getElem?_take, if_pos (by omega)]; exact hf2
def yldE (p : aH) (s : aC) (f : aR) (v : Int × Int) : Int := if fitsF s v = false then 1 else if f.gen < 0 ∨ f.pc = 0 ∨ (oD p f).op ≠ 32 then 8 else 0
def yldS (s : aC) (n : Nat) (t : aP) (f : aR) (c : bM) (v : Int × Int) : aC := ⟨s.cells.set f.gen.toNat (ogC c f), s.shapes, s.texts, s.threads.set n (ogT t f v), s.ends, s.said, s.asked, s.steps⟩
structure AskF (p : aH) (s : aC) (n : Nat) (t : aP) (f : aR) : Prop where
 right : Hp p s
 sml : Sml s
 thr : s.threads.length ≤ 1000000000
 frames : t.frames.length ≤ 30
 go : Pgo p
 frame : cU p s f = true
 regs : f.regs.length ≤ 60
theorem pM {p : aH} {s : aC} {th : Int} {n : Nat} {t : aP} {f : aR} (hw : Pwf p) (h : Em p s th n t f) : AskF p s n t f := by
 have hR := Bs.1 h.fault
 obtain ⟨hm, hth⟩ := Lr hw hR
 have hfF : cU p s f = true := by
  obtain ⟨low, ho, _⟩ := pN (hR.threads t (List.mem_of_getElem? h.at')).2 h.last
  exact Au ho
 exact ⟨hR, hm, hm.threads, (hth t (List.mem_of_getElem? h.at')).1, Co hw hR.prog, hfF, (sM hw hR.prog hfF).2.1⟩
theorem in3 (s : aC) (cs : List bM) (ts : List aP) : ∀ p ∈ [boxS s 0 0 1 0 2 0, ownC 1 0 cs, ownT 2 0 ts], bN (domR [boxS s 0 0 1 0 2 0, ownC 1 0 cs, ownT 2 0 ts]) p.2.2 := fun p hp => by
 rcases List.mem_cons.1 hp with rfl | hp
 ·exact Qi s cs ts 0
 ·rcases List.mem_cons.1 hp with rfl | hp
  ·exact Qi s cs ts 1
  ·rcases List.mem_cons.1 hp with rfl | hp
   ·exact Qi s cs ts 2
   ·simp at hp
theorem Uw (p : aH) (s : aC) (th : Int) (v : Int × Int) (hw : Pwf p) (hs : Swf s) (h : askE p s th ≠ 0) : FC Cx 40 [bQ p, aO s, Iv th, VV v.1 v.2] [] (.tup [aO kG, cP [], Iv (askE p s th)]) [] := by
 refine Sc 1 (xs := [.v (.slice none 0 0), .v (.slice none 0 0), .v (.slice none 0 0), .v (.slice none 0 0), .v (.slice none 0 0), .v (.slice none 0 0), .v (.int .i64 0), .v (.int .i64 0)]) (ys := cJ kG) ?_ (by simp [rowB, nilB, nilX, kG])
 have hA : ∀ y, y = [bQ p, aO s, Iv th] → aT Cx 90 y (Iv (askE p s th)) := fun y hy => by
  subst hy; exact aA (Ce p s th hw hs) en90 rfl rfl
 have d0 : decide (askE p s th = 0) = false := by simpa using h
 obtain ⟨vk, vn⟩ := v
 generalize askE p s th = E at *
 clear h
 refine jP [ctE 90 [bQ p, aO s, Iv th] (Iv E) hA] Tryz.func40 rfl Tryz.ntmps40 (by simp) Tryz.results40 rfl ?_
 refine rnst ?_
 refine goR ?_
 refine fzB 4 ?_
 refine fzB 7 ?_
 (any_goals refine go lv40 0 ?_)
 repeat' (first | (refine Br.go (fun h h' => ?_) (fun h h' => ?_)) | (refine Br.mk (fun h => ?_) (fun h => ?_)))
 all_goals (try simp only [go_sem])
theorem Zd (p : aH) (s : aC) (th : Int) (n : Nat) (t : aP) (f : aR) (v : Int × Int) (hw : Pwf p) (hs : Swf s) (ha : askE p s th = 0) (h : Em p s th n t f) (hy : yldE p s f v ≠ 0) : FC Cx 40 [bQ p, aO s, Iv th, VV v.1 v.2] [] (.tup [aO kG, cP [], Iv (yldE p s f v)]) [] := by
 refine Sc 1 (xs := [.v (.slice none 0 0), .v (.slice none 0 0), .v (.slice none 0 0), .v (.slice none 0 0), .v (.slice none 0 0), .v (.slice none 0 0), .v (.int .i64 0), .v (.int .i64 0)]) (ys := cJ kG) ?_ (by simp [rowB, nilB, nilX, kG])
 have hA : ∀ y, y = [bQ p, aO s, Iv th] → aT Cx 90 y (Iv 0) := fun y hy => by
  subst hy; rw [← ha]; exact aA (Ce p s th hw hs) en90 rfl rfl
 have hF := pM hw h
 obtain ⟨rfl, _, ht, _, hf⟩ := h
 have hL : ∀ y, y = [aO s, Iv n] → aT Cx 91 y (dO f) := fun y hy => by
  subst hy; exact aA (Qc s n t f ht hf (by have := hF.frames; omega)) en91 rfl rfl
 unfold yldE at hy ⊢
 obtain ⟨vk, vn⟩ := v
 dsimp only at *
 by_cases h1 : fitsF s (vk, vn) = false
 ·rw [if_pos h1] at hy ⊢
  clear hy hF ha
  refine jP [ctE 90 [bQ p, aO s, Iv n] (Iv 0) hA, nN, ctE 91 [aO s, Iv n] (dO f) hL] Tryz.func40 rfl Tryz.ntmps40 (by simp) Tryz.results40 rfl ?_
  refine rnst ?_
  refine goR ?_
  refine fzB 4 ?_
  refine fzB 7 ?_
  (any_goals refine go lv40 0 ?_)
  repeat' (first | (refine Br.go (fun h h' => ?_) (fun h h' => ?_)) | (refine Br.mk (fun h => ?_) (fun h => ?_)))
  all_goals (try simp only [go_sem])
 rw [if_neg h1] at hy ⊢
 have h1 : fitsF s (vk, vn) = true := by simpa using h1
 by_cases h2 : f.gen < 0 ∨ f.pc = 0 ∨ (oD p f).op ≠ 32
 case neg => rw [if_neg h2] at hy; exact absurd rfl hy
 rw [if_pos h2]
 have l0 : (p.fns.map fnR).length = p.fns.length := List.length_map ..
 obtain ⟨⟨g1, g2⟩, g3, g4⟩ := iI hF.frame
 obtain ⟨F, hF1⟩ : ∃ F, p.fns[f.fn.toNat]? = some F := ⟨p.fns[f.fn.toNat]'(by omega), List.getElem?_eq_getElem _⟩
 have gF := aE fnR hF1 ([] : List RV)
 have eF : p.fns.getD f.fn.toNat fn0 = F := by rw [List.getD_eq_getElem?_getD, hF1]; rfl
 have w1 : IntKind.i64.wrap (f.pc - 1) = f.pc - 1 := by
  have := (hF.go.cok F (List.mem_of_getElem? hF1)).len
  rw [eF] at g4
  rw [aL] <;> omega
 have l3 : (F.code.map insR).length = F.code.length := List.length_map ..
 rw [eF] at g4
 by_cases c1 : f.gen < 0
 ·have d1 : decide (f.gen < 0) = true := by simpa using c1
  clear hy hF ha c1 h2 hf ht hF1 eF
  obtain ⟨fn, pc, tov, gen, ⟨sk, sn⟩, regs, tries⟩ := f
  dsimp only at *
  refine jP [ctE 90 [bQ p, aO s, Iv n] (Iv 0) hA, nN, ctE 91 [aO s, Iv n] (dO ⟨fn, pc, tov, gen, (sk, sn), regs, tries⟩) hL] Tryz.func40 rfl Tryz.ntmps40 (by simp) Tryz.results40 rfl ?_
  refine rnst ?_
  refine goR ?_
  refine fzB 4 ?_
  refine fzB 7 ?_
  (any_goals refine go lv40 0 ?_)
  repeat' (first | (refine Br.go (fun h h' => ?_) (fun h h' => ?_)) | (refine Br.mk (fun h => ?_) (fun h => ?_)))
  all_goals (try simp only [go_sem])
 have d1 : decide (f.gen < 0) = false := by simpa using c1
 by_cases c2 : f.pc = 0
 ·have d2 : decide (f.pc = 0) = true := by simpa using c2
  clear hy hF ha c1 c2 h2 hf ht hF1 eF
  obtain ⟨fn, pc, tov, gen, ⟨sk, sn⟩, regs, tries⟩ := f
  dsimp only at *
  refine jP [ctE 90 [bQ p, aO s, Iv n] (Iv 0) hA, nN, ctE 91 [aO s, Iv n] (dO ⟨fn, pc, tov, gen, (sk, sn), regs, tries⟩) hL] Tryz.func40 rfl Tryz.ntmps40 (by simp) Tryz.results40 rfl ?_
  refine rnst ?_
  refine goR ?_
  refine fzB 4 ?_
  refine fzB 7 ?_
  (any_goals refine go lv40 0 ?_)
  repeat' (first | (refine Br.go (fun h h' => ?_) (fun h h' => ?_)) | (refine Br.mk (fun h => ?_) (fun h => ?_)))
  all_goals (try simp only [go_sem])
 have d2 : decide (f.pc = 0) = false := by simpa using c2
 obtain ⟨I, hI⟩ : ∃ I, F.code[(f.pc - 1).toNat]? = some I := ⟨F.code[(f.pc - 1).toNat]'(by omega), List.getElem?_eq_getElem _⟩
 have gI := aE insR hI ([] : List RV)
 have eI : oD p f = I := by unfold oD; rw [eF, List.getD_eq_getElem?_getD, hI]; rfl
 have d3 : decide (I.op = 32) = false := by
  rw [← eI]
  rcases h2 with h2 | h2 | h2
  ·exact absurd h2 c1
  ·exact absurd h2 c2
  ·simpa using h2
 have b1 : 0 ≤ f.pc - 1 := by omega
 have b2 : f.pc - 1 < (F.code.length : Int) := by omega
 clear hy hF ha c1 c2 h2 hf ht hF1 eF hI eI
 obtain ⟨fn, pc, tov, gen, ⟨sk, sn⟩, regs, tries⟩ := f
 dsimp only at *
 refine jP [ctE 90 [bQ p, aO s, Iv n] (Iv 0) hA, nN, ctE 91 [aO s, Iv n] (dO ⟨fn, pc, tov, gen, (sk, sn), regs, tries⟩) hL] Tryz.func40 rfl Tryz.ntmps40 (by simp) Tryz.results40 rfl ?_
 refine rnst ?_
 refine goR ?_
 refine fzB 4 ?_
 refine fzB 7 ?_
 (any_goals refine go lv40 0 ?_)
 repeat' (first | (refine Br.go (fun h h' => ?_) (fun h h' => ?_)) | (refine Br.mk (fun h => ?_) (fun h => ?_)))
 all_goals (try simp only [go_sem])
theorem aWm (s : aC) (th : Nat) (t : aP) (f : aR) (c : bM) (v : Int × Int) (e : kK) (ht : s.threads[th]? = some t) (hf : t.frames[t.frames.length - 1]? = some f) (hc : s.cells[f.gen.toNat]? = some c) (h0 : 0 ≤ f.gen) (hl : t.frames.length ≤ 1000000000) (htl : s.threads.length ≤ 1000000000) (hcl : s.cells.length ≤ 1000000000) (hrl : f.regs.length ≤ 1000000000)
  (hto : 0 ≤ f.tov → ∃ f2, (t.frames.take (t.frames.length - 1))[(t.frames.take (t.frames.length - 1)).length - 1]? = some f2 ∧ f.tov < (f2.regs.length : Int) ∧ f2.regs.length ≤ 1000000000) (k a b d0 d1 d2 : Nat) (hab : (k == a || k == b || a == b) = false) :
  QOk (C := Cx) 92 [(0, k, d0), (1, a, d1), (2, b, d2)] [.os 0 0, Iv th, VV v.1 v.2, kD e] [boxS s 0 0 1 0 2 0, ownC 1 0 s.cells, ownT 2 0 s.threads]
   (cP [ogE e f v]) [boxS s 0 0 1 0 2 0, ownC 1 0 (yldS s th t f c v).cells, ownT 2 0 (yldS s th t f c v).threads] := by
 have hab' : (k ≠ a ∧ k ≠ b) ∧ a ≠ b := by simpa using hab
 exact ⟨aT0 s th t f c v e ht hf hc h0 hl htl hcl hrl hto, rfl, by simp [ndB, memN, hab'], rfl, rfl, rfl, in3 s _ _, in3 s _ _⟩
theorem Ux (p : aH) (s : aC) (th : Int) (n : Nat) (t : aP) (f : aR) (c : bM) (v : Int × Int) (hw : Pwf p) (hs : Swf s) (ha : askE p s th = 0) (h : Em p s th n t f) (hy : yldE p s f v = 0) (hY : YldF s t f c) :
  FC Cx 40 [bQ p, aO s, Iv th, VV v.1 v.2] [] (.tup [aO (yldS s n t f c v), cP [ogE (atF p s n f) f v], Iv 0]) [] := by
 have hA : ∀ y, y = [bQ p, aO s, Iv th] → aT Cx 90 y (Iv 0) := fun y hy => by
  subst hy; rw [← ha]; exact aA (Ce p s th hw hs) en90 rfl rfl
 have hF := pM hw h
 have h30 := hF.frames
 have h60 := hF.regs
 obtain ⟨rfl, _, ht, _, hf⟩ := h
 have hL : ∀ y, y = [aO s, Iv n] → aT Cx 91 y (dO f) := fun y hy => by
  subst hy; exact aA (Qc s n t f ht hf (by omega)) en91 rfl rfl
 have hAt : ∀ y, y = [.r (.rp (dQ p)), bW s, Iv n] → aT Cx 86 y (kD (atF p s n f)) := fun y hy => by
  subst hy; exact aA (aU1 p s n t f hF.go ht hf hF.frame (by omega)) en86 rfl rfl
 have h1 : fitsF s v = true := by
  cases hx : fitsF s v with
  | true => rfl
  | false => unfold yldE at hy; rw [if_pos hx] at hy; cases hy
 have h2 : ¬ (f.gen < 0 ∨ f.pc = 0 ∨ (oD p f).op ≠ 32) := fun hx => by
  unfold yldE at hy; rw [if_neg (by simp [h1]), if_pos hx] at hy; cases hy
 have h0 : 0 ≤ f.gen := by omega
 have q1 := aKx s hF.sml 300 301 rfl
 have q2 := aWm s n t f c v (atF p s n f) ht hf hY.at' h0 (by omega) hF.thr hF.sml.cells (by omega) hY.rg 5 300 301 1 1 1 rfl
 have en1 : aG Cx.P 84 := en84
 have en2 : aG Cx.P 92 := en92
 have l0 : (p.fns.map fnR).length = p.fns.length := List.length_map ..
 obtain ⟨⟨g1, g2⟩, g3, g4⟩ := iI hF.frame
 obtain ⟨F, hF1⟩ : ∃ F, p.fns[f.fn.toNat]? = some F := ⟨p.fns[f.fn.toNat]'(by omega), List.getElem?_eq_getElem _⟩
 have gF := aE fnR hF1 ([] : List RV)
 have eF : p.fns.getD f.fn.toNat fn0 = F := by rw [List.getD_eq_getElem?_getD, hF1]; rfl
 have w1 : IntKind.i64.wrap (f.pc - 1) = f.pc - 1 := by
  have := (hF.go.cok F (List.mem_of_getElem? hF1)).len
  rw [eF] at g4
  rw [aL] <;> omega
 have l3 : (F.code.map insR).length = F.code.length := List.length_map ..
 rw [eF] at g4
 have d1 : decide (f.gen < 0) = false := by rw [decide_eq_false_iff_not]; omega
 have d2 : decide (f.pc = 0) = false := by rw [decide_eq_false_iff_not]; omega
 obtain ⟨I, hI⟩ : ∃ I, F.code[(f.pc - 1).toNat]? = some I := ⟨F.code[(f.pc - 1).toNat]'(by omega), List.getElem?_eq_getElem _⟩
 have gI := aE insR hI ([] : List RV)
 have eI : oD p f = I := by unfold oD; rw [eF, List.getD_eq_getElem?_getD, hI]; rfl
 have d3 : decide (I.op = 32) = true := by
  rw [← eI, decide_eq_true_eq]; omega
 have b1 : 0 ≤ f.pc - 1 := by omega
 have b2 : f.pc - 1 < (F.code.length : Int) := by omega
 have eS : aO (yldS s n t f c v) = .agg [dG (yldS s n t f c v).cells, aS s.shapes, bZ s.texts, cF (yldS s n t f c v).threads, fP s.ends, aS s.said, Iv s.asked, Iv s.steps] := rfl
 rw [eS]
 generalize (yldS s n t f c v).cells = cs at *
 generalize (yldS s n t f c v).threads = ts at *
 have hLv : ogE (atF p s n f) f v = ogE (atF p s n f) f v := rfl
 generalize atF p s n f = e0 at *
 generalize ogE e0 f v = e1 at *
 obtain ⟨vk, vn⟩ := v
 dsimp only at *
 clear hLv eS hF ha hy h2 hY hf ht hF1 eF hI eI
 obtain ⟨fn, pc, tov, gen, ⟨sk, sn⟩, regs, tries⟩ := f
 dsimp only at *
 refine jP [ctE 90 [bQ p, aO s, Iv n] (Iv 0) hA, nN, ctE 91 [aO s, Iv n] (dO ⟨fn, pc, tov, gen, (sk, sn), regs, tries⟩) hL, ctN 84 [(7, 300), (16, 301)] [aO s] (.agg [.os 7 1, aS s.shapes, bZ s.texts, .os 16 1, fP s.ends, aS s.said, Iv s.asked, Iv s.steps]) [ownC 7 1 s.cells, ownT 16 1 s.threads] en1 q1, ctE 86 [.r (.rp (dQ p)), bW s, Iv n] (kD e0) hAt, ctQ 92 [(0, 5, 1), (1, 300, 1), (2, 301, 1)] [.os 0 0, Iv n, VV vk vn, kD e0] [boxS s 0 0 1 0 2 0, ownC 1 0 s.cells, ownT 2 0 s.threads] (cP [e1]) [boxS s 0 0 1 0 2 0, ownC 1 0 cs, ownT 2 0 ts] en2 q2] Tryz.func40 rfl Tryz.ntmps40 (by simp) Tryz.results40 rfl ?_
 refine rnst ?_
 refine goR ?_
 refine fzB 4 ?_
 refine fzB 7 ?_
 (any_goals refine goN lv40 0 ?_)
 repeat' (first | (refine Br.go (fun h h' => ?_) (fun h h' => ?_)) | (refine Br.mk (fun h => ?_) (fun h => ?_)))
 all_goals (try simp only [go_sem])
 (apply tI 300 (cs.map aX); (exact rfl); (exact jF Fm); (exact rfl); (intro K0; (try simp only [go_sem]); exact ⟨id⟩))
 (apply tI 301 (ts.map aJ); (exact rfl); (exact jF xL); (exact rfl); (intro K0; (try simp only [go_sem]); exact ⟨id⟩))
 (any_goals refine go lv40 0 ?_)
 repeat' (first | (refine Br.go (fun h h' => ?_) (fun h h' => ?_)) | (refine Br.mk (fun h => ?_) (fun h => ?_)))
 all_goals (try simp only [go_sem])
 all_goals rfl
def fldT (P : Program) (s f : Nat) : Option (Nat × Nat) := match P.underlying s with
 | some (.struct fs) => match fs[f]? with
  | some x => some (x.offset, x.type)
  | none => none
 | _ => none
def fldG (C : Ctx) (st : St) (s : Nat) (x : Operand) (f : Nat) (K : AV → Prop) : Prop := match ev st x with
 | .agg cs => match fldT C.P s f with
  | some (off, t) => tO C.P t (cs.drop off) K
  | none => False
 | _ => False
attribute [go_sem] fldG
theorem aEm {P : Program} {s f off t : Nat} (h : fldT P s f = some (off, t)) : ∃ fs x, P.underlying s = some (.struct fs) ∧ fs[f]? = some x ∧ x.offset = off ∧ x.type = t := by
 unfold fldT at h
 split at h
 ·rename_i fs hu
  split at h
  ·rename_i x hx
   simp only [Option.some.injEq, Prod.mk.injEq] at h
   exact ⟨fs, x, hu, hx, h.1, h.2⟩
  ·cases h
 ·cases h
theorem aJr {C : Ctx} {o : Oper} {st : St} {s : Nat} {x : Operand} {f d : Nat} {K : List (Loc × Cont) → Prop} (ho : o.op = .field s x f) (hdst : o.dst = some d) (hd : d < st.n) (h : fldG C st s x f fun y => K [(.T d, .a y)]) : sJ C o st fun _ outs => K outs := by
 unfold fldG at h
 split at h
 ·rename_i cs hx
  split at h
  ·rename_i off t hf
   obtain ⟨r, h1, h2⟩ := nK h
   refine ⟨rd [x], _, h1, mO hdst hd fun e st' g a w hs ha => ?_⟩
   have h5 := arg hs (bS.1 ha) (x := x) (by simp)
   rw [hx] at h5
   obtain ⟨xs, hv, p1, p2⟩ := qA h5
   obtain ⟨u, h3, h4⟩ := Ev h2 (⟨p1, p2⟩ : PW st'.cur g w (e.N st' g) cs xs)
   obtain ⟨fs, y, hu, hy, rfl, rfl⟩ := aEm hf
   refine ⟨u, w, ?_, rfl, rfl, rfl, rfl, h4⟩
   obtain ⟨dst, op, type, pos, after, guard⟩ := o
   dsimp only at ho
   subst ho
   simp only [execOp, Sem.run_bind, hv, Instr.field, asAgg, Sem.run_pure, Result.andThen_ok, run_underlying hu]
   simp [hy, h3]
  ·exact h.elim
 ·exact h.elim
section
variable {C : Ctx} {T : List (Ct C)} {r : List It} {st st' : St} {K : Exit → St → Prop} {L : List (Nat × List Nat)} {n : Nat} {B : Prop} {k k' d d' : Nat} {done done' : List (Nat × Nat)} {o : Oper} {l : List Oper} {b : Bool}
theorem Gw.fop {s : Nat} {x : Operand} {f : Nat} (hg : o.guard = none) (ho : o.op = .field s x f) (hdst : o.dst = some d') (hd : d' < st.n) (h : ∀ K0 : Nat → List (Nat × Nat) → St → Prop, Imp (K0 k' done' st') (fldG C st s x f fun y => K0 (k + 1) (addN k o.dst done) (st.upd [(.T d', .a y)]))) (hk : Gw T L n B (Rn C T (.o k' done' l :: r) st' K)) : Gw T L n B (Rn C T (.o k done (o :: l) :: r) st K) := ⟨fun hb0 => by
 unfold Rn
 refine rW (T := T) (K' := fun s => tS C (k + 1) (addN k o.dst done) l s (ck C r K .normal)) ?_ fun s hs => hs
 unfold uT
 rw [hg]
 have h2 := (h fun k d s => Rn C T (.o k d l :: r) s K).run (hk.run hb0)
 unfold Rn at h2
 exact aJr ho hdst hd h2⟩
end
def Ed (s : aC) (n : Nat) (t : aP) (rg : Int) (v : Int × Int) : aC := ⟨s.cells, s.shapes, s.texts, s.threads.set n { t with frames := intoF t.frames rg v }, s.ends, s.said, s.asked, s.steps⟩
end Go.Proofs.YtbhnmolmkembdaaGreatDoor
