/- The document's names of shapes. No condition: contracts. -/
import Derived.Test.YtbhnmolmkembdaaGreatDoorY6
import Derived.Test.YtbhnmolmkembdaaGreatDoorY5
namespace Go.Proofs.YtbhnmolmkembdaaGreatDoor.Sh
set_option linter.unusedVariables false
set_option linter.unusedSimpArgs false
set_option maxHeartbeats 10000000
open Go
set_option maxRecDepth 10000
theorem Cu {l : List (Int × Int)} {s t : Int} (h : Ups l s) (ht : t ≤ s) : Ups l t := fun k p hp h0 hk => h k p hp h0 (by omega)
theorem xJ (l : List (Int × Int)) : ∀ (n m : Nat) (s : Int), Ups l s → s.toNat ≤ n → s.toNat ≤ m → fJ l n s = fJ l m s
 | 0, m, s, _, h1, _ => by
  have h0 : ¬ 0 < s := by omega
  cases m with
  | zero => rfl
  | succ m => unfold fJ; rw [if_neg h0]
 | n + 1, 0, s, _, h1, h2 => by
  have h0 : ¬ 0 < s := by omega
  unfold fJ; rw [if_neg h0]
 | n + 1, m + 1, s, hu, h1, h2 => by
  unfold fJ
  by_cases h0 : 0 < s
  ·rw [if_pos h0, if_pos h0]
   cases hp : l[s.toNat]? with
   | none => rfl
   | some p =>
    have := hu _ p hp (by omega) (by omega)
    exact congrArg (p.2 :: ·) (xJ l n m p.1 (Cu hu (by omega)) (by omega) (by omega))
  ·rw [if_neg h0, if_neg h0]
theorem Pk {l : List (Int × Int)} {k : Nat} {p : Int × Int} (hp : l[k + 1]? = some p) (hu : Ups l ((k + 1 : Nat) : Int)) : namesL l ((k + 1 : Nat) : Int) = namesL l p.1 ++ [p.2] := by
 have hk := (List.getElem?_eq_some_iff.1 hp).1
 have hup := hu (k + 1) _ hp (by omega) (Int.le_refl _)
 unfold namesL
 obtain ⟨n, hn⟩ : ∃ n, l.length = n + 1 := ⟨l.length - 1, by omega⟩
 have e1 : fJ l l.length ((k + 1 : Nat) : Int) = p.2 :: fJ l n p.1 := by
  rw [hn]
  show (if 0 < ((k + 1 : Nat) : Int) then (match l[((k + 1 : Nat) : Int).toNat]? with | some p => p.2 :: fJ l n p.1 | none => []) else []) = _
  rw [if_pos (by omega), show (((k + 1 : Nat) : Int)).toNat = k + 1 by omega, hp]
 rw [e1, List.reverse_cons, xJ l n l.length p.1 (Cu hu (by omega)) (by omega) (by omega)]
theorem aB0 (l : List (Int × Int)) (hl : l.length ≤ 1000) : ∀ n : Nat, Ups l n → ∀ z : Int, z.toNat ≤ n → z < l.length → FC Cx 178 [dA l, Iv z] [] (.os 0 1) [(0, 1, .sl 3 1 ((namesL l z).map intA))]
 | 0, hu, z, h1, h2 => by
  rw [qG l z (by omega)]
  exact Pn l z (by rw [decide_eq_true_eq]; omega)
 | n + 1, hu, z, h1, h2 => by
  by_cases h0 : z ≤ 0
  ·rw [qG l z h0]
   exact Pn l z (by rw [decide_eq_true_eq]; omega)
  ·obtain ⟨k, rfl⟩ : ∃ k : Nat, z = ((k + 1 : Nat) : Int) := ⟨z.toNat - 1, by omega⟩
   have hp : l[k + 1]? = some (l[k + 1]'(by omega)) := List.getElem?_eq_getElem (by omega)
   generalize l[k + 1]'(by omega) = p at hp
   have huk : Ups l ((k + 1 : Nat) : Int) := Cu hu (by omega)
   have hup := huk (k + 1) p hp (by omega) (Int.le_refl _)
   rw [Pk hp huk]
   have ih := aB0 l hl n (Cu hu (by omega))
   refine aLj l n k p hp hl (by omega) (by omega)
    (.res 178 (Ab l n) aJt fun st d args K h => ?_) rfl (fun _ _ _ _ _ _ => rfl) (vB l p.1) (by rw [decide_eq_false_iff_not]; omega) (fun l => List.length_map ..) (List.length_map ..) (fun l n => by rw [List.map_append]; rfl) (by omega) (aE cB hp []) (by omega)
   unfold Ab at h
   split at h
   ·rename_i xs z
    obtain ⟨⟨rfl, h3, h4⟩, h5⟩ := h
    exact ⟨_, _, _, dI.own (ih z h3 h4) rfl (rJ _) rfl d, h5⟩
   ·exact h.elim
theorem Pl (xs : List (List RV)) (z : Int) (h : xs = (shapesOf xs).map cB ∧ xs.length ≤ 1000 ∧ Ups (shapesOf xs) z ∧ z < xs.length) : FC Cx 178 [.r (.rs 2 xs), Iv z] [] (dF (namesL (shapesOf xs) z)) [] := by
 have hl : (shapesOf xs).length = xs.length := by simp [shapesOf]
 have h1 : FC Cx 178 [dA (shapesOf xs), Iv z] [] (.os 0 1) [(0, 1, .sl 3 1 ((namesL (shapesOf xs) z).map intA))] := by
  by_cases h0 : z ≤ 0
  ·rw [qG _ z h0]; exact Pn _ z (by rw [decide_eq_true_eq]; omega)
  ·exact aB0 _ (by omega) z.toNat (Cu h.2.2.1 (by omega)) z (Nat.le_refl _) (by omega)
 rw [mU h.1] at h1
 exact h1.freeze1 (roI _).symm
def nY (args : List AV) (K : AV → Prop) : Prop := match args with
 | [.r (.rs 2 xs), .r (.v (.int .i64 z))] => (xs = (shapesOf xs).map cB ∧ xs.length ≤ 1000 ∧ Ups (shapesOf xs) z ∧ z < xs.length) ∧ K (dF (namesL (shapesOf xs) z))
 | _ => False
noncomputable abbrev ct_refNames : Ct Cx := .pure 178 nY fun args K h => by
 unfold nY at h; split at h; exact ⟨_, aA (Pl _ _ h.1) aJt rfl rfl, h.2⟩; exact h.elim
@[go_sem] theorem Xz : type_of% @nY.eq_def := @nY.eq_def
end Go.Proofs.YtbhnmolmkembdaaGreatDoor.Sh
namespace Go.Proofs.YtbhnmolmkembdaaGreatDoor.Sh
set_option linter.unusedVariables false
set_option linter.unusedSimpArgs false
set_option maxHeartbeats 10000000
open Go
set_option maxRecDepth 10000
section
variable {C : Ctx} {T : List (Ct C)} {r : List It} {st : St} {K : Exit → St → Prop} {A : St → Prop}
theorem aLl (h : K .ret st) : fX A (ck C r K) .ret st := uW h
end
theorem Lr (l : List (Int × Int)) (hlen : (l.map cB).length = l.length) (d0 : decide ((100 : Int) < (l.length : Int)) = true) : FC Cx 137 [dA l] [] (Iv 2) [] := by
 refine aD [Cs, ct_hasI, ct_refNames] Tryz.func137 Tryz.ntmps137 Tryz.results137 ?_
 (any_goals refine go nO 0 ?_)
 all_goals (try simp only [go_sem])
theorem Ph (l : List (Int × Int)) (hw : Wf l) (h100 : ¬ 100 < l.length) (hlen : (l.map cB).length = l.length) (d0 : decide ((100 : Int) < (l.length : Int)) = false) : FC Cx 137 [dA l] [] (Iv (checkF l)) [] := by
 have hlenI : ∀ l : List Int, (l.map intR).length = l.length := fun l => List.length_map ..
 refine aD [Cs, ct_hasI, ct_refNames] Tryz.func137 Tryz.ntmps137 Tryz.results137 ?_
 (any_goals refine go nO 0 ?_)
 refine jD [0, 10, 11, 12] (fun x : Nat × Nat => x.1 ≤ l.length ∧ (0 < x.1 → l[0]? = some (-1, -1)) ∧ ∀ j p, j + 1 < x.1 → l[j + 1]? = some p → okAt l j p)
  (fun x => ⟨63, [(0, dA l), (10, dA l), (11, Iv l.length), (12, Iv x.1)], [(4, x.1, .gone), (6, x.2, .gone)]⟩) (fun x => l.length - x.1) (0, 0) rfl rfl ⟨rfl, rfl, rfl, rfl, trivial⟩ ⟨Nat.zero_le _, ⟨fun h => absurd h (Nat.lt_irrefl 0), fun j p hj => absurd hj (Nat.not_lt_zero _)⟩⟩ ?_
 rintro ⟨i, v6⟩ ⟨hi, hroot, hok⟩
 dsimp only at hi hroot hok
 have t1 : Int.toNat (i : Int) = i := by omega
 by_cases hlt : i < l.length
 ·have e1 : decide ((i : Int) < (l.length : Int)) = true := by rw [decide_eq_true_eq]; omega
  obtain ⟨p, hp⟩ : ∃ p, l[i]? = some p := ⟨l[i], List.getElem?_eq_getElem hlt⟩
  have hg1 := aE cB hp ([] : List RV)
  have w1 : IntKind.i64.wrap ((i : Int) + 1) = ((i + 1 : Nat) : Int) := by rw [aN] <;> omega
  by_cases hz : i ≤ 0
  ·have e2 : decide ((i : Int) = 0) = true := by rw [decide_eq_true_eq]; omega
   have bad : l[0]? ≠ some (-1, -1) → checkF l = 3 := fun hb => by rw [checkF, if_neg h100, if_neg fun h => hb h.1]
   by_cases c1 : p.1 = -1
   ·have d1 : decide (p.1 = -1) = true := by simpa using c1
    by_cases c2 : p.2 = -1
    ·have d2 : decide (p.2 = -1) = true := by simpa using c2
     (any_goals refine go nO 0 ?_)
     all_goals (try simp only [go_sem])
     refine ⟨(i + 1, v6), ⟨by show i + 1 ≤ _; omega, fun _ => ?_, fun j q hj => ?_⟩, by show l.length - (i + 1) < _; omega, gP [0, 10, 11, 12] rfl rfl ⟨rfl, .inr ⟨rfl, Nat.le_refl _⟩, rfl, .inl ⟨rfl, rfl⟩, trivial⟩⟩
     ·rw [show i = 0 by omega] at hp; rw [hp]; exact congrArg some (Prod.ext c1 c2)
     ·exact absurd hj (by show ¬ j + 1 < i + 1; omega)
    ·have d2 : decide (p.2 = -1) = false := by simpa using c2
     have hF := bad (by rw [show i = 0 by omega] at hp; rw [hp]; intro h; have := Option.some.inj h; subst this; exact c2 rfl)
     (any_goals refine go nO 0 ?_)
     all_goals (try simp only [go_sem])
     rw [hF]
   ·have d1 : decide (p.1 = -1) = false := by simpa using c1
    have hF := bad (by rw [show i = 0 by omega] at hp; rw [hp]; intro h; have := Option.some.inj h; subst this; exact c1 rfl)
    (any_goals refine go nO 0 ?_)
    all_goals (try simp only [go_sem])
    rw [hF]
  ·have e2 : decide ((i : Int) = 0) = false := by rw [decide_eq_false_iff_not]; omega
   obtain ⟨k, hk⟩ : ∃ k, i = k + 1 := ⟨i - 1, by omega⟩
   have w2 : IntKind.i64.wrap ((i : Int) - 1) = (k : Int) := by rw [aN] <;> omega
   have hp1 : l[k + 1]? = some p := hk ▸ hp
   have hwp : WfS p := hw p (List.mem_of_getElem? hp)
   have bad : ¬ okAt l k p → checkF l = 3 := fun hb => by rw [checkF, if_neg h100, if_neg]; exact fun hg => hb (hg.2 k p hp1)
   have hkl : k < l.length := by omega
   have hki : (k : Int) + 1 = i := by omega
   clear hk hp1
   by_cases c1 : p.1 < 0
   ·have d2 : decide (0 ≤ p.1) = false := by simpa using c1
    have hF := bad fun h => by have := h.1; omega
    (any_goals refine go nO 0 ?_)
    all_goals (try simp only [go_sem])
    rw [hF]
   have d2 : decide (0 ≤ p.1) = true := by simpa using c1
   by_cases c2 : (k : Int) < p.1
   ·have d3 : decide (p.1 ≤ (k : Int)) = false := by rw [decide_eq_false_iff_not]; omega
    have hF := bad fun h => by have := h.2.1; omega
    (any_goals refine go nO 0 ?_)
    all_goals (try simp only [go_sem])
    rw [hF]
   have d3 : decide (p.1 ≤ (k : Int)) = true := by rw [decide_eq_true_eq]; omega
   by_cases c3 : p.2 < 0
   ·have d4 : decide (p.2 < 0) = true := by simpa using c3
    have hF := bad fun h => by have := h.2.2.1; omega
    (any_goals refine go nO 0 ?_)
    all_goals (try simp only [go_sem])
    rw [hF]
   have d4 : decide (p.2 < 0) = false := by simpa using c3
   have hU : Ups l p.1 := fun j q hq h0 hj => by
    obtain ⟨j', rfl⟩ : ∃ j', j = j' + 1 := ⟨j - 1, by omega⟩
    have := (hok j' q (by omega) hq).2.1
    omega
   have hn := vB l p.1
   by_cases c5 : p.2 ∈ namesL l p.1
   ·have d5 : decide (p.2 ∈ namesL l p.1) = true := by simpa using c5
    have hF := bad fun h => h.2.2.2.2 c5
    (any_goals refine go nO 0 ?_)
    all_goals (try simp only [go_sem])
    rw [hF]
   have d5 : decide (p.2 ∈ namesL l p.1) = false := by simpa using c5
   have t2 : List.take i (l.map cB) = (l.take i).map cB := List.map_take.symm
   have t3 : ((l.take i).map cB).length = i := by rw [List.length_map, List.length_take]; omega
   (any_goals refine go nO 0 ?_)
   refine jD [0, 4, 10, 11, 12, 49, 50, 51] (fun j : Nat => j ≤ i ∧ ∀ j', j' < j → l[j']? ≠ some p)
    (fun j => ⟨63, [(0, dA l), (10, dA l), (11, Iv l.length), (12, Iv i), (4, .os 4 (i + 1)), (49, .r (.rs 2 ((l.take i).map cB))), (50, Iv i), (51, Iv j)], [(4, i + 1, .bx [Iv p.1, Iv p.2]), (6, v6 + j, .gone)]⟩) (fun j => i - j) 0 rfl rfl ⟨rfl, .inl ⟨rfl, rfl⟩, rfl, .inl ⟨rfl, rfl⟩, trivial⟩ ⟨Nat.zero_le _, fun j hj => absurd hj (Nat.not_lt_zero _)⟩ ?_
   rintro j ⟨hj, hjno⟩
   have t4 : Int.toNat (j : Int) = j := by omega
   clear t2
   by_cases hlt2 : j < i
   ·obtain ⟨q, hq⟩ : ∃ q, l[j]? = some q := ⟨l[j], List.getElem?_eq_getElem (by omega)⟩
    have hg2 := aE cB (show (l.take i)[j]? = some q by rw [List.getElem?_take, if_pos hlt2]; exact hq) ([] : List RV)
    have w3 : IntKind.i64.wrap ((j : Int) + 1) = ((j + 1 : Nat) : Int) := by rw [aN] <;> omega
    have d6 : decide ((j : Int) < (i : Int)) = true := by rw [decide_eq_true_eq]; omega
    by_cases hqp : q = p
    ·subst hqp
     have hF := bad fun h => h.2.2.2.1 (by
      cases j with
      | zero =>
       rw [hroot (by omega)] at hq
       have := Option.some.inj hq
       subst this
       exact absurd c1 (by simp)
      | succ j => exact List.mem_of_getElem? (i := j) (by rw [List.getElem?_take, if_pos (by omega), List.getElem?_drop, Nat.add_comm]; exact hq))
     (any_goals refine go nO 0 ?_)
     all_goals (try simp only [go_sem])
     all_goals (first | exact aLl (by rw [hF]; rfl) | rw [hF])
    ·have d7 : (decide (q.1 = p.1) && decide (q.2 = p.2)) = false := by
      rw [← Bool.not_eq_true, Bool.and_eq_true, decide_eq_true_eq, decide_eq_true_eq]
      exact fun h => hqp (Prod.ext h.1 h.2)
     (any_goals refine go nO 0 ?_)
     refine ⟨j + 1, ⟨by omega, fun j' hj' => ?_⟩, by omega, gP [0, 4, 10, 11, 12, 49, 50, 51] rfl rfl ⟨rfl, .inl ⟨rfl, rfl⟩, rfl, .inr ⟨rfl, Nat.le_refl _⟩, trivial⟩⟩
     rcases Nat.lt_succ_iff_lt_or_eq.1 hj' with h3 | h3
     ·exact hjno j' h3
     ·rw [h3, hq]; exact fun h4 => hqp (Option.some.inj h4)
   ·have d6 : decide ((j : Int) < (i : Int)) = false := by rw [decide_eq_false_iff_not]; omega
    (any_goals refine go nO 0 ?_)
    all_goals (try simp only [go_sem])
    refine ⟨(i + 1, v6 + j), ⟨by show i + 1 ≤ _; omega, fun _ => hroot (by omega), fun a q ha hq => ?_⟩, by show l.length - (i + 1) < _; omega, gP [0, 10, 11, 12] rfl rfl ⟨rfl, .inr ⟨rfl, Nat.le_refl _⟩, rfl, .inl ⟨rfl, rfl⟩, trivial⟩⟩
    have ha' : a + 1 < i + 1 := ha
    by_cases hak : a + 1 < i
    ·exact hok a q hak hq
    ·obtain rfl : a = k := by omega
     have hqp : q = p := by
      have : l[i]? = some q := by rw [show i = a + 1 by omega]; exact hq
      rw [hp] at this; exact (Option.some.inj this).symm
     subst hqp
     refine ⟨by omega, by omega, by omega, fun hm => ?_, c5⟩
     obtain ⟨b, hb⟩ := List.getElem?_of_mem hm
     rw [List.getElem?_take] at hb
     split at hb
     ·rw [List.getElem?_drop] at hb
      exact hjno (1 + b) (by omega) hb
     ·cases hb
 ·have e1 : decide ((i : Int) < (l.length : Int)) = false := by rw [decide_eq_false_iff_not]; omega
  by_cases h0 : l.length ≤ 0
  ·have d1 : decide ((l.length : Int) = 0) = true := by rw [decide_eq_true_eq]; omega
   have hF : checkF l = 3 := by rw [checkF, if_neg h100, if_neg fun h => by have := (List.getElem?_eq_some_iff.1 h.1).1; omega]
   (any_goals refine go nO 0 ?_)
   all_goals (try simp only [go_sem])
   rw [hF]
  ·have d1 : decide ((l.length : Int) = 0) = false := by rw [decide_eq_false_iff_not]; omega
   have hF : checkF l = 0 := by
    rw [checkF, if_neg h100, if_pos ⟨hroot (by omega), fun j q hq => hok j q (by have := (List.getElem?_eq_some_iff.1 hq).1; omega) hq⟩]
   (any_goals refine go nO 0 ?_)
   all_goals (try simp only [go_sem])
   rw [hF]
end Go.Proofs.YtbhnmolmkembdaaGreatDoor.Sh
namespace Go.Proofs.YtbhnmolmkembdaaGreatDoor.Sh
set_option linter.unusedVariables false
set_option linter.unusedSimpArgs false
set_option maxHeartbeats 10000000
open Go
set_option maxRecDepth 10000
theorem Im (xs : List (List RV)) (h : xs = (shapesOf xs).map cB ∧ Wf (shapesOf xs)) : FC Cx 137 [.r (.rs 2 xs)] [] (Iv (checkF (shapesOf xs))) [] := by
 have h1 : FC Cx 137 [dA (shapesOf xs)] [] (Iv (checkF (shapesOf xs))) [] := by
  by_cases h100 : 100 < (shapesOf xs).length
  ·have e : checkF (shapesOf xs) = 2 := by rw [checkF, if_pos h100]
   rw [e]
   exact Lr _ (List.length_map ..) (by rw [decide_eq_true_eq]; omega)
  ·exact Ph _ h.2 h100 (List.length_map ..) (by rw [decide_eq_false_iff_not]; omega)
 rwa [mU h.1] at h1
def wO (args : List AV) (K : AV → Prop) : Prop := match args with
 | [.r (.rs 2 xs)] => (xs = (shapesOf xs).map cB ∧ Wf (shapesOf xs)) ∧ K (Iv (checkF (shapesOf xs)))
 | _ => False
noncomputable abbrev ct_fault : Ct Cx := .pure 137 wO fun args K h => by
 unfold wO at h; split at h; exact ⟨_, aA (Im _ h.1) aVp rfl rfl, h.2⟩; exact h.elim
@[go_sem] theorem aIe : type_of% @wO.eq_def := @wO.eq_def
end Go.Proofs.YtbhnmolmkembdaaGreatDoor.Sh
namespace Go.Proofs.YtbhnmolmkembdaaGreatDoor
set_option linter.unusedVariables false
set_option linter.unusedSimpArgs false
set_option maxHeartbeats 10000000
open Go
set_option maxRecDepth 10000
theorem Ww {s : aC} {v : Int × Int} (q : Int) (h : fitsF s v = true) : isF' s v q = refF s v q := by
 obtain ⟨k, n⟩ := v
 unfold isF' refF
 rw [h, Bool.true_and]
 by_cases h5 : k = 5
 ·subst h5
  obtain ⟨n0, n1, _⟩ := Cr h
  rw [decide_eq_true n0, decide_eq_true n1]; simp
 ·have d5 : decide (k = 5) = false := by simpa using h5
  simp [d5]
def Ee (c : bJ) : Prop := ∀ f ∈ c.frames, f.regs.length ≤ 8796093021952
theorem Kz (s : aC) (c : bJ) (hs : Swf s) (hc : Cwf c) (hk : Sh.checkF s.shapes = 0) (hrg : Ee c) : FC Cx 138 [aH s, gL c] [] (Bv (eO s c)) [] := by
 have l1 : (c.vals.map valR).length = c.vals.length := List.length_map ..
 have l2 : (c.frames.map bA).length = c.frames.length := List.length_map ..
 have l3 : (s.shapes.map valR).length = s.shapes.length := List.length_map ..
 have hcl := hs.len.cells
 have hsl := hs.len.shapes
 have hcv := hc.vals
 have hcf := hc.frames
 have hfr := hc.frame
 have hwi := hc.val
 obtain ⟨hup, h100, _, _⟩ := Sh.good_ups hk c.num
 have w1 : IntKind.i64.wrap ((s.shapes.length : Int) - 1) = (s.shapes.length : Int) - 1 := by rw [aN] <;> omega
 unfold eO
 by_cases hgw : c.kind = 5 ∧ c.num = 0
 case neg =>
  have eN : dM c = 0 := if_neg hgw
  rw [eN]
  have hq : (decide (c.kind = 5) && decide (c.num = 0)) = false := by
   rw [Bool.eq_false_iff]; simp only [ne_eq, Bool.and_eq_true, decide_eq_true_eq]; exact hgw
  obtain ⟨kind, num, vals, frames⟩ := c
  dsimp only at *
  cases frames with
  | cons f fs =>
   have d0 : decide ((((f :: fs).length : Nat) : Int) = 0) = false := by rw [decide_eq_false_iff_not, List.length_cons]; omega
   rw [d0]
   simp only [Bool.and_false, Bool.false_and]
   generalize f :: fs = frames at *
   refine aD [aU, cY, cD, Sh.ct_refNames] Tryz.func138 Tryz.ntmps138 Tryz.results138 ?_
   refine goR ?_
   refine fzB 2 ?_
   refine fzB 3 ?_
   (any_goals refine go dS 0 ?_)
   all_goals (try simp only [go_sem])
  | nil =>
  clear hfr hcf
  refine aD [aU, cY, cD, Sh.ct_refNames] Tryz.func138 Tryz.ntmps138 Tryz.results138 ?_
  refine goR ?_
  refine fzB 2 ?_
  refine fzB 3 ?_
  (any_goals refine go dS 0 ?_)
  all_goals (try simp only [go_sem])
  refine bY (fun x : Nat × Nat => x.1 ≤ vals.length ∧ ∀ j v, j < x.1 → vals[j]? = some v → fitsF s v = true) (fun x => ⟨190, [(2, bT s), (3, .r (.rp (aW ⟨kind, num, vals, []⟩))), (32, aT vals), (33, Iv vals.length), (34, Iv x.1)], [(2, 2, .gone), (3, 2, .gone), (7, x.2, .gone)]⟩) (fun x => vals.length - x.1) (0, 0) ⟨Nat.zero_le _, fun j v hj => by omega⟩ ?_
  rintro ⟨i, u⟩ ⟨hi, hno⟩
  dsimp only at hi hno ⊢
  by_cases hlt : i < vals.length
  case pos =>
   obtain ⟨v, hx, hg, h1, h2, hw⟩ := cE valR vals hlt hcv
   rcases Bool.eq_false_or_eq_true (fitsF s v) with hv | hv
   ·have nx : ∀ j v, j < i + 1 → vals[j]? = some v → fitsF s v = true := fun j v' hj hv' => by
     rcases Nat.lt_succ_iff_lt_or_eq.1 hj with h3 | h3
     ·exact hno j v' h3 hv'
     ·subst h3; rw [hx] at hv'; cases hv'; exact hv
    clear hno
    (any_goals refine go dS 0 ?_)
    refine ⟨(i + 1, u + 9), ⟨by dsimp only; omega, nx⟩, by dsimp only; omega, ?_⟩
    dsimp only
    exact bF
   ·rw [lJ hx hv]
    simp only [Bool.and_false, Bool.false_and]
    clear hno
    (any_goals refine go dS 0 ?_)
    all_goals (try simp only [go_sem])
  obtain rfl : i = vals.length := by omega
  have e1 := bS vals
  have hall : ∀ v ∈ vals, fitsF s v = true := fun v hv => by
   obtain ⟨j, hj⟩ := List.mem_iff_getElem?.1 hv
   exact hno j v (List.getElem?_eq_some_iff.1 hj).1 hj
  rw [kM fun j x hj hx => hno j x hj hx]
  clear hno hi hlt
  (any_goals refine go dS 0 ?_)
  all_goals (try simp only [go_sem])
  refine bY (fun _ : Unit => True) (fun _ => ⟨190, [(2, bT s), (3, .r (.rp (aW ⟨kind, num, vals, []⟩))), (44, .r (.rs 8 [])), (45, Iv 0), (46, Iv 0)], [(2, 2, .gone), (3, 2, .gone), (7, u, .gone)]⟩) (fun _ => 0) () trivial ?_
  rintro ⟨⟩ -
  clear e1
  by_cases hkk : 0 ≤ kind ∧ kind ≤ 7
  case neg =>
   rw [decide_eq_false hkk]
   simp only [Bool.false_and]
   have d0 : decide (kind = 0) = false := by rw [decide_eq_false_iff_not]; omega
   have d1 : decide (kind = 1) = false := by rw [decide_eq_false_iff_not]; omega
   have d2 : decide (kind = 2) = false := by rw [decide_eq_false_iff_not]; omega
   have d3 : decide (kind = 3) = false := by rw [decide_eq_false_iff_not]; omega
   have d4 : decide (kind = 4) = false := by rw [decide_eq_false_iff_not]; omega
   have d5 : decide (kind = 5) = false := by rw [decide_eq_false_iff_not]; omega
   have d6 : decide (kind = 6) = false := by rw [decide_eq_false_iff_not]; omega
   have d7 : decide (kind = 7) = false := by rw [decide_eq_false_iff_not]; omega
   (any_goals refine go dS 0 ?_)
   all_goals (try simp only [go_sem])
  rw [decide_eq_true hkk]
  have k8 : kind = 0 ∨ kind = 1 ∨ kind = 2 ∨ kind = 3 ∨ kind = 4 ∨ kind = 5 ∨ kind = 6 ∨ kind = 7 := by omega
  clear hkk
  rcases k8 with rfl | rfl | rfl | rfl | rfl | rfl | rfl | rfl
  ·rw [show numF s ⟨0, num, vals, []⟩ = decide (num = 0) from rfl, show iF s ⟨0, num, vals, []⟩ = decide ((vals.length : Int) = 0) from rfl]
   (any_goals refine go dS 0 ?_)
   all_goals (try simp only [go_sem])
   exact congrArg (fun b => Bv b) (by simp)
  ·have eK : Sh.namesF s.shapes num = if 0 ≤ num ∧ num < s.shapes.length then Sh.namesL s.shapes num else [] := by
    unfold Sh.namesF; simp only [hk, true_and]
   have ln : ((Sh.namesL s.shapes num).map Sh.intR).length = (Sh.namesL s.shapes num).length := List.length_map ..
   rw [show numF s ⟨1, num, vals, []⟩ = decide (0 ≤ num ∧ num ≤ (s.shapes.length : Int) - 1) from rfl, show iF s ⟨1, num, vals, []⟩ = (decide (0 ≤ num ∧ num ≤ (s.shapes.length : Int) - 1) && decide ((vals.length : Int) = ((Sh.namesF s.shapes num).length : Int))) from rfl, eK]
   by_cases hb : 0 ≤ num ∧ num ≤ (s.shapes.length : Int) - 1
   ·have hlt : num < s.shapes.length := by omega
    rw [if_pos ⟨hb.1, hlt⟩, decide_eq_true hb]
    clear eK
    have hb' : decide (0 ≤ num ∧ num ≤ (s.shapes.length : Int) - 1) = true := decide_eq_true hb
    have h1000 : s.shapes.length ≤ 1000 := by omega
    clear hb
    (any_goals refine go dS 0 ?_)
    all_goals (try simp only [go_sem])
    exact congrArg (fun b => Bv b) (by simp)
   ·rw [decide_eq_false hb]
    simp only [Bool.and_false, Bool.false_and]
    have hb' : decide (0 ≤ num ∧ num ≤ (s.shapes.length : Int) - 1) = false := decide_eq_false hb
    clear eK ln hb
    (any_goals refine go dS 0 ?_)
    all_goals (try simp only [go_sem])
  ·rw [show numF s ⟨2, num, vals, []⟩ = decide (num = 0) from rfl, show iF s ⟨2, num, vals, []⟩ = true from rfl]
   (any_goals refine go dS 0 ?_)
   all_goals (try simp only [go_sem])
   exact congrArg (fun b => Bv b) (by simp)
  ·rw [show numF s ⟨3, num, vals, []⟩ = decide (num = 0) from rfl, show iF s ⟨3, num, vals, []⟩ = decide ((vals.length : Int) = 1) from rfl]
   (any_goals refine go dS 0 ?_)
   all_goals (try simp only [go_sem])
   exact congrArg (fun b => Bv b) (by simp)
  ·rw [show numF s ⟨4, num, vals, []⟩ = decide (0 ≤ num) from rfl, show iF s ⟨4, num, vals, []⟩ = !(vals.any fun v => !isF' s v 3) from rfl]
   have eA : (vals.any fun v => !isF' s v 3) = !(vals.all fun v => refF s v 3) := by
    rw [List.any_eq_not_all_not]
    refine congrArg (fun b => !b) ?_
    rw [Bool.eq_iff_iff, List.all_eq_true, List.all_eq_true]
    refine forall_congr' fun v => forall_congr' fun hv => ?_
    rw [Bool.not_not, Ww 3 (hall v hv)]
   rw [eA, Bool.not_not]
   clear eA hall
   (any_goals refine go dS 0 ?_)
   all_goals (try simp only [go_sem])
   refine bY (fun x : Nat × Nat => x.1 ≤ vals.length ∧ ∀ j v, j < x.1 → vals[j]? = some v → refF s v 3 = true) (fun x => ⟨190, [(2, bT s), (3, .r (.rp (aW ⟨4, num, vals, []⟩))), (121, aT vals), (122, Iv vals.length), (123, Iv x.1)], [(2, 2, .gone), (3, 2, .gone), (7, u, .gone), (14, x.2, .gone)]⟩) (fun x => vals.length - x.1) (0, 0) ⟨Nat.zero_le _, fun j v hj => by omega⟩ ?_
   rintro ⟨i, u'⟩ ⟨hi, hno⟩
   dsimp only at hi hno ⊢
   by_cases hlt : i < vals.length
   case pos =>
    obtain ⟨v, hx, hg, h1, h2, hw⟩ := cE valR vals hlt hcv
    rcases Bool.eq_false_or_eq_true (refF s v 3) with hv | hv
    ·have nx : ∀ j v, j < i + 1 → vals[j]? = some v → refF s v 3 = true := fun j v' hj hv' => by
      rcases Nat.lt_succ_iff_lt_or_eq.1 hj with h3 | h3
      ·exact hno j v' h3 hv'
      ·subst h3; rw [hx] at hv'; cases hv'; exact hv
     clear hno
     (any_goals refine go dS 0 ?_)
     refine ⟨(i + 1, u' + 9), ⟨by dsimp only; omega, nx⟩, by dsimp only; omega, ?_⟩
     dsimp only
     exact bF
    ·rw [lJ (q := fun v => refF s v 3) hx hv]
     simp only [Bool.and_false, Bool.false_and]
     clear hno
     (any_goals refine go dS 0 ?_)
     all_goals (try simp only [go_sem])
   obtain rfl : i = vals.length := by omega
   have e1 := bS vals
   rw [kM (q := fun v => refF s v 3) fun j x hj hx => hno j x hj hx]
   have eg : decide (0 ≤ num) = decide (-1 < num) := by rw [decide_eq_decide]; omega
   rw [eg]
   clear hno hi hlt eg
   (any_goals refine go dS 0 ?_)
   all_goals (try simp only [go_sem])
   exact congrArg (fun b => Bv b) (by simp)
  ·rw [show numF s ⟨5, num, vals, []⟩ = decide (0 ≤ num ∧ num ≤ 2) from rfl, show iF s ⟨5, num, vals, []⟩ = decide ((vals.length : Int) = 0) from rfl]
   clear hgw hq eN
   (any_goals refine go dS 0 ?_)
   all_goals (try simp only [go_sem])
   exact congrArg (fun b => Bv b) (by simp)
  ·rw [show numF s ⟨6, num, vals, []⟩ = decide (-1 ≤ num ∧ num ≤ 4) from rfl, show iF s ⟨6, num, vals, []⟩ = decide ((vals.length : Int) = 0) from rfl]
   (any_goals refine go dS 0 ?_)
   all_goals (try simp only [go_sem])
   exact congrArg (fun b => Bv b) (by simp)
  ·rw [show numF s ⟨7, num, vals, []⟩ = decide (num = 0) from rfl, show iF s ⟨7, num, vals, []⟩ = pV vals from rfl]
   clear hall
   (any_goals refine go dS 0 ?_)
   all_goals (try simp only [go_sem])
   refine bY (fun x : Nat × Nat => x.1 ≤ vals.length ∧ (((evK vals).take ((x.1 + 1) / 2)).all fun v => decide (v.1 = 5)) = true ∧ (((evK vals).take ((x.1 + 1) / 2)).map (·.2)).Nodup) (fun x => ⟨190, [(3, .r (.rp (aW ⟨7, num, vals, []⟩))), (154, aT vals), (155, Iv vals.length), (156, Iv x.1)], [(2, 2, .gone), (3, 2, .gone), (7, u, .gone), (16, x.2, .gone)]⟩) (fun x => vals.length - x.1) (0, 0) ⟨Nat.zero_le _, rfl, List.nodup_nil⟩ ?_
   rintro ⟨i, u'⟩ ⟨hi, h5, hn⟩
   dsimp only at hi h5 hn ⊢
   by_cases hlt : i < vals.length
   case neg =>
    obtain rfl : i = vals.length := by omega
    have e1 := bS vals
    have hl := Gf vals
    rw [List.take_of_length_le (by omega)] at h5 hn
    rw [Dg h5 hn]
    have em : decide (vals.length % 2 = 0) = decide (((vals.length : Int)).tmod 2 = 0) := by
     rw [decide_eq_decide, show ((vals.length : Int)).tmod 2 = ((vals.length % 2 : Nat) : Int) from rfl]; omega
    rw [em]
    clear em h5 hn hi hlt hl
    (any_goals refine go dS 0 ?_)
    all_goals (try simp only [go_sem])
    exact congrArg (fun b => Bv b) (by simp)
   obtain ⟨v, hx, hg, h1, h2, hw⟩ := cE valR vals hlt hcv
   rcases Nat.mod_two_eq_zero_or_one i with hm | hm
   case inr =>
    have e1 : decide (((i : Int)).tmod 2 = 1) = true := by
     rw [decide_eq_true_eq, show ((i : Int)).tmod 2 = ((i % 2 : Nat) : Int) from rfl]; omega
    have eq : (i + 1 + 1) / 2 = (i + 1) / 2 := by omega
    (any_goals refine go dS 0 ?_)
    refine ⟨(i + 1, u' + 9), ⟨by dsimp only; omega, by dsimp only; rw [eq]; exact h5, by dsimp only; rw [eq]; exact hn⟩, by dsimp only; omega, ?_⟩
    dsimp only
    exact bF
   obtain ⟨q, rfl⟩ : ∃ q, i = 2 * q := ⟨i / 2, by omega⟩
   have e1 : decide ((((2 * q : Nat) : Int)).tmod 2 = 1) = false := by
    rw [decide_eq_false_iff_not, show (((2 * q : Nat) : Int)).tmod 2 = (((2 * q) % 2 : Nat) : Int) from rfl]; omega
   rw [show (2 * q + 1) / 2 = q by omega] at h5 hn
   have hev : (evK vals)[q]? = some v := by rw [Cn]; exact hx
   by_cases hv5 : v.1 = 5
   case neg =>
    have d5 : decide (v.1 = 5) = false := by simpa using hv5
    rw [Co hev hv5]
    simp only [Bool.and_false, Bool.false_and]
    clear h5 hn
    (any_goals refine go dS 0 ?_)
    all_goals (try simp only [go_sem])
   obtain ⟨vk, n⟩ := v
   dsimp only at hv5
   subst hv5
   (any_goals refine go dS 0 ?_)
   refine bY (fun j : Nat => j ≤ q ∧ (5, n) ∉ (evK vals).take j) (fun j => ⟨190, [(3, .r (.rp (aW ⟨7, num, vals, []⟩))), (154, aT vals), (155, Iv vals.length), (156, Iv ((2 * q : Nat) : Int)), (16, .os 16 (u' + 1)), (15, Iv ((2 * q : Nat) : Int)), (17, Iv ((2 * j : Nat) : Int))], [(2, 2, .gone), (3, 2, .gone), (7, u, .gone), (16, u' + 1, .bx [Iv 5, Iv n])]⟩) (fun j => q - j) 0 ⟨Nat.zero_le _, by simp⟩ ?_
   rintro j ⟨hj, hno⟩
   by_cases hjq : j < q
   case neg =>
    obtain rfl : j = q := by omega
    have e2 : decide (((2 * j : Nat) : Int) < ((2 * j : Nat) : Int)) = false := by simp
    (any_goals refine go dS 0 ?_)
    have et : (evK vals).take (j + 1) = (evK vals).take j ++ [(5, n)] := by rw [List.take_add_one, hev]; rfl
    refine ⟨(2 * j + 1, u' + 9), ⟨by dsimp only; omega, ?_, ?_⟩, by dsimp only; omega, ?_⟩
    ·dsimp only
     rw [show (2 * j + 1 + 1) / 2 = j + 1 by omega, et, List.all_append, h5]; simp
    ·dsimp only
     rw [show (2 * j + 1 + 1) / 2 = j + 1 by omega, et, List.map_append]
     refine List.nodup_append.2 ⟨hn, by simp, ?_⟩
     rintro a ha b hb rfl
     obtain ⟨w, hw1, hw2⟩ := List.mem_map.1 ha
     have hw3 := List.all_eq_true.1 h5 w hw1
     simp at hb hw3
     exact hno (by rw [← hb, ← hw2, ← hw3]; exact hw1)
    ·dsimp only; exact bF
   obtain ⟨w, hwj⟩ : ∃ w, vals[2 * j]? = some w := ⟨vals[2 * j]'(by omega), List.getElem?_eq_getElem _⟩
   have gw := aE valR hwj ([] : List RV)
   have e2 : decide (((2 * j : Nat) : Int) < ((2 * q : Nat) : Int)) = true := by rw [decide_eq_true_eq]; omega
   have t2 : Int.toNat ((2 * j : Nat) : Int) = 2 * j := by omega
   have w2 : IntKind.i64.wrap (((2 * j : Nat) : Int) + 2) = ((2 * (j + 1) : Nat) : Int) := by rw [aN] <;> omega
   have hew : (evK vals)[j]? = some w := by rw [Cn]; exact hwj
   have yes : w = (5, n) → pV vals = false := fun h => by
    refine zH hev (List.mem_map.2 ⟨w, List.mem_of_getElem? (i := j) ?_, by rw [h]⟩)
    rw [List.getElem?_take, if_pos hjq]; exact hew
   have nx : w ≠ (5, n) → (5, n) ∉ (evK vals).take (j + 1) := fun h => by
    rw [List.take_add_one, hew]
    simp only [Option.toList, List.mem_append, List.mem_singleton, not_or]
    exact ⟨hno, fun e => h e.symm⟩
   clear hx hg h1 h2 hw hm hno h5 hn hev hew e1
   (any_goals refine go dS 0 ?_)
   repeat' (first | (refine Br.go (fun h h' => ?_) (fun h h' => ?_)) | (refine Br.mk (fun h => ?_) (fun h => ?_)))
   all_goals (try simp only [go_sem])
   ·rw [yes (by simp at h; exact Prod.ext h.1 h.2)]
    exact congrArg (fun b => Bv b) (by simp)
   ·refine ⟨j + 1, ⟨by omega, nx (by rintro rfl; simp at h)⟩, by omega, bF⟩
 obtain ⟨kind, num, vals, frames⟩ := c
 obtain ⟨h5, h0⟩ := hgw
 dsimp only at h5 h0
 subst h5 h0
 rw [show dM ⟨5, 0, vals, frames⟩ = 1 from if_pos ⟨rfl, rfl⟩, show numF s ⟨5, 0, vals, frames⟩ = true from rfl, show iF s ⟨5, 0, vals, frames⟩ = decide ((vals.length : Int) = 0) from rfl, show decide (0 ≤ (5 : Int) ∧ (5 : Int) ≤ 7) = true from rfl, Bool.true_and, Bool.true_and]
 dsimp only at *
 by_cases hf1 : frames.length = 1
 case neg =>
  have d0 : decide ((frames.length : Int) = 1) = false := by rw [decide_eq_false_iff_not]; omega
  rw [d0]
  simp only [Bool.and_false, Bool.false_and]
  clear hf1 hfr hcf hcv hwi
  refine aD [aU, cY, cD, Sh.ct_refNames] Tryz.func138 Tryz.ntmps138 Tryz.results138 ?_
  refine goR ?_
  refine fzB 2 ?_
  refine fzB 3 ?_
  (any_goals refine go dS 0 ?_)
  all_goals (try simp only [go_sem])
 obtain ⟨f, rfl⟩ := List.length_eq_one_iff.1 hf1
 clear hf1 l2
 have hreg := hrg f (List.mem_singleton.2 rfl)
 rw [show decide ((([f] : List aR).length : Int) = 1) = true from rfl, Bool.and_true, show [f].all (nC s) = nC s f from by simp]
 clear hfr hcf
 refine aD [aU, cY, cD, Sh.ct_refNames] Tryz.func138 Tryz.ntmps138 Tryz.results138 ?_
 refine goR ?_
 refine fzB 2 ?_
 refine fzB 3 ?_
 (any_goals refine go dS 0 ?_)
 refine bY (fun x : Nat × Nat => x.1 ≤ vals.length ∧ ∀ j v, j < x.1 → vals[j]? = some v → fitsF s v = true) (fun x => ⟨190, [(2, bT s), (3, .r (.rp (aW ⟨5, 0, vals, [f]⟩))), (32, aT vals), (33, Iv vals.length), (34, Iv x.1)], [(2, 2, .gone), (3, 2, .gone), (7, x.2, .gone)]⟩) (fun x => vals.length - x.1) (0, 0) ⟨Nat.zero_le _, fun j v hj => by omega⟩ ?_
 rintro ⟨i, u⟩ ⟨hi, hno⟩
 dsimp only at hi hno ⊢
 by_cases hlt : i < vals.length
 case pos =>
  obtain ⟨v, hx, hg, h1, h2, hw⟩ := cE valR vals hlt hcv
  rcases Bool.eq_false_or_eq_true (fitsF s v) with hv | hv
  ·have nx : ∀ j v, j < i + 1 → vals[j]? = some v → fitsF s v = true := fun j v' hj hv' => by
    rcases Nat.lt_succ_iff_lt_or_eq.1 hj with h3 | h3
    ·exact hno j v' h3 hv'
    ·subst h3; rw [hx] at hv'; cases hv'; exact hv
   clear hno
   (any_goals refine go dS 0 ?_)
   refine ⟨(i + 1, u + 9), ⟨by dsimp only; omega, nx⟩, by dsimp only; omega, ?_⟩
   dsimp only
   exact bF
  ·rw [lJ hx hv]
   simp only [Bool.and_false, Bool.false_and]
   clear hno
   (any_goals refine go dS 0 ?_)
   all_goals (try simp only [go_sem])
 obtain rfl : i = vals.length := by omega
 have e1 := bS vals
 rw [kM fun j x hj hx => hno j x hj hx]
 clear hno hi hlt
 (any_goals refine go dS 0 ?_)
 all_goals (try simp only [go_sem])
 refine bY (fun x : Nat × Nat => (x.1 = 0 ∨ x.1 = 1) ∧ (x.1 = 1 → nC s f = true)) (fun x => ⟨190, [(2, bT s), (3, .r (.rp (aW ⟨5, 0, vals, [f]⟩))), (44, bO [f]), (45, Iv 1), (46, Iv x.1)], [(2, 2, .gone), (3, 2, .gone), (7, u, .gone), (9, x.2, .gone), (11, x.2, .gone), (52, x.2, .gone), (55, x.2, .gone)]⟩) (fun x => 1 - x.1) (0, 0) ⟨.inl rfl, by simp⟩ ?_
 rintro ⟨i, w⟩ ⟨hi, hyes⟩
 dsimp only at hi hyes ⊢
 rcases hi with rfl | rfl
 case inr =>
  rw [hyes rfl, Bool.and_true]
  clear hyes
  (any_goals refine go dS 0 ?_)
  all_goals (try simp only [go_sem])
 clear hyes
 have hheld : nC s f = (f.self :: f.regs).all (fitsF s) := by unfold nC; rw [List.all_cons, Bool.and_comm]
 rw [hheld]
 obtain ⟨fn, pc, tov, gen, ⟨sk, sn⟩, regs, tries⟩ := f
 dsimp only at hreg hheld ⊢
 have l6 : (regs.map valC).length = regs.length := List.length_map ..
 have b1 : 1 + regs.length ≤ 9223372036854775807 := by omega
 have b2 : (1 + regs.length) * 16 ≤ 140737488355328 := by omega
 have l4 : (regs.map valR).length = regs.length := List.length_map ..
 (any_goals refine go dS 0 ?_)
 all_goals (try simp only [go_sem])
 (apply gU 52 (((sk, sn) :: regs).map valR); (exact rfl); (exact (Cc ((sk, sn) :: regs)).symm); (exact rfl); (intro K0; (try simp only [go_sem]); exact ⟨id⟩))
 have hl : ((sk, sn) :: regs).length ≤ 9223372036854775807 := by rw [List.length_cons]; omega
 have l7 : (((sk, sn) :: regs).map valR).length = ((sk, sn) :: regs).length := List.length_map ..
 have l8 : ((regs.length : Int) + 1) = (((sk, sn) :: regs).length : Int) := by rw [List.length_cons]; omega
 clear l4 l6 b1 b2
 refine bY (fun y : Nat × Nat => y.1 ≤ ((sk, sn) :: regs).length ∧ ∀ j v, j < y.1 → ((sk, sn) :: regs)[j]? = some v → fitsF s v = true) (fun y => ⟨190, [(2, bT s), (3, .r (.rp (aW ⟨5, 0, vals, [⟨fn, pc, tov, gen, (sk, sn), regs, tries⟩]⟩))), (44, bO [⟨fn, pc, tov, gen, (sk, sn), regs, tries⟩]), (45, Iv 1), (46, Iv 0), (55, aT ((sk, sn) :: regs)), (56, Iv ((sk, sn) :: regs).length), (57, Iv y.1)], [(2, 2, .gone), (3, 2, .gone), (7, u, .gone), (9, y.2, .gone), (11, y.2, .gone), (52, y.2, .gone), (55, y.2, .gone)]⟩) (fun y => ((sk, sn) :: regs).length - y.1) (0, w + 9) ⟨Nat.zero_le _, fun j v hj => by omega⟩ ?_
 rintro ⟨i, y⟩ ⟨hi, hno⟩
 dsimp only at hi hno ⊢
 clear hreg l8
 generalize hL : (sk, sn) :: regs = L at *
 by_cases hlt : i < L.length
 case pos =>
  obtain ⟨v, hx, hg, h1, h2, hw⟩ := cE valR L hlt hl
  rcases Bool.eq_false_or_eq_true (fitsF s v) with hv | hv
  ·have nx : ∀ j v, j < i + 1 → L[j]? = some v → fitsF s v = true := fun j v' hj hv' => by
    rcases Nat.lt_succ_iff_lt_or_eq.1 hj with h3 | h3
    ·exact hno j v' h3 hv'
    ·subst h3; rw [hx] at hv'; cases hv'; exact hv
   clear hno hL
   (any_goals refine go dS 0 ?_)
   refine ⟨(i + 1, y + 9), ⟨by dsimp only; omega, nx⟩, by dsimp only; omega, ?_⟩
   dsimp only
   exact bF
  ·rw [lJ hx hv]
   simp only [Bool.and_false, Bool.false_and]
   clear hno hL
   (any_goals refine go dS 0 ?_)
   all_goals (try simp only [go_sem])
 obtain rfl : i = L.length := by omega
 have e2 := bS L
 have hall : L.all (fitsF s) = true := kM fun j x hj hx => hno j x hj hx
 clear hno hi hlt hL
 (any_goals refine go dS 0 ?_)
 refine ⟨(1, y + 9), ⟨.inr rfl, fun _ => hall⟩, by dsimp only; omega, ?_⟩
 dsimp only
 exact bF
theorem If (ca sh tx th en sd : List (List RV)) (aq sq : Int) (c1 c2 : Int) (us vs : List (List RV)) (h : ((ca = (cellsOf ca).map aW ∧ sh = (valsOf sh).map valR ∧ tx = (strsOf tx).map strR ∧ th = (threadsOf th).map aJ ∧ en = (aG en).map endR ∧ sd = (valsOf sd).map valR) ∧ us = (valsOf us).map valR ∧ vs = (framesOf vs).map bA) ∧ Swf ⟨cellsOf ca, valsOf sh, strsOf tx, threadsOf th, aG en, valsOf sd, aq, sq⟩ ∧ Cwf ⟨c1, c2, valsOf us, framesOf vs⟩ ∧ Sh.checkF (valsOf sh) = 0 ∧ Ee ⟨c1, c2, valsOf us, framesOf vs⟩) : FC Cx 138 [.agg [.r (.rs 4 ca), .r (.rs 2 sh), .r (.rs 1 tx), .r (.rs 5 th), .r (.rs 3 en), .r (.rs 2 sd), Iv aq, Iv sq], .agg [Iv c1, Iv c2, .r (.rs 2 us), .r (.rs 8 vs)]] [] (Bv (eO ⟨cellsOf ca, valsOf sh, strsOf tx, threadsOf th, aG en, valsOf sd, aq, sq⟩ ⟨c1, c2, valsOf us, framesOf vs⟩)) [] := by
 have := Kz ⟨cellsOf ca, valsOf sh, strsOf tx, threadsOf th, aG en, valsOf sd, aq, sq⟩ ⟨c1, c2, valsOf us, framesOf vs⟩ h.2.1 h.2.2.1 h.2.2.2.1 h.2.2.2.2
 rwa [iJ _ _ _ _ _ _ _ _ h.1.1, show gL ⟨c1, c2, valsOf us, framesOf vs⟩ = .agg [Iv c1, Iv c2, .r (.rs 2 us), .r (.rs 8 vs)] from by
  show AV.agg [Iv c1, Iv c2, aT (valsOf us), bO (framesOf vs)] = _
  rw [fM h.1.2.1, yM h.1.2.2]] at this
def lD (args : List AV) (K : AV → Prop) : Prop := match args with
 | [.agg [.r (.rs 4 ca), .r (.rs 2 sh), .r (.rs 1 tx), .r (.rs 5 th), .r (.rs 3 en), .r (.rs 2 sd), .r (.v (.int .i64 aq)), .r (.v (.int .i64 sq))], .agg [.r (.v (.int .i64 c1)), .r (.v (.int .i64 c2)), .r (.rs 2 us), .r (.rs 8 vs)]] => (((ca = (cellsOf ca).map aW ∧ sh = (valsOf sh).map valR ∧ tx = (strsOf tx).map strR ∧ th = (threadsOf th).map aJ ∧ en = (aG en).map endR ∧ sd = (valsOf sd).map valR) ∧ us = (valsOf us).map valR ∧ vs = (framesOf vs).map bA) ∧ Swf ⟨cellsOf ca, valsOf sh, strsOf tx, threadsOf th, aG en, valsOf sd, aq, sq⟩ ∧ Cwf ⟨c1, c2, valsOf us, framesOf vs⟩ ∧ Sh.checkF (valsOf sh) = 0 ∧ Ee ⟨c1, c2, valsOf us, framesOf vs⟩) ∧ K (Bv (eO ⟨cellsOf ca, valsOf sh, strsOf tx, threadsOf th, aG en, valsOf sd, aq, sq⟩ ⟨c1, c2, valsOf us, framesOf vs⟩))
 | _ => False
noncomputable abbrev Dl : Ct Cx := .pure 138 lD fun args K h => by
 unfold lD at h; split at h; exact ⟨_, aA (If _ _ _ _ _ _ _ _ _ _ _ _ h.1) aSa rfl rfl, h.2⟩; exact h.elim
@[go_sem] theorem Uw : type_of% @lD.eq_def := @lD.eq_def
def iB (fs : List aR) : List Int := (fs.filter fun f => !decide (f.gen = -1)).map (·.gen)
def gV (ts : List aP) : List Int := (ts.map fun t => iB t.frames).flatten
theorem Nk {fs : List aR} {i : Nat} {f : aR} (hf : fs[i]? = some f) : iB (fs.take (i + 1)) = iB (fs.take i) ++ (if f.gen = -1 then [] else [f.gen]) := by
 unfold iB
 rw [List.take_add_one, hf, List.filter_append, List.map_append]
 by_cases h : f.gen = -1
 ·rw [if_pos h]; simp [h]
 ·rw [if_neg h]; simp [h]
theorem Pt {ts : List aP} {i : Nat} {t : aP} (ht : ts[i]? = some t) : gV (ts.take (i + 1)) = gV (ts.take i) ++ iB t.frames := by
 unfold gV
 rw [List.take_add_one, ht, List.map_append, List.flatten_append]
 simp
theorem Ev (fs : List aR) : (iB fs).length ≤ fs.length := by
 unfold iB; rw [List.length_map]; exact List.length_filter_le _ _
theorem xO : ∀ {ts : List aP}, (∀ t ∈ ts, t.frames.length ≤ 30) → (gV ts).length ≤ 30 * ts.length
 | [], _ => by simp [gV]
 | t :: ts, h => by
  have h1 := xO (ts := ts) fun u hu => h u (List.mem_cons_of_mem _ hu)
  have h2 := Ev t.frames
  have h3 := h t (List.mem_cons_self ..)
  have e : gV (t :: ts) = iB t.frames ++ gV ts := rfl
  rw [e, List.length_append, List.length_cons]
  omega
theorem aA7 (s : aC) (hl : s.threads.length ≤ 5) (hf : ∀ t ∈ s.threads, t.frames.length ≤ 30) : FC Cx 79 [aH s] [] (dF (gV s.threads)) [] := by
 have l1 : (s.threads.map aJ).length = s.threads.length := List.length_map ..
 refine fE [] Tryz.func79 rfl Tryz.ntmps79 (by simp) Tryz.results79 rfl ?_
 refine rnst ?_
 refine goR ?_
 refine fzB 1 ?_
 (any_goals refine go lv79 0 ?_)
 (apply kR 3 1003 3 1; (exact rfl); (exact rfl); (intro K0; (try simp only [go_sem]); exact ⟨id⟩))
 refine bY (fun x : Nat × Nat => x.1 ≤ s.threads.length) (fun x => ⟨33, [(3, .os 1003 (1 + (gV (s.threads.take x.1)).length)), (9, cI s.threads), (10, Iv s.threads.length), (11, Iv x.1)], [(1, 2, .gone), (1003, 1 + (gV (s.threads.take x.1)).length, .sl 3 1 ((gV (s.threads.take x.1)).map fun k => [Iv k])), (5, x.2, .gone), (7, x.2, .gone), (28, x.2, .gone)]⟩) (fun x => s.threads.length - x.1) (0, 0) (Nat.zero_le _) ?_
 rintro ⟨i, u⟩ hi
 dsimp only at hi ⊢
 by_cases hlt : i < s.threads.length
 case neg =>
  obtain rfl : i = s.threads.length := by omega
  have e1 := bS s.threads
  rw [List.take_length]
  (any_goals refine go lv79 0 ?_)
  all_goals (try simp only [go_sem])
 obtain ⟨t, hx, hg, h1, h2, hw⟩ := cE aJ s.threads hlt (by omega)
 have hfl := hf t (List.mem_of_getElem? hx)
 have l2 : (t.frames.map bA).length = t.frames.length := List.length_map ..
 have hnx := Pt hx
 have hL : (gV (s.threads.take i)).length ≤ 150 := by
  have := xO (ts := s.threads.take i) fun u hu => hf u (List.mem_of_mem_take hu)
  rw [List.length_take] at this
  omega
 generalize gV (s.threads.take i) = L at *
 (any_goals refine go lv79 0 ?_)
 refine bY (fun y : Nat × Nat => y.1 ≤ t.frames.length ∧ u ≤ y.2) (fun y => ⟨33, [(3, .os 1003 (1 + (L ++ iB (t.frames.take y.1)).length)), (9, cI s.threads), (10, Iv s.threads.length), (11, Iv i), (16, bO t.frames), (17, Iv t.frames.length), (18, Iv y.1)], [(1, 2, .gone), (1003, 1 + (L ++ iB (t.frames.take y.1)).length, .sl 3 1 ((L ++ iB (t.frames.take y.1)).map fun k => [Iv k])), (5, u + 1, .gone), (7, y.2, .gone), (28, y.2, .gone)]⟩) (fun y => t.frames.length - y.1) (0, u) ⟨Nat.zero_le _, Nat.le_refl _⟩ ?_ rfl ?_ ?_
 rotate_left
 ·exact ⟨by simp [bB, iB], rfl, rfl, rfl, rfl, rfl, rfl, trivial⟩
 ·exact ⟨rfl, .inl ⟨rfl, rfl⟩, by simp [iB], .inl ⟨by simp [iB], by simp [iB]⟩, rfl, .inr ⟨rfl, by omega⟩, rfl, .inl ⟨rfl, rfl⟩, rfl, .inl ⟨rfl, rfl⟩, trivial⟩
 rintro ⟨j, w⟩ ⟨hj, hwu⟩
 dsimp only at hj hwu ⊢
 by_cases hjl : j < t.frames.length
 case neg =>
  obtain rfl : j = t.frames.length := by omega
  have e1 := bS t.frames
  rw [List.take_length]
  have hnx2 : ∀ z, z = s.threads.take (i + 1) → gV z = L ++ iB t.frames := fun z hz => by rw [hz, hnx]
  clear hnx
  (any_goals refine go lv79 0 ?_)
  refine ⟨(i + 1, w + 9), by dsimp only; omega, by dsimp only; omega, ?_⟩
  dsimp only
  rw [hnx2 _ rfl]
  exact bF
 obtain ⟨f, hx', hg', j1, j2, jw⟩ := cE bA t.frames hjl (by omega)
 have hn2 := Nk hx'
 have hM : (iB (t.frames.take j)).length ≤ 30 := by
  have := Ev (t.frames.take j)
  rw [List.length_take] at this
  omega
 generalize iB (t.frames.take j) = M at *
 have lr : ((L ++ M).map fun k => [Iv k]).length = (L ++ M).length := List.length_map ..
 have lb : (L ++ M).length ≤ 1000 := by rw [List.length_append]; omega
 by_cases hgn : f.gen = -1
 ·have d0 : decide (f.gen = -1) = true := by simpa using hgn
  rw [if_pos hgn, List.append_nil] at hn2
  have hn3 : ∀ z, z = t.frames.take (j + 1) → iB z = M := fun z hz => by rw [hz, hn2]
  clear hgn hn2
  (any_goals refine go lv79 0 ?_)
  refine ⟨(j + 1, w + 9), ⟨by dsimp only; omega, by dsimp only; omega⟩, by dsimp only; omega, ?_⟩
  dsimp only
  rw [hn3 _ rfl]
  exact bF
 ·have d0 : decide (f.gen = -1) = false := by simpa using hgn
  rw [if_neg hgn] at hn2
  have hn3 : ∀ z, z = t.frames.take (j + 1) → L ++ iB z = (L ++ M) ++ [f.gen] := fun z hz => by rw [hz, hn2, List.append_assoc]
  clear hgn hn2
  generalize L ++ M = LM at *
  (any_goals refine go lv79 0 ?_)
  refine ⟨(j + 1, w + 9), ⟨by dsimp only; omega, by dsimp only; omega⟩, by dsimp only; omega, ?_⟩
  dsimp only
  rw [hn3 _ rfl]
  simp only [List.length_append, List.length_cons, List.length_nil, List.map_append, List.map_cons, List.map_nil]
  exact bF
def pA (p : aI) (s : aC) : Nat → Int → List aR → Bool
 | _, _, [] => true
 | k, low, f :: fs => cU p s f && decide (-1 ≤ f.tov ∧ f.tov ≤ low - 1) && ((p.fns.getD f.fn.toNat fn0).gen == !decide (f.gen = -1)) && (!(p.fns.getD f.fn.toNat fn0).gen || jB s k f) && pA p s (k + 1) f.regs.length fs
def jV (p : aI) (s : aC) (t : aP) : Bool := wK p s t && pA p s 0 0 t.frames
theorem Dd (p : aI) (s : aC) : ∀ (fs : List aR) (k : Nat) (low : Int), pA p s k low fs = true ↔ kW p s k low fs
 | [], k, low => by unfold pA kW; simp
 | f :: fs, k, low => by
  unfold pA kW
  simp only [Bool.and_eq_true, beq_iff_eq, Bool.or_eq_true, Bool.not_eq_true', decide_eq_true_eq]
  rw [Dd p s fs]
  constructor
  ·rintro ⟨⟨⟨⟨a1, a2⟩, a3⟩, a4⟩, a5⟩
   have hg : (p.fns.getD f.fn.toNat fn0).gen = true → 0 ≤ f.gen := fun h => by
    have := a4.resolve_left (by rw [h]; simp)
    unfold jB at this
    simp only [Bool.and_eq_true] at this
    exact (Bb this.1.2).1
   refine ⟨⟨?_, fun h0 => ?_⟩, a5⟩
   ·unfold onF
    rw [a1, decide_eq_true a2]
    by_cases h1 : f.gen = -1
    ·rw [a3, h1]; rfl
    ·have h2 : (p.fns.getD f.fn.toNat fn0).gen = true := by rw [a3]; simp [h1]
     have h3 := hg h2
     rw [h2, decide_eq_true h3, decide_eq_false (by omega)]; rfl
   ·refine a4.resolve_left ?_
    rw [a3]
    simp; omega
  ·rintro ⟨⟨a1, a2⟩, a3⟩
   have h0 := Rh a1
   unfold onF at a1
   simp only [Bool.and_eq_true, Bool.not_eq_true', decide_eq_true_eq, decide_eq_false_iff_not] at a1
   obtain ⟨⟨⟨b1, b2⟩, _⟩, b4⟩ := a1
   refine ⟨⟨⟨⟨b1, b2⟩, ?_⟩, ?_⟩, a3⟩
   ·rw [h0]
    by_cases h1 : 0 ≤ f.gen
    ·rw [decide_eq_true h1, decide_eq_false (by omega)]; rfl
    ·rw [decide_eq_false h1, decide_eq_true (show f.gen = -1 by omega)]; rfl
   ·by_cases h1 : 0 ≤ f.gen
    ·exact .inr (a2 h1)
    ·left; rw [h0, decide_eq_false h1]
theorem zD {p : aI} {s : aC} {t : aP} : jV p s t = true ↔ jY p s t := by
 unfold jV jY
 rw [Bool.and_eq_true, Dd]
theorem Bo (p : aI) (s : aC) (t : aP) (hp : Pgo p) (hfs : ∀ f ∈ t.frames, Gwf f) (hl : t.frames.length ≤ 30) (hl2 : s.threads.length ≤ 9223372036854775807) (hsl : s.cells.length ≤ 9223372036854775807) (hno : (((decide (t.state = 3) || decide (t.state = 4)) == decide ((t.frames.length : Int) = 0)) && ((decide (t.state = 3) || decide (t.state = 4)) || (decide (t.val.1 = 0) && decide (t.val.2 = 0))) && fitsF s t.val && decide (0 ≤ t.state ∧ t.state ≤ 4)) = false) :
  FC Cx 82 [bC p, aH s, dU t] [] (Bv false) [] := by
 have l0 : (t.frames.map bA).length = t.frames.length := List.length_map ..
 have l1 : (s.threads.map aJ).length = s.threads.length := List.length_map ..
 have l2 : (p.fns.map fnR).length = p.fns.length := List.length_map ..
 have lc : (s.cells.map aW).length = s.cells.length := List.length_map ..
 obtain ⟨fs, state, on, ⟨vk, vn⟩⟩ := t
 dsimp only at *
 have w1 : IntKind.i64.wrap ((s.threads.length : Int) - 1) = (s.threads.length : Int) - 1 := by rw [aN] <;> omega
 have hlen : decide ((0 : Int) < (fs.length : Int)) = !decide ((fs.length : Int) = 0) := by
  rw [← decide_not, decide_eq_decide]; omega
 obtain ⟨o3, r1⟩ : ∃ c, decide (state = 3) = c := ⟨_, rfl⟩
 obtain ⟨o4, r2⟩ : ∃ c, decide (state = 4) = c := ⟨_, rfl⟩
 obtain ⟨e, r3⟩ : ∃ c, decide ((fs.length : Int) = 0) = c := ⟨_, rfl⟩
 obtain ⟨v1, r4⟩ : ∃ c, decide (vk = 0) = c := ⟨_, rfl⟩
 obtain ⟨v2, r5⟩ : ∃ c, decide (vn = 0) = c := ⟨_, rfl⟩
 obtain ⟨ff, r6⟩ : ∃ c, fitsF s (vk, vn) = c := ⟨_, rfl⟩
 obtain ⟨w, r7⟩ : ∃ c, decide (0 ≤ state ∧ state ≤ 4) = c := ⟨_, rfl⟩
 rw [r1, r2, r3, r4, r5, r6, r7] at hno
 rw [r3] at hlen
 cases w with
 | false =>
  refine aD [aU, cD, cY, fP] Tryz.func82 Tryz.ntmps82 Tryz.results82 ?_
  refine goR ?_
  refine fzB 3 ?_
  refine fzB 4 ?_
  refine fzB 5 ?_
  (any_goals refine go lv82 0 ?_)
  all_goals (try simp only [go_sem])
 | true =>
 by_cases hoe : ((o3 || o4) == e) = false
 ·skip
  cases o3 <;> cases o4 <;> cases e <;> first | cases hoe | skip
  all_goals
   refine aD [aU, cD, cY, fP] Tryz.func82 Tryz.ntmps82 Tryz.results82 ?_
   refine goR ?_
   refine fzB 3 ?_
   refine fzB 4 ?_
   refine fzB 5 ?_
   (any_goals refine go lv82 0 ?_)
   all_goals (try simp only [go_sem])
 by_cases hov : ((o3 || o4) || (v1 && v2)) = false
 ·skip
  cases o3 <;> cases o4 <;> cases v1 <;> cases v2 <;> first | cases hov | skip
  all_goals cases e <;> first | cases hoe rfl | skip
  all_goals
   refine aD [aU, cD, cY, fP] Tryz.func82 Tryz.ntmps82 Tryz.results82 ?_
   refine goR ?_
   refine fzB 3 ?_
   refine fzB 4 ?_
   refine fzB 5 ?_
   (any_goals refine go lv82 0 ?_)
   all_goals (try simp only [go_sem])
 rw [Bool.not_eq_false] at hoe hov
 cases ff with
 | false =>
  cases o3 <;> cases o4 <;> cases e <;> first | cases hoe | skip
  all_goals cases v1 <;> cases v2 <;> first | cases hov | skip
  all_goals
   refine aD [aU, cD, cY, fP] Tryz.func82 Tryz.ntmps82 Tryz.results82 ?_
   refine goR ?_
   refine fzB 3 ?_
   refine fzB 4 ?_
   refine fzB 5 ?_
   (any_goals refine go lv82 0 ?_)
   all_goals (try simp only [go_sem])
 | true =>
  rw [hoe, hov] at hno
  cases hno
theorem aEs {s : aC} (v : Int × Int) {q : Int} (hq : q ≠ 0) : isF' s v q = refF s v q := by
 obtain ⟨k, n⟩ := v
 unfold isF' refF fitsF
 dsimp only
 by_cases h5 : k = 5
 ·subst h5
  rw [show fV 5 n = decide (0 ≤ n) from rfl, if_neg (by decide), if_pos rfl, Bool.eq_iff_iff]
  simp only [Bool.and_eq_true, decide_eq_true_eq, Bool.not_eq_true', decide_eq_false_iff_not, decide_true, true_and]
  constructor
  ·rintro ⟨⟨⟨a, b, c⟩, _⟩, d⟩; exact ⟨⟨a, b⟩, d⟩
  ·rintro ⟨⟨a, b⟩, d⟩; exact ⟨⟨⟨a, b, by rw [d]; exact hq⟩, trivial⟩, d⟩
 ·have d5 : decide (k = 5) = false := by simpa using h5
  rw [d5]; simp
noncomputable def Pe (s : aC) : Bool := iY s.texts && (s.shapes.all fun x => decide (x.2 < (s.texts.length : Int))) && s.cells.all (eO s) && (s.said.all fun v => decide (v.1 = 4) && fitsF s v) && (s.ends.all fun e => decide (0 ≤ e.cell ∧ e.cell ≤ (s.cells.length : Int) - 1) && refF s e.fn 4)
theorem zU {α : Type} {l : List α} {p q : α → Bool} (h : ∀ x, p x = !q x) : l.any p = !l.all q := by
 rw [List.any_eq_not_all_not]
 refine congrArg (fun b => !b) (congrArg l.all (funext fun x => ?_))
 rw [h, Bool.not_not]
theorem Zc (s : aC) : dE s = if kV s = true then 2 else if Sh.checkF s.shapes ≠ 0 then Sh.checkF s.shapes else if Pe s = true then 0 else 3 := by
 unfold dE Pe
 rw [zU (l := s.shapes) (q := fun x => decide (x.2 < (s.texts.length : Int))) (fun x => by rw [← decide_not, decide_eq_decide]; omega), zU (l := s.cells) (q := eO s) (fun _ => rfl),
  zU (l := s.said) (q := fun v => decide (v.1 = 4) && fitsF s v) (fun v => by unfold badS; simp), zU (l := s.ends) (q := fun e => decide (0 ≤ e.cell ∧ e.cell ≤ (s.cells.length : Int) - 1) && refF s e.fn 4) (fun e => by unfold badE; rw [aEs e.fn (by decide)]; simp)]
 cases iY s.texts <;> cases s.shapes.all _ <;> cases s.cells.all _ <;> cases s.said.all _ <;> cases s.ends.all _ <;> simp
def uC (p : aI) (s : aC) (x : bJ × Nat) : Bool := dL p s x.1 && (!(decide (x.1.kind = 5) && decide (x.1.num = 1)) || decide ((x.2 : Int) ∈ gV s.threads))
def preD (p : aI) (s : aC) : Bool := decide (0 < s.threads.length) && decide (p.texts.length ≤ s.texts.length) && decide (0 ≤ s.steps ∧ s.steps ≤ 1000000000) && decide (0 ≤ s.asked ∧ s.asked ≤ 1000000000) && decide (s.texts.take p.texts.length = p.texts)
def Gr (p : aI) (s : aC) : Bool := preD p s && (decide (gV s.threads).Nodup && s.cells.zipIdx.all (uC p s) && s.threads.all (jV p s))
theorem zG {p : aI} {s : aC} : ∀ {fs : List aR} {k : Nat} {low : Int}, kW p s k low fs → iB fs = oB fs
 | [], _, _, _ => rfl
 | f :: fs, k, low, h => by
  unfold kW at h
  have h2 := zG h.2
  have h3 : ¬ f.gen < -1 := by
   have := h.1.1
   unfold onF at this
   simp only [Bool.and_eq_true, Bool.not_eq_true', decide_eq_false_iff_not] at this
   exact this.2
  unfold iB oB at h2 ⊢
  by_cases h1 : 0 ≤ f.gen
  ·rw [List.filter_cons_of_pos (by simp; omega), List.filter_cons_of_pos (by simpa using h1), List.map_cons, List.map_cons, h2]
  ·rw [List.filter_cons_of_neg (by simp; omega), List.filter_cons_of_neg (by simpa using h1), h2]
theorem qZ {p : aI} {s : aC} : ∀ {ts : List aP}, (∀ t ∈ ts, jY p s t) → gV ts = rH ts
 | [], _ => rfl
 | t :: ts, h => by
  show iB t.frames ++ gV ts = oB t.frames ++ rH ts
  rw [zG (h t (List.mem_cons_self ..)).2, qZ fun u hu => h u (List.mem_cons_of_mem _ hu)]
theorem On (p : aI) (s : aC) : Gr p s = uS p s := by
 rw [Bool.eq_iff_iff]
 unfold Gr uS preD
 simp only [Bool.and_eq_true, decide_eq_true_eq, Bool.not_eq_true', decide_eq_false_iff_not, List.all_eq_true]
 constructor
 ·rintro ⟨⟨⟨⟨⟨a1, a2⟩, a3⟩, a4⟩, a5⟩, ⟨a6, a7⟩, a8⟩
  have ht : ∀ t ∈ s.threads, jY p s t := fun t h => zD.1 (a8 t h)
  have eg := qZ ht
  rw [eg] at a6
  have hg : (threadsG p s s.threads []).1 = true := lF.2 ⟨ht, a6⟩
  refine ⟨⟨⟨⟨⟨⟨⟨a2, a5⟩, a3⟩, a4⟩, by omega⟩, fun c hc => ?_⟩, hg⟩, fun x hx => ?_⟩
  ·obtain ⟨k, hk⟩ := List.mem_iff_getElem?.1 hc
   have := a7 (c, k) (by rw [List.mem_zipIdx_iff_getElem?]; exact hk)
   unfold uC at this
   rw [Bool.and_eq_true] at this
   exact this.1
  ·have := a7 x hx
   unfold uC at this
   rw [Bool.and_eq_true, eg] at this
   have e : decide ((x.2 : Int) ∈ (threadsG p s s.threads []).2) = decide ((x.2 : Int) ∈ rH s.threads) := by rw [decide_eq_decide]; exact mI hg _
   rw [e]; exact this.2
 ·rintro ⟨⟨⟨⟨⟨⟨⟨a1, a2⟩, a3⟩, a4⟩, a5⟩, a6⟩, a7⟩, a8⟩
  have h9 := lF.1 a7
  have eg := qZ h9.1
  refine ⟨⟨⟨⟨⟨by omega, a1⟩, a3⟩, a4⟩, a2⟩, ⟨by rw [eg]; exact h9.2, fun x hx => ?_⟩, fun t h => zD.2 (h9.1 t h)⟩
  unfold uC
  rw [Bool.and_eq_true, eg]
  refine ⟨a6 x.1 ?_, ?_⟩
  ·obtain ⟨c, k⟩ := x
   rw [List.mem_zipIdx_iff_getElem?] at hx
   exact List.mem_of_getElem? hx
  ·have e : decide ((x.2 : Int) ∈ (threadsG p s s.threads []).2) = decide ((x.2 : Int) ∈ rH s.threads) := by rw [decide_eq_decide]; exact mI a7 _
   rw [← e]; exact a8 x hx
theorem Li (p : aI) (s : aC) : eQ p s = if checkF p ≠ 0 then checkF p else if dE s ≠ 0 then dE s else if yS s = true then 2 else if Gr p s = true then 0 else 3 := by
 unfold eQ; rw [On]
def kG (s : aC) : Prop := ∀ c ∈ s.cells, Ee c
theorem Mg (s : aC) (hs : Swf s) (hrg : kG s) : FC Cx 78 [aH s] [] (Iv (dE s)) [] := by
 have hl := hs.len
 obtain ⟨s1, s2, s3, s4, s5, s6⟩ := hs.len
 have l1 : (s.cells.map aW).length = s.cells.length := List.length_map ..
 have l2 : (s.texts.map strR).length = s.texts.length := List.length_map ..
 have l3 : (s.said.map valR).length = s.said.length := List.length_map ..
 have l4 : (s.ends.map endR).length = s.ends.length := List.length_map ..
 have l5 : (s.shapes.map valR).length = s.shapes.length := List.length_map ..
 have hshw := hs.shapes
 rw [Zc]
 refine aD [Sh.ct_fault, yV, Dl, cY, cD, aU] Tryz.func78 Tryz.ntmps78 Tryz.results78 ?_
 refine goR ?_
 refine fzB 1 ?_
 (any_goals refine go lv78 0 ?_)
 -- texts that are too long
 generalize hA0 : (decide ((300 : Int) < (s.cells.length : Int)) || decide ((300 : Int) < (s.texts.length : Int)) || decide ((200 : Int) < (s.said.length : Int)) || decide ((100 : Int) < (s.ends.length : Int))) = A0
 refine cL [1, 3, 46, 47, 48] (fun k : Nat => k ≤ s.texts.length) (fun k => ⟨203, [(1, bT s), (3, Bv (A0 || (s.texts.take k).any bigS)), (46, bZ s.texts), (47, Iv s.texts.length), (48, Iv k)], [(1, 2, .gone)]⟩) (fun k => s.texts.length - k) 0 (Nat.zero_le _) ?_ rfl (by simp [cG, memN, hA0])
 intro k hk
 by_cases hlt : k < s.texts.length
 case pos =>
  obtain ⟨x, hx, hg, h1, h2, hw⟩ := cE strR s.texts hlt (by omega)
  (any_goals refine go lv78 0 ?_)
  refine ⟨k + 1, by omega, by omega, ?_⟩
  rw [rZ hx, ← Bool.or_assoc]
  exact aY [1, 3, 46, 47, 48]
 obtain rfl : k = s.texts.length := by omega
 have e1 := bS s.texts
 have c2 : (A0 || s.texts.any bigS || s.cells.any bigC) = kV s := by rw [← hA0]; rfl
 rw [List.take_length]
 clear hlt hk
 generalize hA1 : (A0 || s.texts.any bigS) = A1 at *
 (any_goals refine go lv78 0 ?_)
 clear e1
 -- cells that are too large
 refine cL [1, 3, 60, 61, 62] (fun x : Nat × Nat => x.1 ≤ s.cells.length) (fun x => let k := x.1; let u := x.2; ⟨203, [(1, bT s), (3, Bv (A1 || (s.cells.take k).any bigC)), (60, dO s.cells), (61, Iv s.cells.length), (62, Iv k)], [(1, 2, .gone), (7, u, .gone), (16, u, .gone), (18, u, .gone), (20, u, .gone), (22, u, .gone)]⟩) (fun x => s.cells.length - x.1) (0, 0) (Nat.zero_le _) ?_ rfl (by simp [cG, memN])
 rintro ⟨k, u⟩ hk
 dsimp only at hk ⊢
 by_cases hlt : k < s.cells.length
 case pos =>
  obtain ⟨c, hx, hg, h1, h2, hw⟩ := cE aW s.cells hlt (by omega)
  have lv : (c.vals.map valR).length = c.vals.length := List.length_map ..
  have hb : bigC c = (if c.kind = 7 then decide ((600 : Int) < (c.vals.length : Int)) else decide ((100 : Int) < (c.vals.length : Int))) := by
   unfold bigC
   by_cases h7 : c.kind = 7
   ·rw [if_pos h7, decide_eq_true h7, Bool.not_true, Bool.false_or, Bool.eq_iff_iff]; simp; omega
   ·rw [if_neg h7, decide_eq_false h7, Bool.not_false, Bool.true_or, Bool.and_true]
  have eb := rZ (q := bigC) hx
  by_cases h7 : c.kind = 7
  ·rw [if_pos h7] at hb
   have d7 : decide (c.kind = 7) = true := by simpa using h7
   clear h7
   (any_goals refine go lv78 0 ?_)
   refine ⟨(k + 1, u + 9), by dsimp only; omega, by dsimp only; omega, ?_⟩
   dsimp only
   rw [eb, hb, ← Bool.or_assoc]
   exact aY [1, 3, 60, 61, 62]
  ·rw [if_neg h7] at hb
   have d7 : decide (c.kind = 7) = false := by simpa using h7
   clear h7
   (any_goals refine go lv78 0 ?_)
   refine ⟨(k + 1, u + 9), by dsimp only; omega, by dsimp only; omega, ?_⟩
   dsimp only
   rw [eb, hb, ← Bool.or_assoc]
   exact aY [1, 3, 60, 61, 62]
 obtain rfl : k = s.cells.length := by omega
 have e1 := bS s.cells
 rw [List.take_length, c2]
 clear hlt hk c2 hA1
 cases hL : kV s with
 | true =>
  rw [if_pos rfl]
  (any_goals refine go lv78 0 ?_)
  all_goals (try simp only [go_sem])
 | false =>
 rw [if_neg (by simp)]
 have hp := Db hL
 by_cases hk : Sh.checkF s.shapes = 0
 case neg =>
  rw [if_pos hk]
  have d0 : decide (Sh.checkF s.shapes = 0) = false := by simpa using hk
  (any_goals refine go lv78 0 ?_)
  all_goals (try simp only [go_sem])
 rw [if_neg (by simpa using hk)]
 have d0 : decide (Sh.checkF s.shapes = 0) = true := by simpa using hk
 have hc3 := hp.cells
 (any_goals refine go lv78 0 ?_)
 clear e1
 -- texts
 generalize hB0 : decide ((19 : Int) ≤ (s.texts.length : Int)) = B0
 refine cL [1, 10, 90, 91, 92] (fun k : Nat => k ≤ s.texts.length) (fun k => ⟨203, [(1, bT s), (10, Bv (B0 && tOk s.texts k)), (90, bZ s.texts), (91, Iv s.texts.length), (92, Iv k)], [(1, 2, .gone), (7, u, .gone), (16, u, .gone), (18, u, .gone), (20, u, .gone), (22, u, .gone)]⟩) (fun k => s.texts.length - k) 0 (Nat.zero_le _) ?_ rfl (by simp [cG, memN, hB0, tOk])
 intro k hk
 by_cases hlt : k < s.texts.length
 case pos =>
  have c1 : decide ((k : Int) < (s.texts.length : Int)) = true := by rw [decide_eq_true_eq]; omega
  have t1 : Int.toNat (k : Int) = k := by omega
  have w1 : IntKind.i64.wrap ((k : Int) + 1) = ((k + 1 : Nat) : Int) := by rw [aN] <;> omega
  obtain ⟨t, ht⟩ : ∃ t, s.texts[k]? = some t := ⟨s.texts[k], List.getElem?_eq_getElem hlt⟩
  have hg := aE strR ht ([] : List RV)
  have hm : List.drop 0 (List.take k (s.texts.map strR)) = (s.texts.take k).map strR := by rw [List.map_take]; rfl
  have lm : ((s.texts.take k).map strR).length = k := by simp; omega
  have ek : s.texts.getD k ⟨#[]⟩ = t := by simp [List.getD, ht]
  (any_goals refine go (eM 24 lv78) 0 ?_)
  refine mL (st' := ⟨203, [(1, bT s), (10, Bv (B0 && tOk s.texts k && (decide (19 ≤ k) || decide (t = cJ.getD k ⟨#[]⟩)))), (90, bZ s.texts), (91, Iv s.texts.length), (92, Iv k), (11, Iv k), (12, Sv t)], [(1, 2, .gone), (7, u, .gone), (16, u, .gone), (18, u, .gone), (20, u, .gone), (22, u, .gone)]⟩) True rfl ?_ fun _ => ?_
  ·cases hq : (B0 && tOk s.texts k) with
   | false =>
    simp only [Bool.false_and]
    (any_goals refine go lv78 0 ?_)
    all_goals (try simp only [go_sem])
    exact Lx.le (aY [1, 10, 90, 91, 92, 11, 12])
   | true =>
    by_cases h19 : 19 ≤ k
    ·have e2 : decide ((19 : Int) ≤ (k : Int)) = true := by rw [decide_eq_true_eq]; omega
     rw [decide_eq_true h19]
     (any_goals refine go lv78 0 ?_)
     all_goals (try simp only [go_sem])
     exact Lx.le (aY [1, 10, 90, 91, 92, 11, 12])
    ·have e2 : decide ((19 : Int) ≤ (k : Int)) = false := by rw [decide_eq_false_iff_not]; omega
     rw [decide_eq_false h19]
     obtain ⟨x, hx⟩ : ∃ x, cJ[k]? = some x := ⟨cJ[k]'(by rw [mM]; omega), List.getElem?_eq_getElem _⟩
     have hgw := aE strR hx ([] : List RV)
     have ew : cJ.getD k ⟨#[]⟩ = x := by simp [List.getD, hx]
     rw [ew]
     (any_goals refine go lv78 0 ?_)
     all_goals (try simp only [go_sem])
     exact Lx.le (aY [1, 10, 90, 91, 92, 11, 12])
  generalize hX : (B0 && tOk s.texts k && (decide (19 ≤ k) || decide (t = cJ.getD k ⟨#[]⟩))) = X
  (any_goals refine go lv78 0 ?_)
  refine cL [1, 10, 90, 91, 92, 12, 113, 114, 115] (fun i : Nat => i ≤ k) (fun i => ⟨203, [(1, bT s), (10, Bv (X && ((s.texts.take k).take i).all fun u => !decide (t = u))), (90, bZ s.texts), (91, Iv s.texts.length), (92, Iv k), (12, Sv t), (113, bZ (s.texts.take k)), (114, Iv k), (115, Iv i)], [(1, 2, .gone), (7, u, .gone), (16, u, .gone), (18, u, .gone), (20, u, .gone), (22, u, .gone)]⟩) (fun i => k - i) 0 (Nat.zero_le _) ?_ rfl (by simp [cG, memN])
  intro i hi
  by_cases hik : i < k
  case pos =>
   have c2 : decide ((i : Int) < (k : Int)) = true := by rw [decide_eq_true_eq]; omega
   have t2 : Int.toNat (i : Int) = i := by omega
   have w2 : IntKind.i64.wrap ((i : Int) + 1) = ((i + 1 : Nat) : Int) := by rw [aN] <;> omega
   obtain ⟨y, hy⟩ : ∃ s', (s.texts.take k)[i]? = some s' := ⟨(s.texts.take k)[i]'(by simp; omega), List.getElem?_eq_getElem _⟩
   have hgy := aE strR hy ([] : List RV)
   (any_goals refine go lv78 0 ?_)
   refine ⟨i + 1, by omega, by omega, ?_⟩
   rw [hZ hy, ← Bool.and_assoc]
   exact aY [1, 10, 90, 91, 92, 12, 113, 114, 115]
  obtain rfl : i = k := by omega
  have c2 : decide ((i : Int) < (i : Int)) = false := by rw [decide_eq_false_iff_not]; omega
  have eX : (X && ((s.texts.take i).take i).all fun u => !decide (t = u)) = (B0 && tOk s.texts (i + 1)) := by
   rw [Ja, ← hX]
   unfold tOne
   rw [ek, List.take_of_length_le (l := s.texts.take i) (by simp; omega)]
   simp only [Bool.and_assoc]
  rw [eX]
  (any_goals refine go lv78 0 ?_)
  refine ⟨i + 1, by omega, by omega, ?_⟩
  exact aY [1, 10, 90, 91, 92]
 obtain rfl : k = s.texts.length := by omega
 have e1 := bS s.texts
 have hC0 : (B0 && tOk s.texts s.texts.length) = iY s.texts := by
  unfold iY
  by_cases h19 : 19 ≤ s.texts.length
  ·rw [← hB0, decide_eq_true (show (19 : Int) ≤ (s.texts.length : Int) by omega), decide_eq_true h19, Bool.true_and, Bool.true_and, Qe _ h19]
  ·rw [← hB0, decide_eq_false (show ¬ (19 : Int) ≤ (s.texts.length : Int) by omega), decide_eq_false h19]; rfl
 rw [hC0]
 clear hlt hC0 hB0 hk
 unfold Pe
 generalize iY s.texts = C0
 (any_goals refine go lv78 0 ?_)
 clear e1
 -- shapes
 refine cL [1, 10, 128, 129, 130] (fun x : Nat × Nat => x.1 ≤ s.shapes.length) (fun x => let k := x.1; let u := x.2; ⟨203, [(1, bT s), (10, Bv (C0 && (s.shapes.take k).all (fun x => decide (x.2 < (s.texts.length : Int))))), (128, aT s.shapes), (129, Iv s.shapes.length), (130, Iv k)], [(1, 2, .gone), (7, u, .gone), (16, u, .gone), (18, u, .gone), (20, u, .gone), (22, u, .gone)]⟩) (fun x => s.shapes.length - x.1) (0, u) (Nat.zero_le _) ?_ rfl (by simp [cG, memN])
 clear u
 rintro ⟨k, u⟩ hk
 dsimp only at hk ⊢
 by_cases hlt : k < s.shapes.length
 case pos =>
  obtain ⟨x, hx, hg, h1, h2, hw⟩ := cE valR s.shapes hlt (by omega)
  have eb := hZ (q := (fun x => decide (x.2 < (s.texts.length : Int)))) hx
  generalize (s.shapes.take k).all (fun x => decide (x.2 < (s.texts.length : Int))) = T at *
  (any_goals refine go lv78 0 ?_)
  refine ⟨(k + 1, u + 9), by dsimp only; omega, by dsimp only; omega, ?_⟩
  dsimp only
  rw [eb, ← Bool.and_assoc]
  exact aY [1, 10, 128, 129, 130]
 obtain rfl : k = s.shapes.length := by omega
 have e1 := bS s.shapes
 rw [List.take_length]
 clear hlt hk
 generalize (C0 && s.shapes.all (fun x => decide (x.2 < (s.texts.length : Int)))) = C1
 (any_goals refine go lv78 0 ?_)
 clear e1
 -- cells
 refine cL [1, 10, 145, 146, 147] (fun x : Nat × Nat => x.1 ≤ s.cells.length) (fun x => let k := x.1; let u := x.2; ⟨203, [(1, bT s), (10, Bv (C1 && (s.cells.take k).all (eO s))), (145, dO s.cells), (146, Iv s.cells.length), (147, Iv k)], [(1, 2, .gone), (7, u, .gone), (16, u, .gone), (18, u, .gone), (20, u, .gone), (22, u, .gone)]⟩) (fun x => s.cells.length - x.1) (0, u) (Nat.zero_le _) ?_ rfl (by simp [cG, memN])
 clear u
 rintro ⟨k, u⟩ hk
 dsimp only at hk ⊢
 by_cases hlt : k < s.cells.length
 case pos =>
  obtain ⟨x, hx, hg, h1, h2, hw⟩ := cE aW s.cells hlt (by omega)
  have hcw := hs.cell x (List.mem_of_getElem? hx)
  have hcr := hrg x (List.mem_of_getElem? hx)
  have eb := hZ (q := (eO s)) hx
  generalize (s.cells.take k).all (eO s) = T at *
  (any_goals refine go lv78 0 ?_)
  refine ⟨(k + 1, u + 9), by dsimp only; omega, by dsimp only; omega, ?_⟩
  dsimp only
  rw [eb, ← Bool.and_assoc]
  exact aY [1, 10, 145, 146, 147]
 obtain rfl : k = s.cells.length := by omega
 have e1 := bS s.cells
 rw [List.take_length]
 clear hlt hk
 generalize (C1 && s.cells.all (eO s)) = C2
 (any_goals refine go lv78 0 ?_)
 clear e1
 -- what was said
 refine cL [1, 10, 159, 160, 161] (fun x : Nat × Nat => x.1 ≤ s.said.length) (fun x => let k := x.1; let u := x.2; ⟨203, [(1, bT s), (10, Bv (C2 && (s.said.take k).all (fun v => decide (v.1 = 4) && fitsF s v))), (159, aT s.said), (160, Iv s.said.length), (161, Iv k)], [(1, 2, .gone), (7, u, .gone), (16, u, .gone), (18, u, .gone), (20, u, .gone), (22, u, .gone)]⟩) (fun x => s.said.length - x.1) (0, u) (Nat.zero_le _) ?_ rfl (by simp [cG, memN])
 clear u
 rintro ⟨k, u⟩ hk
 dsimp only at hk ⊢
 by_cases hlt : k < s.said.length
 case pos =>
  obtain ⟨x, hx, hg, h1, h2, hw⟩ := cE valR s.said hlt (by omega)
  have eb := hZ (q := (fun v => decide (v.1 = 4) && fitsF s v)) hx
  generalize (s.said.take k).all (fun v => decide (v.1 = 4) && fitsF s v) = T at *
  (any_goals refine go lv78 0 ?_)
  refine ⟨(k + 1, u + 9), by dsimp only; omega, by dsimp only; omega, ?_⟩
  dsimp only
  rw [eb, ← Bool.and_assoc, ← Bool.and_assoc]
  exact aY [1, 10, 159, 160, 161]
 obtain rfl : k = s.said.length := by omega
 have e1 := bS s.said
 rw [List.take_length]
 clear hlt hk
 generalize (C2 && s.said.all (fun v => decide (v.1 = 4) && fitsF s v)) = C3
 (any_goals refine go lv78 0 ?_)
 clear e1
 -- ends
 refine cL [1, 10, 178, 179, 180] (fun x : Nat × Nat => x.1 ≤ s.ends.length) (fun x => let k := x.1; let u := x.2; ⟨203, [(1, bT s), (10, Bv (C3 && (s.ends.take k).all (fun e => decide (0 ≤ e.cell ∧ e.cell ≤ (s.cells.length : Int) - 1) && refF s e.fn 4))), (178, eY s.ends), (179, Iv s.ends.length), (180, Iv k)], [(1, 2, .gone), (7, u, .gone), (16, u, .gone), (18, u, .gone), (20, u, .gone), (22, u, .gone)]⟩) (fun x => s.ends.length - x.1) (0, u) (Nat.zero_le _) ?_ rfl (by simp [cG, memN])
 clear u
 rintro ⟨k, u⟩ hk
 dsimp only at hk ⊢
 by_cases hlt : k < s.ends.length
 case pos =>
  obtain ⟨x, hx, hg, h1, h2, hw⟩ := cE endR s.ends hlt (by omega)
  have w1 : IntKind.i64.wrap ((s.cells.length : Int) - 1) = (s.cells.length : Int) - 1 := by rw [aN] <;> omega
  have eb := hZ (q := (fun e => decide (0 ≤ e.cell ∧ e.cell ≤ (s.cells.length : Int) - 1) && refF s e.fn 4)) hx
  generalize (s.ends.take k).all (fun e => decide (0 ≤ e.cell ∧ e.cell ≤ (s.cells.length : Int) - 1) && refF s e.fn 4) = T at *
  (any_goals refine go lv78 0 ?_)
  refine ⟨(k + 1, u + 9), by dsimp only; omega, by dsimp only; omega, ?_⟩
  dsimp only
  rw [eb, ← Bool.and_assoc, ← Bool.and_assoc]
  exact aY [1, 10, 178, 179, 180]
 obtain rfl : k = s.ends.length := by omega
 have e1 := bS s.ends
 rw [List.take_length]
 clear hlt hk
 generalize (C3 && s.ends.all (fun e => decide (0 ≤ e.cell ∧ e.cell ≤ (s.cells.length : Int) - 1) && refF s e.fn 4)) = C4
 cases C4
 all_goals
  (any_goals refine go lv78 0 ?_)
  all_goals (try simp only [go_sem])
theorem Hr (ca sh tx th en sd : List (List RV)) (aq sq : Int) (h : (ca = (cellsOf ca).map aW ∧ sh = (valsOf sh).map valR ∧ tx = (strsOf tx).map strR ∧ th = (threadsOf th).map aJ ∧ en = (aG en).map endR ∧ sd = (valsOf sd).map valR) ∧ Swf ⟨cellsOf ca, valsOf sh, strsOf tx, threadsOf th, aG en, valsOf sd, aq, sq⟩ ∧ kG ⟨cellsOf ca, valsOf sh, strsOf tx, threadsOf th, aG en, valsOf sd, aq, sq⟩) : FC Cx 78 [.agg [.r (.rs 4 ca), .r (.rs 2 sh), .r (.rs 1 tx), .r (.rs 5 th), .r (.rs 3 en), .r (.rs 2 sd), Iv aq, Iv sq]] [] (Iv (dE ⟨cellsOf ca, valsOf sh, strsOf tx, threadsOf th, aG en, valsOf sd, aq, sq⟩)) [] := by
 have := Mg ⟨cellsOf ca, valsOf sh, strsOf tx, threadsOf th, aG en, valsOf sd, aq, sq⟩ h.2.1 h.2.2
 rwa [iJ _ _ _ _ _ _ _ _ h.1] at this
def lE (args : List AV) (K : AV → Prop) : Prop := match args with
 | [.agg [.r (.rs 4 ca), .r (.rs 2 sh), .r (.rs 1 tx), .r (.rs 5 th), .r (.rs 3 en), .r (.rs 2 sd), .r (.v (.int .i64 aq)), .r (.v (.int .i64 sq))]] => ((ca = (cellsOf ca).map aW ∧ sh = (valsOf sh).map valR ∧ tx = (strsOf tx).map strR ∧ th = (threadsOf th).map aJ ∧ en = (aG en).map endR ∧ sd = (valsOf sd).map valR) ∧ Swf ⟨cellsOf ca, valsOf sh, strsOf tx, threadsOf th, aG en, valsOf sd, aq, sq⟩ ∧ kG ⟨cellsOf ca, valsOf sh, strsOf tx, threadsOf th, aG en, valsOf sd, aq, sq⟩) ∧ K (Iv (dE ⟨cellsOf ca, valsOf sh, strsOf tx, threadsOf th, aG en, valsOf sd, aq, sq⟩))
 | _ => False
noncomputable abbrev pE : Ct Cx := .pure 78 lE fun args K h => by
 unfold lE at h; split at h; exact ⟨_, aA (Hr _ _ _ _ _ _ _ _ h.1) en78 rfl rfl, h.2⟩; exact h.elim
@[go_sem] theorem Vk : type_of% @lE.eq_def := @lE.eq_def
end Go.Proofs.YtbhnmolmkembdaaGreatDoor
namespace Go.Proofs.YtbhnmolmkembdaaGreatDoor
set_option linter.unusedVariables false
set_option linter.unusedSimpArgs false
set_option maxHeartbeats 10000000
open Go Go.ChangeShapes Go.WideShapes Go.ChangeAt Go.RowKit
theorem aSt : Tryz.prog.bytesOf 50 = 16 := by kernel_rfl
theorem Uo {row : List RV} (h : Ro Tryz.prog 61 row) : ∃ f : aR, row = bA f ∧ Gwf f ∧ f.regs.length ≤ 8796093021952 := by
 obtain ⟨f, rfl, hf⟩ := Kw h
 refine ⟨f, rfl, hf, ?_⟩
 obtain ⟨rows, hr, h1, h2⟩ := dY h Tryz.underlying61
 match rows, h1 with
 | [a, b, c, d, e, u, v], _ =>
  obtain ⟨x1, rfl, _⟩ := cS (h2 0 _ a rfl rfl) Tryz.underlying3
  obtain ⟨x2, rfl, _⟩ := cS (h2 1 _ b rfl rfl) Tryz.underlying3
  obtain ⟨x3, rfl, _⟩ := cS (h2 2 _ c rfl rfl) Tryz.underlying3
  obtain ⟨x4, rfl, q4⟩ := cS (h2 3 _ d rfl rfl) Tryz.underlying3
  obtain ⟨x5, rfl, _⟩ := oG (h2 4 _ e rfl rfl)
  have h6 := h2 5 _ u rfl rfl
  obtain ⟨x6, rfl, m6, _⟩ := jK valR (fun v => WI v.2) h6 Tryz.underlying23 Kl fun r hr => oG hr
  have h7 := Ub h6 Tryz.underlying23
  rw [aSt, List.length_map] at h7
  have e : f.regs.map valR = x6.map valR := by
   have h8 := congrArg (fun l => l[6]?) hr
   simpa [bA, valR] using h8
  have e2 := congrArg List.length e
  rw [List.length_map, List.length_map] at e2
  have : reachBytes = 140737488351232 := rfl
  omega
theorem aB3 {row : List RV} (h : Ro Tryz.prog 48 row) : ∃ c : bJ, row = aW c ∧ Cwf c ∧ Ee c := by
 obtain ⟨rows, rfl, h1, h2⟩ := dY h Tryz.underlying48
 match rows, h1 with
 | [a, b, u, v], _ =>
  obtain ⟨x1, rfl, _⟩ := cS (h2 0 _ a rfl rfl) Tryz.underlying3
  obtain ⟨x2, rfl, _⟩ := cS (h2 1 _ b rfl rfl) Tryz.underlying3
  obtain ⟨x3, rfl, m3, q3⟩ := jK valR (fun v => WI v.2) (h2 2 _ u rfl rfl) Tryz.underlying23 Kl fun r hr => oG hr
  obtain ⟨x4, rfl, m4, q4⟩ := jK bA (fun f => Gwf f ∧ f.regs.length ≤ 8796093021952) (h2 3 _ v rfl rfl) Tryz.underlying46 Se fun r hr => Uo hr
  exact ⟨⟨x1, x2, x3, x4⟩, rfl, ⟨m3, q3, m4, fun f hf => (q4 f hf).1⟩, fun f hf => (q4 f hf).2⟩
theorem Vq {row : List RV} (h : Ro Tryz.prog 32 row) : ∃ s : aC, row = cN s ∧ Swf s ∧ kG s := by
 obtain ⟨rows, rfl, h1, h2⟩ := dY h Tryz.underlying32
 match rows, h1 with
 | [a, b, c, d, e, u, v, w], _ =>
  obtain ⟨x1, rfl, m1, q1⟩ := jK aW (fun c => Cwf c ∧ Ee c) (h2 0 _ a rfl rfl) Tryz.underlying27 aM8 fun r hr => aB3 hr
  obtain ⟨x2, rfl, m2, q2⟩ := jK valR Sh.WfS (h2 1 _ b rfl rfl) Tryz.underlying28 aEc fun r hr => Vj hr
  obtain ⟨x3, rfl, m3, _⟩ := jK strR (fun _ => True) (h2 2 _ c rfl rfl) Tryz.underlying24 aI6 fun r hr => by
   obtain ⟨s, hs, _⟩ := aB2 hr Tryz.underlying9
   exact ⟨s, hs, trivial⟩
  obtain ⟨x4, rfl, m4, q4⟩ := jK aJ (fun t => t.frames.length ≤ 9223372036854775807 ∧ ∀ f ∈ t.frames, Gwf f) (h2 3 _ d rfl rfl) Tryz.underlying29 Wy fun r hr => Ti hr
  obtain ⟨x5, rfl, m5, _⟩ := jK endR (fun _ => True) (h2 4 _ e rfl rfl) Tryz.underlying30 aTb fun r hr => aNt hr
  obtain ⟨x6, rfl, m6, _⟩ := jK valR (fun v => WI v.2) (h2 5 _ u rfl rfl) Tryz.underlying23 Kl fun r hr => oG hr
  obtain ⟨x7, rfl, _⟩ := cS (h2 6 _ v rfl rfl) Tryz.underlying3
  obtain ⟨x8, rfl, _⟩ := cS (h2 7 _ w rfl rfl) Tryz.underlying3
  exact ⟨⟨x1, x2, x3, x4, x5, x6, x7, x8⟩, rfl, ⟨⟨m1, m2, m3, m4, m5, m6⟩, q2, fun c hc => (q1 c hc).1, q4⟩, fun c hc => (q1 c hc).2⟩
end Go.Proofs.YtbhnmolmkembdaaGreatDoor
namespace Go.Proofs.YtbhnmolmkembdaaGreatDoor
set_option linter.unusedVariables false
set_option linter.unusedSimpArgs false
set_option maxHeartbeats 10000000
open Go
set_option maxRecDepth 10000
def aEo (args : List AV) (K : AV → Prop) : Prop := match args with
 | [.agg [.r (.rs 4 ca), .r (.rs 2 sh), .r (.rs 1 tx), .r (.rs 5 th), .r (.rs 3 en), .r (.rs 2 sd), .r (.v (.int .i64 aq)), .r (.v (.int .i64 sq))], .agg [.r (.rs 4 ca'), .r (.rs 2 sh'), .r (.rs 1 tx'), .r (.rs 5 th'), .r (.rs 3 en'), .r (.rs 2 sd'), .r (.v (.int .i64 aq')), .r (.v (.int .i64 sq'))]] => (((ca = (cellsOf ca).map aW ∧ sh = (valsOf sh).map valR ∧ tx = (strsOf tx).map strR ∧ th = (threadsOf th).map aJ ∧ en = (aG en).map endR ∧ sd = (valsOf sd).map valR) ∧ (ca' = (cellsOf ca').map aW ∧ sh' = (valsOf sh').map valR ∧ tx' = (strsOf tx').map strR ∧ th' = (threadsOf th').map aJ ∧ en' = (aG en').map endR ∧ sd' = (valsOf sd').map valR)) ∧ Swf ⟨cellsOf ca, valsOf sh, strsOf tx, threadsOf th, aG en, valsOf sd, aq, sq⟩ ∧ Swf ⟨cellsOf ca', valsOf sh', strsOf tx', threadsOf th', aG en', valsOf sd', aq', sq'⟩) ∧ K (Bv (decide (⟨cellsOf ca, valsOf sh, strsOf tx, threadsOf th, aG en, valsOf sd, aq, sq⟩ = (⟨cellsOf ca', valsOf sh', strsOf tx', threadsOf th', aG en', valsOf sd', aq', sq'⟩ : aC))))
 | _ => False
attribute [go_sem] aEo
theorem aWn {n : Int} (h1 : -9223372036854775808 ≤ n) (h2 : n ≤ 9223372036854775807) : WI n := by
 have e1 : IntKind.i64.min = -9223372036854775808 := rfl
 have e2 : IntKind.i64.max = 9223372036854775807 := rfl
 show (decide (IntKind.i64.min ≤ n) && decide (n ≤ IntKind.i64.max)) = true
 rw [e1, e2]
 simp only [Bool.and_eq_true, decide_eq_true_eq]
 exact ⟨h1, h2⟩
@[go_sem] theorem aCd (k1 k2 k3 k4 : IntKind) (sz : Nat) (fs : List (List RV)) (a b c d : Int) (xs : List (List RV)) : threadsOf ([.rs sz fs, .v (.int k1 a), .v (.int k2 b), .v (.int k3 c), .v (.int k4 d)] :: xs) = ⟨framesOf fs, a, b, (c, d)⟩ :: threadsOf xs := rfl
@[go_sem] theorem aC5 : threadsOf [] = [] := rfl
@[go_sem] theorem aDp (k1 k2 k3 k4 k5 k6 : IntKind) (s1 s2 : Nat) (us vs : List (List RV)) (a b c d e f : Int) (xs : List (List RV)) : framesOf ([.v (.int k1 a), .v (.int k2 b), .v (.int k3 c), .v (.int k4 d), .v (.int k5 e), .v (.int k6 f), .rs s1 us, .rs s2 vs] :: xs) = ⟨a, b, c, d, (e, f), valsOf us, triesOf vs⟩ :: framesOf xs := rfl
@[go_sem] theorem aF9 : framesOf [] = [] := rfl
@[go_sem] theorem aMz : valsOf [] = [] := rfl
@[go_sem] theorem aH6 : triesOf [] = [] := rfl
@[go_sem] theorem aJl (k : IntKind) (n : Int) (xs : List (List RV)) : aK ([.v (.int k n)] :: xs) = n :: aK xs := rfl
@[go_sem] theorem aKr : aK [] = [] := rfl
def elB : AV → RV → Prop
 | .r z, y => z = y
 | .nd _ s rs, y => y = .rs s (ndRs rs)
 | _, _ => False
def vO : List AV → List RV → Prop
 | [], [] => True
 | x :: l, y :: m => elB x y ∧ vO l m
 | _, _ => False
def rF : List (List AV) → List (List RV) → Prop
 | [], [] => True
 | x :: l, y :: m => vO x y ∧ rF l m
 | _, _ => False
theorem Fo : ∀ {l : List AV} {m : List RV}, vO l m → m.length = l.length
 | [], [], _ => rfl
 | _ :: _, _ :: _, h => by simp [Fo h.2]
 | [], _ :: _, h => h.elim
 | _ :: _, [], h => h.elim
theorem Jm : ∀ {l : List AV} {m : List RV} {j : Nat} {x : AV} {y : RV}, vO l m → l[j]? = some x → m[j]? = some y → elB x y
 | x' :: l, y' :: m, 0, x, y, h, hx, hy => by simp at hx hy; subst hx; subst hy; exact h.1
 | x' :: l, y' :: m, j + 1, x, y, h, hx, hy => Jm h.2 (by simpa using hx) (by simpa using hy)
 | [], _, _, _, _, _, hx, _ => by simp at hx
 | _ :: _, [], _, _, _, _, _, hy => by simp at hy
theorem Au : ∀ {l : List (List AV)} {m : List (List RV)}, rF l m → m.length = l.length
 | [], [], _ => rfl
 | _ :: _, _ :: _, h => by simp [Au h.2]
 | [], _ :: _, h => h.elim
 | _ :: _, [], h => h.elim
theorem xZ : ∀ {l : List (List AV)} {m : List (List RV)} {j : Nat} {x : List AV} {y : List RV}, rF l m → l[j]? = some x → m[j]? = some y → vO x y
 | x' :: l, y' :: m, 0, x, y, h, hx, hy => by simp at hx hy; subst hx; subst hy; exact h.1
 | x' :: l, y' :: m, j + 1, x, y, h, hx, hy => xZ h.2 (by simpa using hx) (by simpa using hy)
 | [], _, _, _, _, _, hx, _ => by simp at hx
 | _ :: _, [], _, _, _, _, _, hy => by simp at hy
theorem fG {α : Type} {f : α → List AV} {g : α → List RV} (h : ∀ x, vO (f x) (g x)) : ∀ {l : List α}, rF (l.map f) (l.map g)
 | [] => trivial
 | x :: _ => ⟨h x, fG h⟩
theorem uG : ∀ {l : List (List AV)} {m : List (List RV)} {i : Nat} {x : List AV} {y : List RV}, rF l m → vO x y → rF (l.set i x) (m.set i y)
 | [], [], _, _, _, h, _ => h
 | _ :: _, _ :: _, 0, _, _, h, hx => ⟨hx, h.2⟩
 | _ :: _, _ :: _, i + 1, _, _, h, hx => ⟨h.1, uG h.2 hx⟩
 | [], _ :: _, _, _, _, h, _ => h.elim
 | _ :: _, [], _, _, _, h, _ => h.elim
theorem aHa {ls : List Loc} {st : St} {x : AV} {y : RV} (h : elB x y) : Bor ls st x (.r y) := by
 unfold elB at h
 split at h
 ·subst h; exact .same _ rfl
 ·subst h; exact .nd _ _ _
 ·exact h.elim
theorem Xg {st : St} {k ver e sz : Nat} {rows : List (List AV)} {rowsR : List (List RV)} (hk : aB k st.rs = (ver, .sl e sz rows)) (h : rF rows rowsR) : Bor [.R k] st (.os k ver) (.r (.rs sz rowsR)) :=
 .sl k ver e sz rows rowsR (by simp) hk (Au h) (fun i row rowR h1 h2 => Fo (xZ h h1 h2)) fun i j row rowR x y h1 h2 h3 h4 => aHa (Jm (xZ h h1 h2) h3 h4)
section
variable {C : Ctx} {T : List (Ct C)} {r : List It} {st st' : St} {K : Exit → St → Prop}
theorem lC (k : Nat) {ver e sz : Nat} {rows : List (List AV)} (rowsR : List (List RV)) (hk : aB k st.rs = (ver, .sl e sz rows)) (h : rF rows rowsR) (hr : hasC r = true) (hst : ∀ K0 : St → Prop, Imp (K0 st') (K0 (hJ k ver (.rs sz rowsR) st))) (hk2 : Rn C T r st' K) : Rn C T r st K := by
 have hk' := (hst fun s => Rn C T r s K).run hk2
 exact tY hr (fun e a w ⟨ho, g, hs⟩ => ⟨ho, g, hs.frz hk (by simp) (Xg hk h)⟩) hk'
end
abbrev cellC (c : bJ) : List AV := [Iv c.kind, Iv c.num, aT c.vals, bO c.frames]
abbrev threadC (t : aP) : List AV := [bO t.frames, Iv t.state, Iv t.on, Iv t.val.1, Iv t.val.2]
abbrev frameC (f : aR) : List AV := [Iv f.fn, Iv f.pc, Iv f.tov, Iv f.gen, Iv f.self.1, Iv f.self.2, aT f.regs, cM f.tries]
abbrev endC (e : EndT) : List AV := [Iv e.cell, Iv e.fn.1, Iv e.fn.2]
theorem Fq (l : List bJ) : ∀ row ∈ l.map cellC, aX bR row = true := fun row h => by
 obtain ⟨x, _, rfl⟩ := List.mem_map.1 h; rfl
@[go_sem] theorem aE5 : ∀ l : List bJ, nE (l.map cellC) = true
 | [] => rfl
 | x :: l => aE5 l
@[go_sem] theorem aYe (l : List bJ) : ((l.map aW).map fun r => r.map AV.r) = l.map cellC := by rw [List.map_map]; rfl
theorem zL (xs : List (List RV)) : ∀ row ∈ (cellsOf xs).map cellC, aX bR row = true := Fq _
theorem Gl (xs : List (List RV)) (h : xs = (cellsOf xs).map aW ∧ xs.length ≤ 1000000000) : FC Cx 21 [.r (.rs 4 xs)] [] (.os 0 1) [(0, 1, .sl 48 4 ((cellsOf xs).map cellC))] := by
 have hl : (cellsOf xs).length = xs.length := by simp [cellsOf]
 have hlenS : ∀ l : List bJ, (l.map cellC).length = l.length := fun l => List.length_map ..
 obtain ⟨h1, h2⟩ := h
 generalize cellsOf xs = l at h1 hl
 subst h1
 rw [← hl] at h2
 refine iH [] (i := 0) [.os 0 1] Tryz.func21 rfl Tryz.ntmps21 (by simp) Tryz.results21 (Fq _) ?_
 refine rnst ?_
 iterate 8 (any_goals (first | (focus (intro K0; (try simp only [go_sem, *]); (first | exact ⟨id⟩ | (refine ⟨fun h => ?_⟩; (repeat' (first | exact h | refine And.intro ?_ ?_ | omega | rfl)); done)))) | (refine kK ?_) | (refine iE ?_) | (apply eL lv21; (exact rfl)) | (refine eV ?_) | (apply nD; (exact rfl)) | (refine iC ?_) | ((first | apply Rn_g | apply Rd_g); (exact rfl); (exact rfl); (focus (intro K0; (try simp only [bB, ev, Nat.reduceEqDiff, ↓reduceIte]); exact ⟨id⟩))) | (with_reducible (first | apply kE | apply jW)) | ((with_reducible (first | apply iG | apply gY | apply lV | apply iK | apply gW | apply lZ)); (exact rfl)) | ((first | apply gE | apply gD); (focus (intro K0; (try simp only [go_sem]); exact ⟨id⟩)); (exact rfl)) | ((first | apply iL | apply iI); (exact rfl); (focus (intro K0; (try simp only [go_sem]); exact ⟨id⟩)); (focus (first | (simp only [Nat.reduceLT]; done) | omega)); (focus (intro hw0; (try simp only [Bool.and_eq_true, Bool.not_eq_true', dK, dC] at hw0); (focus (intro K0; (try simp only [go_sem, *]); (first | exact ⟨id⟩ | (refine ⟨fun h => ?_⟩; (repeat' (first | exact h | refine And.intro ?_ ?_ | omega | rfl)); done))))))) | (apply Rn_c; (focus (intro K0; (try simp only [bB, ev, Nat.reduceEqDiff, ↓reduceIte]); exact ⟨id⟩))) | (with_reducible (first | refine rN ?_ | refine sJ ?_)) | (refine kF ?_) | (refine kB rfl ?_) | (refine Rn_b ?_) | (apply iA lv21; (exact rfl)) | (refine kH ?_) | (apply nH; (exact rfl)) | (refine nM (by kernel_rfl) ?_) | ((with_reducible (first | refine fW (fun h => ?_) (fun h => ?_) | refine fT (fun h => ?_) (fun h => ?_) | refine fK (fun h => ?_) (fun h => ?_))) <;> (have h' := h) <;> (try simp only [decide_eq_true_eq, decide_eq_false_iff_not, Bool.not_eq_true', Bool.not_eq_false', Bool.and_eq_true, Bool.or_eq_true, Bool.or_eq_false_iff, beq_iff_eq, bne_iff_ne, ne_eq, Bool.not_true, Bool.not_false, not_false_eq_true, reduceCtorEq, beq_eq_false_iff_ne, bne_eq_false_iff_eq] at h') <;> (first | apply pM | apply rW)) | (refine fR rfl rfl ?_) | (first | refine fY ?_ | refine lY ?_ | refine dP ?_) | (refine eE (T := []) ?_) | (refine nT ?_)))
 ·intro K0; (try simp only [go_sem]); exact ⟨id⟩
 refine lH (sz := 4) rfl (.inl rfl) rfl rfl (Nat.le_of_ble_eq_true rfl) rfl rfl (by kernel_rfl) (fun q hq => ?_)
 apply oP
 ·intro K0; (try simp only [go_sem]); exact ⟨id⟩
 cases q with
 | true =>
  have h0 : l = [] := by have := hq rfl; simpa using this
  subst h0
  (any_goals refine go lv21 0 ?_)
  all_goals (try simp only [go_sem])
 | false =>
  clear hq
  (any_goals refine go lv21 0 ?_)
  all_goals (try simp only [go_sem])
def gQ (st : St) (d : Nat) (args : List AV) (K : AV → List Loc → List (Loc × Cont) → Prop) : Prop := match args with
 | [.r (.rs 4 xs)] => (xs = (cellsOf xs).map aW ∧ xs.length ≤ 1000000000) ∧ K (ren (fun _ => d) (fun _ => st.cur d) (.os 0 1)) [.R d] [(.R d, .s (1 + st.cur d) (.sl 48 4 ((cellsOf xs).map cellC)))]
 | _ => False
theorem xQ (st : St) (d : Nat) (args : List AV) (K : AV → List Loc → List (Loc × Cont) → Prop) (h : gQ st d args K) : ∃ r ls outs, dI Cx 21 st args r ls outs ∧ K r ls outs := by
 unfold gQ at h
 split at h
 ·exact ⟨_, _, _, dI.own (Gl _ h.1) rfl (zL _) rfl d, h.2⟩
 ·exact h.elim
noncomputable def pG : Ct Cx := .res 21 gQ en21 xQ
@[go_sem] theorem Vw : pG.g = 21 := rfl
@[go_sem] theorem Rb (c : Call) (fop : Operand) (caps : List AV) (o : Oper) (st : St) (K : List Loc → List (Loc × Cont) → Prop) : pG.run c fop caps o st K = kO gQ c fop caps o st K := rfl
@[go_sem] theorem Um : type_of% @gQ.eq_def := @gQ.eq_def
theorem yR (l : List aP) : ∀ row ∈ l.map threadC, aX bR row = true := fun row h => by
 obtain ⟨x, _, rfl⟩ := List.mem_map.1 h; rfl
@[go_sem] theorem Tv : ∀ l : List aP, nE (l.map threadC) = true
 | [] => rfl
 | x :: l => Tv l
@[go_sem] theorem aQo (l : List aP) : ((l.map aJ).map fun r => r.map AV.r) = l.map threadC := by rw [List.map_map]; rfl
theorem vE (xs : List (List RV)) : ∀ row ∈ (threadsOf xs).map threadC, aX bR row = true := yR _
theorem Ar (xs : List (List RV)) (h : xs = (threadsOf xs).map aJ ∧ xs.length ≤ 1000000000) : FC Cx 25 [.r (.rs 5 xs)] [] (.os 0 1) [(0, 1, .sl 56 5 ((threadsOf xs).map threadC))] := by
 have hl : (threadsOf xs).length = xs.length := by simp [threadsOf]
 have hlenS : ∀ l : List aP, (l.map threadC).length = l.length := fun l => List.length_map ..
 obtain ⟨h1, h2⟩ := h
 generalize threadsOf xs = l at h1 hl
 subst h1
 rw [← hl] at h2
 refine iH [] (i := 0) [.os 0 1] Tryz.func25 rfl Tryz.ntmps25 (by simp) Tryz.results25 (yR _) ?_
 refine rnst ?_
 iterate 8 (any_goals (first | (focus (intro K0; (try simp only [go_sem, *]); (first | exact ⟨id⟩ | (refine ⟨fun h => ?_⟩; (repeat' (first | exact h | refine And.intro ?_ ?_ | omega | rfl)); done)))) | (refine kK ?_) | (refine iE ?_) | (apply eL lv25; (exact rfl)) | (refine eV ?_) | (apply nD; (exact rfl)) | (refine iC ?_) | ((first | apply Rn_g | apply Rd_g); (exact rfl); (exact rfl); (focus (intro K0; (try simp only [bB, ev, Nat.reduceEqDiff, ↓reduceIte]); exact ⟨id⟩))) | (with_reducible (first | apply kE | apply jW)) | ((with_reducible (first | apply iG | apply gY | apply lV | apply iK | apply gW | apply lZ)); (exact rfl)) | ((first | apply gE | apply gD); (focus (intro K0; (try simp only [go_sem]); exact ⟨id⟩)); (exact rfl)) | ((first | apply iL | apply iI); (exact rfl); (focus (intro K0; (try simp only [go_sem]); exact ⟨id⟩)); (focus (first | (simp only [Nat.reduceLT]; done) | omega)); (focus (intro hw0; (try simp only [Bool.and_eq_true, Bool.not_eq_true', dK, dC] at hw0); (focus (intro K0; (try simp only [go_sem, *]); (first | exact ⟨id⟩ | (refine ⟨fun h => ?_⟩; (repeat' (first | exact h | refine And.intro ?_ ?_ | omega | rfl)); done))))))) | (apply Rn_c; (focus (intro K0; (try simp only [bB, ev, Nat.reduceEqDiff, ↓reduceIte]); exact ⟨id⟩))) | (with_reducible (first | refine rN ?_ | refine sJ ?_)) | (refine kF ?_) | (refine kB rfl ?_) | (refine Rn_b ?_) | (apply iA lv25; (exact rfl)) | (refine kH ?_) | (apply nH; (exact rfl)) | (refine nM (by kernel_rfl) ?_) | ((with_reducible (first | refine fW (fun h => ?_) (fun h => ?_) | refine fT (fun h => ?_) (fun h => ?_) | refine fK (fun h => ?_) (fun h => ?_))) <;> (have h' := h) <;> (try simp only [decide_eq_true_eq, decide_eq_false_iff_not, Bool.not_eq_true', Bool.not_eq_false', Bool.and_eq_true, Bool.or_eq_true, Bool.or_eq_false_iff, beq_iff_eq, bne_iff_ne, ne_eq, Bool.not_true, Bool.not_false, not_false_eq_true, reduceCtorEq, beq_eq_false_iff_ne, bne_eq_false_iff_eq] at h') <;> (first | apply pM | apply rW)) | (refine fR rfl rfl ?_) | (first | refine fY ?_ | refine lY ?_ | refine dP ?_) | (refine eE (T := []) ?_) | (refine nT ?_)))
 ·intro K0; (try simp only [go_sem]); exact ⟨id⟩
 refine lH (sz := 5) rfl (.inl rfl) rfl rfl (Nat.le_of_ble_eq_true rfl) rfl rfl (by kernel_rfl) (fun q hq => ?_)
 apply oP
 ·intro K0; (try simp only [go_sem]); exact ⟨id⟩
 cases q with
 | true =>
  have h0 : l = [] := by have := hq rfl; simpa using this
  subst h0
  (any_goals refine go lv25 0 ?_)
  all_goals (try simp only [go_sem])
 | false =>
  clear hq
  (any_goals refine go lv25 0 ?_)
  all_goals (try simp only [go_sem])
def eW (st : St) (d : Nat) (args : List AV) (K : AV → List Loc → List (Loc × Cont) → Prop) : Prop := match args with
 | [.r (.rs 5 xs)] => (xs = (threadsOf xs).map aJ ∧ xs.length ≤ 1000000000) ∧ K (ren (fun _ => d) (fun _ => st.cur d) (.os 0 1)) [.R d] [(.R d, .s (1 + st.cur d) (.sl 56 5 ((threadsOf xs).map threadC)))]
 | _ => False
theorem uH (st : St) (d : Nat) (args : List AV) (K : AV → List Loc → List (Loc × Cont) → Prop) (h : eW st d args K) : ∃ r ls outs, dI Cx 25 st args r ls outs ∧ K r ls outs := by
 unfold eW at h
 split at h
 ·exact ⟨_, _, _, dI.own (Ar _ h.1) rfl (vE _) rfl d, h.2⟩
 ·exact h.elim
noncomputable def lW : Ct Cx := .res 25 eW en25 uH
@[go_sem] theorem Sx : lW.g = 25 := rfl
@[go_sem] theorem Mx (c : Call) (fop : Operand) (caps : List AV) (o : Oper) (st : St) (K : List Loc → List (Loc × Cont) → Prop) : lW.run c fop caps o st K = kO eW c fop caps o st K := rfl
@[go_sem] theorem Oi : type_of% @eW.eq_def := @eW.eq_def
theorem Bj (l : List aR) : ∀ row ∈ l.map frameC, aX bR row = true := fun row h => by
 obtain ⟨x, _, rfl⟩ := List.mem_map.1 h; rfl
@[go_sem] theorem Zn : ∀ l : List aR, nE (l.map frameC) = true
 | [] => rfl
 | x :: l => Zn l
@[go_sem] theorem aUi (l : List aR) : ((l.map bA).map fun r => r.map AV.r) = l.map frameC := by rw [List.map_map]; rfl
theorem xW (xs : List (List RV)) : ∀ row ∈ (framesOf xs).map frameC, aX bR row = true := Bj _
theorem Dq (xs : List (List RV)) (h : xs = (framesOf xs).map bA ∧ xs.length ≤ 1000000000) : FC Cx 26 [.r (.rs 8 xs)] [] (.os 0 1) [(0, 1, .sl 61 8 ((framesOf xs).map frameC))] := by
 have hl : (framesOf xs).length = xs.length := by simp [framesOf]
 have hlenS : ∀ l : List aR, (l.map frameC).length = l.length := fun l => List.length_map ..
 obtain ⟨h1, h2⟩ := h
 generalize framesOf xs = l at h1 hl
 subst h1
 rw [← hl] at h2
 refine iH [] (i := 0) [.os 0 1] Tryz.func26 rfl Tryz.ntmps26 (by simp) Tryz.results26 (Bj _) ?_
 refine rnst ?_
 iterate 8 (any_goals (first | (focus (intro K0; (try simp only [go_sem, *]); (first | exact ⟨id⟩ | (refine ⟨fun h => ?_⟩; (repeat' (first | exact h | refine And.intro ?_ ?_ | omega | rfl)); done)))) | (refine kK ?_) | (refine iE ?_) | (apply eL lv26; (exact rfl)) | (refine eV ?_) | (apply nD; (exact rfl)) | (refine iC ?_) | ((first | apply Rn_g | apply Rd_g); (exact rfl); (exact rfl); (focus (intro K0; (try simp only [bB, ev, Nat.reduceEqDiff, ↓reduceIte]); exact ⟨id⟩))) | (with_reducible (first | apply kE | apply jW)) | ((with_reducible (first | apply iG | apply gY | apply lV | apply iK | apply gW | apply lZ)); (exact rfl)) | ((first | apply gE | apply gD); (focus (intro K0; (try simp only [go_sem]); exact ⟨id⟩)); (exact rfl)) | ((first | apply iL | apply iI); (exact rfl); (focus (intro K0; (try simp only [go_sem]); exact ⟨id⟩)); (focus (first | (simp only [Nat.reduceLT]; done) | omega)); (focus (intro hw0; (try simp only [Bool.and_eq_true, Bool.not_eq_true', dK, dC] at hw0); (focus (intro K0; (try simp only [go_sem, *]); (first | exact ⟨id⟩ | (refine ⟨fun h => ?_⟩; (repeat' (first | exact h | refine And.intro ?_ ?_ | omega | rfl)); done))))))) | (apply Rn_c; (focus (intro K0; (try simp only [bB, ev, Nat.reduceEqDiff, ↓reduceIte]); exact ⟨id⟩))) | (with_reducible (first | refine rN ?_ | refine sJ ?_)) | (refine kF ?_) | (refine kB rfl ?_) | (refine Rn_b ?_) | (apply iA lv26; (exact rfl)) | (refine kH ?_) | (apply nH; (exact rfl)) | (refine nM (by kernel_rfl) ?_) | ((with_reducible (first | refine fW (fun h => ?_) (fun h => ?_) | refine fT (fun h => ?_) (fun h => ?_) | refine fK (fun h => ?_) (fun h => ?_))) <;> (have h' := h) <;> (try simp only [decide_eq_true_eq, decide_eq_false_iff_not, Bool.not_eq_true', Bool.not_eq_false', Bool.and_eq_true, Bool.or_eq_true, Bool.or_eq_false_iff, beq_iff_eq, bne_iff_ne, ne_eq, Bool.not_true, Bool.not_false, not_false_eq_true, reduceCtorEq, beq_eq_false_iff_ne, bne_eq_false_iff_eq] at h') <;> (first | apply pM | apply rW)) | (refine fR rfl rfl ?_) | (first | refine fY ?_ | refine lY ?_ | refine dP ?_) | (refine eE (T := []) ?_) | (refine nT ?_)))
 ·intro K0; (try simp only [go_sem]); exact ⟨id⟩
 refine lH (sz := 8) rfl (.inl rfl) rfl rfl (Nat.le_of_ble_eq_true rfl) rfl rfl (by kernel_rfl) (fun q hq => ?_)
 apply oP
 ·intro K0; (try simp only [go_sem]); exact ⟨id⟩
 cases q with
 | true =>
  have h0 : l = [] := by have := hq rfl; simpa using this
  subst h0
  (any_goals refine go lv26 0 ?_)
  all_goals (try simp only [go_sem])
 | false =>
  clear hq
  (any_goals refine go lv26 0 ?_)
  all_goals (try simp only [go_sem])
def fU (st : St) (d : Nat) (args : List AV) (K : AV → List Loc → List (Loc × Cont) → Prop) : Prop := match args with
 | [.r (.rs 8 xs)] => (xs = (framesOf xs).map bA ∧ xs.length ≤ 1000000000) ∧ K (ren (fun _ => d) (fun _ => st.cur d) (.os 0 1)) [.R d] [(.R d, .s (1 + st.cur d) (.sl 61 8 ((framesOf xs).map frameC)))]
 | _ => False
theorem wZ (st : St) (d : Nat) (args : List AV) (K : AV → List Loc → List (Loc × Cont) → Prop) (h : fU st d args K) : ∃ r ls outs, dI Cx 26 st args r ls outs ∧ K r ls outs := by
 unfold fU at h
 split at h
 ·exact ⟨_, _, _, dI.own (Dq _ h.1) rfl (xW _) rfl d, h.2⟩
 ·exact h.elim
noncomputable def nI : Ct Cx := .res 26 fU en26 wZ
@[go_sem] theorem Vi : nI.g = 26 := rfl
@[go_sem] theorem Nh (c : Call) (fop : Operand) (caps : List AV) (o : Oper) (st : St) (K : List Loc → List (Loc × Cont) → Prop) : nI.run c fop caps o st K = kO fU c fop caps o st K := rfl
@[go_sem] theorem Rx : type_of% @fU.eq_def := @fU.eq_def
theorem Nr (l : List (Int × Int)) : ∀ row ∈ l.map valC, aX bR row = true := fun row h => by
 obtain ⟨x, _, rfl⟩ := List.mem_map.1 h; rfl
@[go_sem] theorem aCj (l : List (Int × Int)) : ((l.map valR).map fun r => r.map AV.r) = l.map valC := by rw [List.map_map]; rfl
theorem Dp (xs : List (List RV)) (h : xs = (valsOf xs).map valR ∧ xs.length ≤ 1000000000) : FC Cx 139 [.r (.rs 2 xs)] [] (.os 0 1) [(0, 1, .sl 97 2 ((valsOf xs).map valC))] := by
 have hl : (valsOf xs).length = xs.length := by simp [valsOf]
 have hlenS : ∀ l : List (Int × Int), (l.map valC).length = l.length := fun l => List.length_map ..
 obtain ⟨h1, h2⟩ := h
 generalize valsOf xs = l at h1 hl
 subst h1
 rw [← hl] at h2
 refine iH [] (i := 0) [.os 0 1] Tryz.func139 rfl Tryz.ntmps139 (by simp) Tryz.results139 (Nr _) ?_
 refine rnst ?_
 iterate 8 (any_goals (first | (focus (intro K0; (try simp only [go_sem, *]); (first | exact ⟨id⟩ | (refine ⟨fun h => ?_⟩; (repeat' (first | exact h | refine And.intro ?_ ?_ | omega | rfl)); done)))) | (refine kK ?_) | (refine iE ?_) | (apply eL Qj; (exact rfl)) | (refine eV ?_) | (apply nD; (exact rfl)) | (refine iC ?_) | ((first | apply Rn_g | apply Rd_g); (exact rfl); (exact rfl); (focus (intro K0; (try simp only [bB, ev, Nat.reduceEqDiff, ↓reduceIte]); exact ⟨id⟩))) | (with_reducible (first | apply kE | apply jW)) | ((with_reducible (first | apply iG | apply gY | apply lV | apply iK | apply gW | apply lZ)); (exact rfl)) | ((first | apply gE | apply gD); (focus (intro K0; (try simp only [go_sem]); exact ⟨id⟩)); (exact rfl)) | ((first | apply iL | apply iI); (exact rfl); (focus (intro K0; (try simp only [go_sem]); exact ⟨id⟩)); (focus (first | (simp only [Nat.reduceLT]; done) | omega)); (focus (intro hw0; (try simp only [Bool.and_eq_true, Bool.not_eq_true', dK, dC] at hw0); (focus (intro K0; (try simp only [go_sem, *]); (first | exact ⟨id⟩ | (refine ⟨fun h => ?_⟩; (repeat' (first | exact h | refine And.intro ?_ ?_ | omega | rfl)); done))))))) | (apply Rn_c; (focus (intro K0; (try simp only [bB, ev, Nat.reduceEqDiff, ↓reduceIte]); exact ⟨id⟩))) | (with_reducible (first | refine rN ?_ | refine sJ ?_)) | (refine kF ?_) | (refine kB rfl ?_) | (refine Rn_b ?_) | (apply iA Qj; (exact rfl)) | (refine kH ?_) | (apply nH; (exact rfl)) | (refine nM (by kernel_rfl) ?_) | ((with_reducible (first | refine fW (fun h => ?_) (fun h => ?_) | refine fT (fun h => ?_) (fun h => ?_) | refine fK (fun h => ?_) (fun h => ?_))) <;> (have h' := h) <;> (try simp only [decide_eq_true_eq, decide_eq_false_iff_not, Bool.not_eq_true', Bool.not_eq_false', Bool.and_eq_true, Bool.or_eq_true, Bool.or_eq_false_iff, beq_iff_eq, bne_iff_ne, ne_eq, Bool.not_true, Bool.not_false, not_false_eq_true, reduceCtorEq, beq_eq_false_iff_ne, bne_eq_false_iff_eq] at h') <;> (first | apply pM | apply rW)) | (refine fR rfl rfl ?_) | (first | refine fY ?_ | refine lY ?_ | refine dP ?_) | (refine eE (T := []) ?_) | (refine nT ?_)))
 ·intro K0; (try simp only [go_sem]); exact ⟨id⟩
 refine lH (sz := 2) rfl (.inl rfl) rfl rfl (Nat.le_of_ble_eq_true rfl) rfl rfl (by kernel_rfl) (fun q hq => ?_)
 apply oP
 ·intro K0; (try simp only [go_sem]); exact ⟨id⟩
 cases q with
 | true =>
  have h0 : l = [] := by have := hq rfl; simpa using this
  subst h0
  (any_goals refine go Qj 0 ?_)
  all_goals (try simp only [go_sem])
 | false =>
  clear hq
  (any_goals refine go Qj 0 ?_)
  all_goals (try simp only [go_sem])
theorem In (xs : List (List RV)) (h : xs = (valsOf xs).map valR ∧ xs.length ≤ 1000000000) : FC Cx 139 [.r (.rs 2 xs)] [] (aT (valsOf xs)) [] := (Dp xs h).freeze1 (aCj _).symm
def lB (args : List AV) (K : AV → Prop) : Prop := match args with
 | [.r (.rs 2 xs)] => (xs = (valsOf xs).map valR ∧ xs.length ≤ 1000000000) ∧ K (aT (valsOf xs))
 | _ => False
noncomputable abbrev Dk : Ct Cx := .pure 139 lB fun args K h => by
 unfold lB at h; split at h; exact ⟨_, aA (In _ h.1) aTr rfl rfl, h.2⟩; exact h.elim
@[go_sem] theorem Vv : type_of% @lB.eq_def := @lB.eq_def
theorem Yp (l : List EndT) : ∀ row ∈ l.map endC, aX bR row = true := fun row h => by
 obtain ⟨x, _, rfl⟩ := List.mem_map.1 h; rfl
@[go_sem] theorem aLe : ∀ l : List EndT, nE (l.map endC) = true
 | [] => rfl
 | x :: l => aLe l
@[go_sem] theorem Xr (l : List EndT) : ((l.map endR).map fun r => r.map AV.r) = l.map endC := by rw [List.map_map]; rfl
theorem Jy (xs : List (List RV)) (h : xs = (aG xs).map endR ∧ xs.length ≤ 1000000000) : FC Cx 140 [.r (.rs 3 xs)] [] (.os 0 1) [(0, 1, .sl 127 3 ((aG xs).map endC))] := by
 have hl : (aG xs).length = xs.length := by simp [aG]
 have hlenS : ∀ l : List EndT, (l.map endC).length = l.length := fun l => List.length_map ..
 obtain ⟨h1, h2⟩ := h
 generalize aG xs = l at h1 hl
 subst h1
 rw [← hl] at h2
 refine iH [] (i := 0) [.os 0 1] Tryz.func140 rfl Tryz.ntmps140 (by simp) Tryz.results140 (Yp _) ?_
 refine rnst ?_
 iterate 8 (any_goals (first | (focus (intro K0; (try simp only [go_sem, *]); (first | exact ⟨id⟩ | (refine ⟨fun h => ?_⟩; (repeat' (first | exact h | refine And.intro ?_ ?_ | omega | rfl)); done)))) | (refine kK ?_) | (refine iE ?_) | (apply eL So; (exact rfl)) | (refine eV ?_) | (apply nD; (exact rfl)) | (refine iC ?_) | ((first | apply Rn_g | apply Rd_g); (exact rfl); (exact rfl); (focus (intro K0; (try simp only [bB, ev, Nat.reduceEqDiff, ↓reduceIte]); exact ⟨id⟩))) | (with_reducible (first | apply kE | apply jW)) | ((with_reducible (first | apply iG | apply gY | apply lV | apply iK | apply gW | apply lZ)); (exact rfl)) | ((first | apply gE | apply gD); (focus (intro K0; (try simp only [go_sem]); exact ⟨id⟩)); (exact rfl)) | ((first | apply iL | apply iI); (exact rfl); (focus (intro K0; (try simp only [go_sem]); exact ⟨id⟩)); (focus (first | (simp only [Nat.reduceLT]; done) | omega)); (focus (intro hw0; (try simp only [Bool.and_eq_true, Bool.not_eq_true', dK, dC] at hw0); (focus (intro K0; (try simp only [go_sem, *]); (first | exact ⟨id⟩ | (refine ⟨fun h => ?_⟩; (repeat' (first | exact h | refine And.intro ?_ ?_ | omega | rfl)); done))))))) | (apply Rn_c; (focus (intro K0; (try simp only [bB, ev, Nat.reduceEqDiff, ↓reduceIte]); exact ⟨id⟩))) | (with_reducible (first | refine rN ?_ | refine sJ ?_)) | (refine kF ?_) | (refine kB rfl ?_) | (refine Rn_b ?_) | (apply iA So; (exact rfl)) | (refine kH ?_) | (apply nH; (exact rfl)) | (refine nM (by kernel_rfl) ?_) | ((with_reducible (first | refine fW (fun h => ?_) (fun h => ?_) | refine fT (fun h => ?_) (fun h => ?_) | refine fK (fun h => ?_) (fun h => ?_))) <;> (have h' := h) <;> (try simp only [decide_eq_true_eq, decide_eq_false_iff_not, Bool.not_eq_true', Bool.not_eq_false', Bool.and_eq_true, Bool.or_eq_true, Bool.or_eq_false_iff, beq_iff_eq, bne_iff_ne, ne_eq, Bool.not_true, Bool.not_false, not_false_eq_true, reduceCtorEq, beq_eq_false_iff_ne, bne_eq_false_iff_eq] at h') <;> (first | apply pM | apply rW)) | (refine fR rfl rfl ?_) | (first | refine fY ?_ | refine lY ?_ | refine dP ?_) | (refine eE (T := []) ?_) | (refine nT ?_)))
 ·intro K0; (try simp only [go_sem]); exact ⟨id⟩
 refine lH (sz := 3) rfl (.inl rfl) rfl rfl (Nat.le_of_ble_eq_true rfl) rfl rfl (by kernel_rfl) (fun q hq => ?_)
 apply oP
 ·intro K0; (try simp only [go_sem]); exact ⟨id⟩
 cases q with
 | true =>
  have h0 : l = [] := by have := hq rfl; simpa using this
  subst h0
  (any_goals refine go So 0 ?_)
  all_goals (try simp only [go_sem])
 | false =>
  clear hq
  (any_goals refine go So 0 ?_)
  all_goals (try simp only [go_sem])
theorem Nu (xs : List (List RV)) (h : xs = (aG xs).map endR ∧ xs.length ≤ 1000000000) : FC Cx 140 [.r (.rs 3 xs)] [] (eY (aG xs)) [] := (Jy xs h).freeze1 (Xr _).symm
def oX (args : List AV) (K : AV → Prop) : Prop := match args with
 | [.r (.rs 3 xs)] => (xs = (aG xs).map endR ∧ xs.length ≤ 1000000000) ∧ K (eY (aG xs))
 | _ => False
noncomputable abbrev Jo : Ct Cx := .pure 140 oX fun args K h => by
 unfold oX at h; split at h; exact ⟨_, aA (Nu _ h.1) aTd rfl rfl, h.2⟩; exact h.elim
@[go_sem] theorem aAn : type_of% @oX.eq_def := @oX.eq_def
abbrev valN (v : Int × Int) : List NV := [.r (.v (.int .i64 v.1)), .r (.v (.int .i64 v.2))]
abbrev dW (f : aR) : List NV := [.r (.v (.int .i64 f.fn)), .r (.v (.int .i64 f.pc)), .r (.v (.int .i64 f.tov)), .r (.v (.int .i64 f.gen)), .r (.v (.int .i64 f.self.1)), .r (.v (.int .i64 f.self.2)), .nd 50 2 (f.regs.map valN), .r (.rs 2 (f.tries.map tryR))]
abbrev frameA2 (f : aR) : List AV := [Iv f.fn, Iv f.pc, Iv f.tov, Iv f.gen, Iv f.self.1, Iv f.self.2, .nd 50 2 (f.regs.map valN), cM f.tries]
theorem lT (l : List (Int × Int)) : (l.map valN).map (List.map nvC) = l.map valC := by rw [List.map_map]; rfl
theorem dJ (l : List aR) : (l.map dW).map (List.map nvC) = l.map frameA2 := by rw [List.map_map]; rfl
theorem pX (l : List aR) : ∀ row ∈ l.map frameA2, aX bR row = true := fun row h => by
 obtain ⟨x, _, rfl⟩ := List.mem_map.1 h; rfl
def mixL {α β : Type} (f g : α → β) (l : List α) (i : Nat) : List β := (l.take i).map f ++ (l.drop i).map g
theorem Ax {α β : Type} (f g : α → β) (l : List α) (i : Nat) : (mixL f g l i).length = l.length := by
 unfold mixL; rw [List.length_append, List.length_map, List.length_map, List.length_take, List.length_drop]; omega
theorem Gu {α β : Type} (f g : α → β) {l : List α} {i : Nat} {x : α} (h : l[i]? = some x) : (mixL f g l i)[i]? = some (g x) := by
 have hi := (List.getElem?_eq_some_iff.1 h).1
 unfold mixL
 rw [List.getElem?_append_right (by rw [List.length_map, List.length_take]; omega), List.length_map, List.length_take, List.getElem?_map, List.getElem?_drop]
 rw [show i + (i - min i l.length) = i by omega, h]; rfl
theorem Az {α β : Type} (f g : α → β) {l : List α} {i : Nat} {x : α} (h : l[i]? = some x) : (mixL f g l i).set i (f x) = mixL f g l (i + 1) := by
 have hi := (List.getElem?_eq_some_iff.1 h).1
 unfold mixL
 rw [List.set_append_right _ _ (by rw [List.length_map, List.length_take]; omega), List.length_map, List.length_take, show i - min i l.length = 0 by omega]
 have hd : l.drop i = x :: l.drop (i + 1) := by
  rw [List.drop_eq_getElem_cons hi]
  congr 1
  rw [List.getElem?_eq_getElem hi] at h; exact Option.some.inj h
 rw [hd, List.map_cons, List.set_cons_zero, List.take_add_one, h, List.map_append, List.append_assoc]; rfl
theorem Bm {α β : Type} (f g : α → β) (l : List α) : mixL f g l l.length = l.map f := by
 unfold mixL; rw [List.take_length, List.drop_length]; simp
theorem Tl (fs : List aR) (hl : fs.length ≤ 1000000000) (hr : ∀ f ∈ fs, f.regs.length ≤ 1000000000 ∧ f.tries.length ≤ 1000000000) : FC Cx 141 [bO fs] [] (.os 0 1) [(0, 1, .sl 61 8 (fs.map frameA2))] := by
 have l1 : (fs.map bA).length = fs.length := List.length_map ..
 have l2 : (fs.map frameC).length = fs.length := List.length_map ..
 refine iH [nI, qU, Ln] (i := 0) [.os 0 1] Tryz.func141 rfl Tryz.ntmps141 (by simp) Tryz.results141 (pX _) ?_
 refine rnst ?_
 (any_goals refine go Tb 0 ?_)
 refine bY (fun x : Nat × Nat => x.1 ≤ fs.length) (fun x => ⟨33, [(0, .os 5 1), (7, Iv fs.length), (8, Iv x.1)], [(5, 1, .sl 61 8 (mixL frameA2 frameC fs x.1)), (20, x.2, .gone)]⟩) (fun x => fs.length - x.1) (0, 0) (Nat.zero_le _) ?_
 rintro ⟨i, u⟩ hi
 dsimp only at hi ⊢
 by_cases hlt : i < fs.length
 case neg =>
  obtain rfl : i = fs.length := by omega
  have e1 := bS fs
  rw [Bm]
  (any_goals refine go Tb 0 ?_)
  all_goals (try simp only [go_sem])
 obtain ⟨f, hx, hg, h1, h2, hw⟩ := cE bA fs hlt (by omega)
 obtain ⟨r1, r2⟩ := hr f (List.mem_of_getElem? hx)
 have l3 : (f.regs.map valR).length = f.regs.length := List.length_map ..
 have l4 : (f.tries.map tryR).length = f.tries.length := List.length_map ..
 have q1 := Ax frameA2 frameC fs i
 have q2 := Gu frameA2 frameC hx
 have q3 := Az frameA2 frameC hx
 have q5 : (mixL frameA2 frameC fs i).getD i [] = frameC f := by rw [List.getD_eq_getElem?_getD, q2]; rfl
 generalize mixL frameA2 frameC fs i = R at *
 have q4 : ∀ X, (R.set i X).length = R.length := fun X => List.length_set
 have q6 : ∀ X, (R.set i X).getD i [] = X := fun X => by rw [List.getD_eq_getElem?_getD, List.getElem?_set_self (by omega)]; rfl
 have q7 : ∀ X Y, (R.set i X).set i Y = R.set i Y := fun X Y => List.set_set ..
 (any_goals refine go (eM 6 Tb) 0 ?_)
 (apply dD 5 i 6 20 (f.regs.map valN); (exact rfl); (exact List.getElem?_set_self (by rw [q1]; exact hlt)); (exact rfl); (exact (by decide)); (exact congrArg (fun z => (1 + u, Res.sl 50 2 z)) (lT f.regs).symm); (exact rfl); (intro K0; (try simp only [go_sem, q7]); exact ⟨id⟩))
 clear q2 q4 q5 q6 q7
 (any_goals refine go Tb 0 ?_)
 refine ⟨(i + 1, u + 9), by dsimp only; omega, by dsimp only; omega, ?_⟩
 dsimp only
 rw [← q3]
 exact bF
theorem Jf (xs : List (List RV)) : ∀ row ∈ (framesOf xs).map frameA2, aX bR row = true := pX _
theorem Yh (xs : List (List RV)) (h : xs = (framesOf xs).map bA ∧ (framesOf xs).length ≤ 1000000000 ∧ ∀ f ∈ framesOf xs, f.regs.length ≤ 1000000000 ∧ f.tries.length ≤ 1000000000) : FC Cx 141 [.r (.rs 8 xs)] [] (.os 0 1) [(0, 1, .sl 61 8 ((framesOf xs).map frameA2))] := by
 have := Tl (framesOf xs) h.2.1 h.2.2
 rwa [show bO (framesOf xs) = .r (.rs 8 xs) from by show AV.r (RV.rs 8 ((framesOf xs).map bA)) = _; rw [← h.1]] at this
def mR (st : St) (d : Nat) (args : List AV) (K : AV → List Loc → List (Loc × Cont) → Prop) : Prop := match args with
 | [.r (.rs 8 xs)] => (xs = (framesOf xs).map bA ∧ (framesOf xs).length ≤ 1000000000 ∧ ∀ f ∈ framesOf xs, f.regs.length ≤ 1000000000 ∧ f.tries.length ≤ 1000000000) ∧ K (ren (fun _ => d) (fun _ => st.cur d) (.os 0 1)) [.R d] [(.R d, .s (1 + st.cur d) (.sl 61 8 ((framesOf xs).map frameA2)))]
 | _ => False
theorem Hx (st : St) (d : Nat) (args : List AV) (K : AV → List Loc → List (Loc × Cont) → Prop) (h : mR st d args K) : ∃ r ls outs, dI Cx 141 st args r ls outs ∧ K r ls outs := by
 unfold mR at h
 split at h
 ·exact ⟨_, _, _, dI.own (Yh _ h.1) rfl (Jf _) rfl d, h.2⟩
 ·exact h.elim
noncomputable def yK : Ct Cx := .res 141 mR aSd Hx
@[go_sem] theorem aJp : yK.g = 141 := rfl
@[go_sem] theorem aC8 (c : Call) (fop : Operand) (caps : List AV) (o : Oper) (st : St) (K : List Loc → List (Loc × Cont) → Prop) : yK.run c fop caps o st K = kO mR c fop caps o st K := rfl
@[go_sem] theorem aHc : type_of% @mR.eq_def := @mR.eq_def
abbrev cK (c : bJ) : List AV := [Iv c.kind, Iv c.num, aT c.vals, .nd 61 8 (c.frames.map dW)]
abbrev aV (t : aP) : List AV := [.nd 61 8 (t.frames.map dW), Iv t.state, Iv t.on, Iv t.val.1, Iv t.val.2]
structure SmF (fs : List aR) : Prop where
 len : fs.length ≤ 1000000000
 each : ∀ f ∈ fs, f.regs.length ≤ 1000000000 ∧ f.tries.length ≤ 1000000000
structure Sml (s : aC) : Prop where
 cells : s.cells.length ≤ 1000000000
 shapes : s.shapes.length ≤ 1000000000
 texts : s.texts.length ≤ 1000000000
 threads : s.threads.length ≤ 1000000000
 ends : s.ends.length ≤ 1000000000
 said : s.said.length ≤ 1000000000
 vals : ∀ c ∈ s.cells, c.vals.length ≤ 1000000000
 cell : ∀ c ∈ s.cells, SmF c.frames
 thread : ∀ t ∈ s.threads, SmF t.frames
abbrev ownC (k v : Nat) (cs : List bJ) : Nat × Nat × Res := (k, v, .sl 48 4 (cs.map cK))
abbrev ownT (k v : Nat) (ts : List aP) : Nat × Nat × Res := (k, v, .sl 56 5 (ts.map aV))
theorem Zm (cs : List bJ) (ts : List aP) (k : Nat) : bP (domR [ownC 7 1 cs, ownT 16 1 ts]) (aB k [ownC 7 1 cs, ownT 16 1 ts]).2 := by
 have e : aB k [ownC 7 1 cs, ownT 16 1 ts] = if k = 7 then (1, .sl 48 4 (cs.map cK)) else if k = 16 then (1, .sl 56 5 (ts.map aV)) else (0, .gone) := rfl
 rw [e]
 split
 ·exact fun row h => by obtain ⟨x, _, rfl⟩ := List.mem_map.1 h; rfl
 ·split
  ·exact fun row h => by obtain ⟨x, _, rfl⟩ := List.mem_map.1 h; rfl
  ·trivial
theorem aMm (s : aC) (hm : Sml s) : FC Cx 84 [aH s] [] (.agg [.os 7 1, aT s.shapes, bZ s.texts, .os 16 1, eY s.ends, aT s.said, Iv s.asked, Iv s.steps]) [ownC 7 1 s.cells, ownT 16 1 s.threads] := by
 obtain ⟨m1, m2, m3, m4, m5, m6, m7, m8, m9⟩ := hm
 have l1 : (s.cells.map aW).length = s.cells.length := List.length_map ..
 have l2 : (s.shapes.map valR).length = s.shapes.length := List.length_map ..
 have l3 : (s.texts.map strR).length = s.texts.length := List.length_map ..
 have l4 : (s.threads.map aJ).length = s.threads.length := List.length_map ..
 have l5 : (s.ends.map endR).length = s.ends.length := List.length_map ..
 have l6 : (s.said.map valR).length = s.said.length := List.length_map ..
 have l7 : (s.cells.map cellC).length = s.cells.length := List.length_map ..
 have l8 : (s.threads.map threadC).length = s.threads.length := List.length_map ..
 refine iZ [pG, lW, Dk, Kc, Jo, Jt, yK]  Tryz.func84 rfl Tryz.ntmps84 (by simp) Tryz.results84 rfl (Zm _ _) ?_
 refine rnst ?_
 (any_goals refine go lv84 0 ?_)
 refine bY (fun x : Nat × Nat => x.1 ≤ s.cells.length) (fun x => ⟨80, [(1, .os 1 1), (2, .os 2 1), (31, Iv s.cells.length), (32, Iv x.1)], [(1, 1, .bx [.os 7 1, aT s.shapes, bZ s.texts, .os 16 1, eY s.ends, aT s.said, Iv s.asked, Iv s.steps]), (2, 1, .bx [NilS, NilS, NilS, NilS, NilS, NilS, Iv 0, Iv 0]), (7, 1, .sl 48 4 (mixL cK cellC s.cells x.1)), (16, 1, .sl 56 5 (s.threads.map threadC)), (54, x.2, .gone)]⟩) (fun x => s.cells.length - x.1) (0, 0) (Nat.zero_le _) ?_
 rintro ⟨i, u⟩ hi
 dsimp only at hi ⊢
 by_cases hlt : i < s.cells.length
 case pos =>
  obtain ⟨c, hx, hg, h1, h2, hw⟩ := cE aW s.cells hlt (by omega)
  have r1 := m7 c (List.mem_of_getElem? hx)
  obtain ⟨r2, r3⟩ := m8 c (List.mem_of_getElem? hx)
  have l9 : (c.vals.map valR).length = c.vals.length := List.length_map ..
  have l10 : (c.frames.map bA).length = c.frames.length := List.length_map ..
  have q1 := Ax cK cellC s.cells i
  have q2 := Gu cK cellC hx
  have q3 := Az cK cellC hx
  have q5 : (mixL cK cellC s.cells i).getD i [] = cellC c := by rw [List.getD_eq_getElem?_getD, q2]; rfl
  generalize mixL cK cellC s.cells i = R at *
  have q4 : ∀ X, (R.set i X).length = R.length := fun X => List.length_set
  have q6 : ∀ X, (R.set i X).getD i [] = X := fun X => by rw [List.getD_eq_getElem?_getD, List.getElem?_set_self (by omega)]; rfl
  have q7 : ∀ X Y, (R.set i X).set i Y = R.set i Y := fun X Y => List.set_set ..
  clear m7 m8 m9
  (any_goals refine go (eM 6 lv84) 0 ?_)
  (apply dD 7 i 3 54 (c.frames.map dW); (exact rfl); (exact List.getElem?_set_self (by rw [q1]; exact hlt)); (exact rfl); (exact (by decide)); (exact congrArg (fun z => (1 + u, Res.sl 61 8 z)) (dJ c.frames).symm); (exact rfl); (intro K0; (try simp only [go_sem, q7]); exact ⟨id⟩))
  clear q2 q4 q5 q6 q7
  (any_goals refine go lv84 0 ?_)
  refine ⟨(i + 1, u + 9), by dsimp only; omega, by dsimp only; omega, ?_⟩
  dsimp only
  rw [← q3]
  exact bF
 obtain rfl : i = s.cells.length := by omega
 have e1 := bS s.cells
 rw [Bm]
 clear hi hlt
 (any_goals refine go lv84 0 ?_)
 clear e1
 refine bY (fun x : Nat × Nat => x.1 ≤ s.threads.length) (fun x => ⟨80, [(1, .os 1 1), (2, .os 2 1), (62, Iv s.threads.length), (63, Iv x.1)], [(1, 1, .bx [.os 7 1, aT s.shapes, bZ s.texts, .os 16 1, eY s.ends, aT s.said, Iv s.asked, Iv s.steps]), (2, 1, .bx [NilS, NilS, NilS, NilS, NilS, NilS, Iv 0, Iv 0]), (7, 1, .sl 48 4 (s.cells.map cK)), (16, 1, .sl 56 5 (mixL aV threadC s.threads x.1)), (54, u, .gone), (75, x.2, .gone)]⟩) (fun x => s.threads.length - x.1) (0, 0) (Nat.zero_le _) ?_
 rintro ⟨i, w⟩ hi
 dsimp only at hi ⊢
 by_cases hlt : i < s.threads.length
 case pos =>
  obtain ⟨t, hx, hg, h1, h2, hw⟩ := cE aJ s.threads hlt (by omega)
  obtain ⟨r2, r3⟩ := m9 t (List.mem_of_getElem? hx)
  have l10 : (t.frames.map bA).length = t.frames.length := List.length_map ..
  have q1 := Ax aV threadC s.threads i
  have q2 := Gu aV threadC hx
  have q3 := Az aV threadC hx
  have q5 : (mixL aV threadC s.threads i).getD i [] = threadC t := by rw [List.getD_eq_getElem?_getD, q2]; rfl
  generalize mixL aV threadC s.threads i = R at *
  have q4 : ∀ X, (R.set i X).length = R.length := fun X => List.length_set
  have q6 : ∀ X, (R.set i X).getD i [] = X := fun X => by rw [List.getD_eq_getElem?_getD, List.getElem?_set_self (by omega)]; rfl
  have q7 : ∀ X Y, (R.set i X).set i Y = R.set i Y := fun X Y => List.set_set ..
  clear m7 m8 m9
  (any_goals refine go (eM 11 lv84) 0 ?_)
  (apply dD 16 i 0 75 (t.frames.map dW); (exact rfl); (exact List.getElem?_set_self (by rw [q1]; exact hlt)); (exact rfl); (exact (by decide)); (exact congrArg (fun z => (1 + w, Res.sl 61 8 z)) (dJ t.frames).symm); (exact rfl); (intro K0; (try simp only [go_sem, q7]); exact ⟨id⟩))
  clear q2 q4 q5 q6 q7
  (any_goals refine go lv84 0 ?_)
  refine ⟨(i + 1, w + 9), by dsimp only; omega, by dsimp only; omega, ?_⟩
  dsimp only
  rw [← q3]
  exact bF
 obtain rfl : i = s.threads.length := by omega
 have e1 := bS s.threads
 rw [Bm]
 clear hi hlt
 (any_goals refine go lv84 0 ?_)
 all_goals (try simp only [go_sem])
structure gX where
 kind : Int
 step : Int
 thread : Int
 fn : Int
 pc : Int
 line : Int
 a : Int
 b : Int
 val : Int × Int
 old : Int × Int
 deriving DecidableEq
abbrev uY (e : gX) : List RV := [.v (.int .i64 e.kind), .v (.int .i64 e.step), .v (.int .i64 e.thread), .v (.int .i64 e.fn), .v (.int .i64 e.pc), .v (.int .i64 e.line), .v (.int .i64 e.a), .v (.int .i64 e.b), .v (.int .i64 e.val.1), .v (.int .i64 e.val.2), .v (.int .i64 e.old.1), .v (.int .i64 e.old.2)]
abbrev cV (e : gX) : AV := .agg [Iv e.kind, Iv e.step, Iv e.thread, Iv e.fn, Iv e.pc, Iv e.line, Iv e.a, Iv e.b, Iv e.val.1, Iv e.val.2, Iv e.old.1, Iv e.old.2]
abbrev bI (l : List gX) : AV := .r (.rs 12 (l.map uY))
def atF (p : aI) (s : aC) (th : Nat) (f : aR) : gX := ⟨0, s.steps, th, f.fn, f.pc, ((p.fns.getD f.fn.toNat fn0).code.getD f.pc.toNat ins0).line, 0, 0, (0, 0), (0, 0)⟩
theorem aBb (p : aI) (s : aC) (th : Nat) (t : aP) (f : aR) (hp : Pgo p) (ht : s.threads[th]? = some t) (hf : t.frames[t.frames.length - 1]? = some f) (hfr : cU p s f = true) (hl : t.frames.length ≤ 1000000000) :
  FC Cx 86 [.r (.rp (cQ p)), bT s, Iv th] [] (cV (atF p s th f)) [] := by
 have l0 : (p.fns.map fnR).length = p.fns.length := List.length_map ..
 have l1 : (s.threads.map aJ).length = s.threads.length := List.length_map ..
 have l2 : (t.frames.map bA).length = t.frames.length := List.length_map ..
 have hk := (List.getElem?_eq_some_iff.1 ht).1
 have hfk := (List.getElem?_eq_some_iff.1 hf).1
 have t1 : Int.toNat (th : Int) = th := by omega
 have t2 : Int.toNat ((t.frames.length : Int) - 1) = t.frames.length - 1 := by omega
 have w1 : IntKind.i64.wrap ((t.frames.length : Int) - 1) = (t.frames.length : Int) - 1 := by rw [aN] <;> omega
 have d1 : decide ((0 : Int) < (t.frames.length : Int)) = true := by rw [decide_eq_true_eq]; omega
 have hg := aE aJ ht ([] : List RV)
 have hgf := aE bA hf ([] : List RV)
 obtain ⟨⟨g1, g2⟩, g3, g4⟩ := jC hfr
 obtain ⟨F, hF⟩ : ∃ F, p.fns[f.fn.toNat]? = some F := ⟨p.fns[f.fn.toNat]'(by omega), List.getElem?_eq_getElem _⟩
 have gF := aE fnR hF ([] : List RV)
 have eF : p.fns.getD f.fn.toNat fn0 = F := by rw [List.getD_eq_getElem?_getD, hF]; rfl
 rw [eF] at g4
 have l3 : (F.code.map insR).length = F.code.length := List.length_map ..
 obtain ⟨I, hI⟩ : ∃ I, F.code[f.pc.toNat]? = some I := ⟨F.code[f.pc.toNat]'(by omega), List.getElem?_eq_getElem _⟩
 have gI := aE insR hI ([] : List RV)
 have eI : F.code.getD f.pc.toNat ins0 = I := by rw [List.getD_eq_getElem?_getD, hI]; rfl
 unfold atF
 rw [eF, eI]
 clear eF eI hfr
 obtain ⟨fn, pc, tov, gen, ⟨sk, sn⟩, regs, tries⟩ := f
 dsimp only at *
 refine aD [] Tryz.func86 Tryz.ntmps86 Tryz.results86 ?_
 (any_goals refine go lv86 0 ?_)
 all_goals (try simp only [go_sem])
theorem uD (p : aI) (s : aC) (th : Nat) (t : aP) (f : aR) (hp : Pgo p) (ht : s.threads[th]? = some t) (hf : t.frames[t.frames.length - 1]? = some f) (hfr : cU p s f = true) (hl : t.frames.length ≤ 1000000000) :
  FC Cx 37 [bC p, aH s, Iv th] [] (cV (atF p s th f)) [] := by
 have l0 : (p.fns.map fnR).length = p.fns.length := List.length_map ..
 have l1 : (s.threads.map aJ).length = s.threads.length := List.length_map ..
 have l2 : (t.frames.map bA).length = t.frames.length := List.length_map ..
 have hk := (List.getElem?_eq_some_iff.1 ht).1
 have hfk := (List.getElem?_eq_some_iff.1 hf).1
 have t1 : Int.toNat (th : Int) = th := by omega
 have t2 : Int.toNat ((t.frames.length : Int) - 1) = t.frames.length - 1 := by omega
 have w1 : IntKind.i64.wrap ((t.frames.length : Int) - 1) = (t.frames.length : Int) - 1 := by rw [aN] <;> omega
 have d1 : decide ((0 : Int) < (t.frames.length : Int)) = true := by rw [decide_eq_true_eq]; omega
 have hg := aE aJ ht ([] : List RV)
 have hgf := aE bA hf ([] : List RV)
 obtain ⟨⟨g1, g2⟩, g3, g4⟩ := jC hfr
 obtain ⟨F, hF⟩ : ∃ F, p.fns[f.fn.toNat]? = some F := ⟨p.fns[f.fn.toNat]'(by omega), List.getElem?_eq_getElem _⟩
 have gF := aE fnR hF ([] : List RV)
 have eF : p.fns.getD f.fn.toNat fn0 = F := by rw [List.getD_eq_getElem?_getD, hF]; rfl
 rw [eF] at g4
 have l3 : (F.code.map insR).length = F.code.length := List.length_map ..
 obtain ⟨I, hI⟩ : ∃ I, F.code[f.pc.toNat]? = some I := ⟨F.code[f.pc.toNat]'(by omega), List.getElem?_eq_getElem _⟩
 have gI := aE insR hI ([] : List RV)
 have eI : F.code.getD f.pc.toNat ins0 = I := by rw [List.getD_eq_getElem?_getD, hI]; rfl
 unfold atF
 rw [eF, eI]
 clear eF eI hfr
 obtain ⟨fn, pc, tov, gen, ⟨sk, sn⟩, regs, tries⟩ := f
 dsimp only at *
 refine aD [] Tryz.func37 Tryz.ntmps37 Tryz.results37 ?_
 refine goR ?_
 refine fzB 3 ?_
 refine fzB 4 ?_
 (any_goals refine go lv37 0 ?_)
 all_goals (try simp only [go_sem])
theorem aDy (e : gX) (k a b : Int) (v o : Int × Int) : FC Cx 88 [cV e, Iv k, Iv a, Iv b, VV v.1 v.2, VV o.1 o.2] [] (cV { e with kind := k, a := a, b := b, val := v, old := o }) [] := by
 refine aD [] Tryz.func88 Tryz.ntmps88 Tryz.results88 ?_
 (any_goals refine go lv88 0 ?_)
 all_goals (try simp only [go_sem])
def spN (m : List (Nat × Nat)) (args0 : List AV) (r0 : AV) (rs1 : List (Nat × Nat × Res)) (st : St) (_ : Nat) (args : List AV) (K : AV → List Loc → List (Loc × Cont) → Prop) : Prop :=
 args = args0 ∧ K (ren (mpS (m.map fun q => (q.1, q.2, st.cur q.2))) (mpD (m.map fun q => (q.1, q.2, st.cur q.2))) r0) (m.map fun q => .R q.2) (m.map fun q => (.R q.2, .s ((aB q.1 rs1).1 + st.cur q.2) (dQ (mpS (m.map fun q => (q.1, q.2, st.cur q.2))) (mpD (m.map fun q => (q.1, q.2, st.cur q.2))) (aB q.1 rs1).2)))
structure NOk {C : Ctx} (f : Nat) (m : List (Nat × Nat)) (args0 : List AV) (r0 : AV) (rs1 : List (Nat × Nat × Res)) : Prop where
 fc : FC C f args0 [] r0 rs1
 keys : (rs1.all fun p => m.any fun q => q.1 == p.1) = true
 nd : ndB (m.map (·.2)) = true
 nd1 : ndB (m.map (·.1)) = true
 args : aX bR args0 = true
 noR : ∀ σ δ, renL σ δ args0 = args0
 res : bK (domR rs1) r0 = true
 in1 : ∀ p ∈ rs1, bP (domR rs1) p.2.2
 dom : ∀ q ∈ m, domR rs1 q.1 = true ∧ 1 ≤ (aB q.1 rs1).1
theorem aHf {m : List (Nat × Nat)} (h : (m.map (·.1)).Nodup) (c : Nat → Nat) : ∀ q ∈ m, mpS (m.map fun q => (q.1, q.2, c q.2)) q.1 = q.2 ∧ mpD (m.map fun q => (q.1, q.2, c q.2)) q.1 = c q.2 := by
 induction m with
 | nil => intro q hq; simp at hq
 | cons p m ih =>
  intro q hq
  rw [List.map_cons, List.nodup_cons] at h
  rcases List.mem_cons.1 hq with rfl | hq
  ·simp [mpS, mpD]
  ·have hne : q.1 ≠ p.1 := fun e => h.1 (by rw [← e]; exact List.mem_map_of_mem hq)
   have := ih h.2 q hq
   simp only [List.map_cons, mpS, mpD]
   rw [if_neg (by simpa using hne), if_neg (by simpa using hne)]
   exact this
theorem aK9 {C : Ctx} {f : Nat} {m : List (Nat × Nat)} {args0 : List AV} {r0 : AV} {rs1 : List (Nat × Nat × Res)} (q : NOk (C := C) f m args0 r0 rs1) (st : St) (d : Nat) (args : List AV) (K : AV → List Loc → List (Loc × Cont) → Prop) (h : spN m args0 r0 rs1 st d args K) :
  ∃ r ls outs, dI C f st args r ls outs ∧ K r ls outs := by
 obtain ⟨rfl, h3⟩ := h
 have hmp := aHf (Ca q.nd1) st.cur
 have hc := dI.gen (st := st) q.fc (m.map fun q => (q.1, q.2, st.cur q.2)) (by simpa [List.any_map] using q.keys) (by rw [List.map_map]; exact Ca q.nd) (cA q.args) q.res (fun p hp => by simp at hp) q.in1 (fun p hp => by simp at hp) (fun p hp _ _ => by
  obtain ⟨z, hz, rfl⟩ := List.mem_map.1 hp
  have := (q.dom z hz).2
  rw [(hmp z hz).1, (hmp z hz).2]
  exact Nat.lt_add_of_pos_left this)
 rw [q.noR] at hc
 refine ⟨_, _, _, hc, ?_⟩
 have e1 : (m.map fun q => (q.1, q.2, st.cur q.2)).map (fun z => Loc.R (mpS (m.map fun q => (q.1, q.2, st.cur q.2)) z.1)) = m.map fun q => Loc.R q.2 := by
  rw [List.map_map]
  exact List.map_congr_left fun z hz => congrArg Loc.R (hmp z hz).1
 have e2 : (m.map fun q => (q.1, q.2, st.cur q.2)).map (fun z => ((Loc.R (mpS (m.map fun q => (q.1, q.2, st.cur q.2)) z.1), Cont.s (jT (mpD (m.map fun q => (q.1, q.2, st.cur q.2))) (mpS (m.map fun q => (q.1, q.2, st.cur q.2))) rs1 st z.1) (dQ (mpS (m.map fun q => (q.1, q.2, st.cur q.2))) (mpD (m.map fun q => (q.1, q.2, st.cur q.2))) (aB z.1 rs1).2)) : Loc × Cont)) =
   m.map fun z => (Loc.R z.2, Cont.s ((aB z.1 rs1).1 + st.cur z.2) (dQ (mpS (m.map fun q => (q.1, q.2, st.cur q.2))) (mpD (m.map fun q => (q.1, q.2, st.cur q.2))) (aB z.1 rs1).2)) := by
  rw [List.map_map]
  refine List.map_congr_left fun z hz => ?_
  simp only [Function.comp]
  rw [(hmp z hz).1]
  unfold jT
  rw [if_pos (q.dom z hz).1, (hmp z hz).2]
 rw [e1, e2]
 exact h3
noncomputable def ctN {C : Ctx} (f : Nat) (m : List (Nat × Nat)) (args0 : List AV) (r0 : AV) (rs1 : List (Nat × Nat × Res)) (he : aF C.P f) (q : NOk (C := C) f m args0 r0 rs1) : Ct C := .res f (spN m args0 r0 rs1) he (aK9 q)
@[go_sem] theorem aY4 {C : Ctx} (f : Nat) (m : List (Nat × Nat)) (args0 : List AV) (r0 : AV) (rs1 : List (Nat × Nat × Res)) (he : aF C.P f) (q : NOk (C := C) f m args0 r0 rs1) : (ctN f m args0 r0 rs1 he q).g = f := rfl
@[go_sem] theorem aX7 {C : Ctx} (f : Nat) (m : List (Nat × Nat)) (args0 : List AV) (r0 : AV) (rs1 : List (Nat × Nat × Res)) (he : aF C.P f) (q : NOk (C := C) f m args0 r0 rs1) (c : Call) (fop : Operand) (cs : List AV) (o : Oper) (st : St) (K : List Loc → List (Loc × Cont) → Prop) : (ctN f m args0 r0 rs1 he q).run c fop cs o st K = kO (spN m args0 r0 rs1) c fop cs o st K := rfl
attribute [go_sem] spN
abbrev boxS (s : aC) (k v a va b vb : Nat) : Nat × Nat × Res := (k, v, .bx [.os a va, aT s.shapes, bZ s.texts, .os b vb, eY s.ends, aT s.said, Iv s.asked, Iv s.steps])
theorem Fu (s : aC) (cs : List bJ) (ts : List aP) (k : Nat) : bP (domR [boxS s 0 0 1 0 2 0, ownC 1 0 cs, ownT 2 0 ts]) (aB k [boxS s 0 0 1 0 2 0, ownC 1 0 cs, ownT 2 0 ts]).2 := by
 have e : aB k [boxS s 0 0 1 0 2 0, ownC 1 0 cs, ownT 2 0 ts] = if k = 0 then (0, (boxS s 0 0 1 0 2 0).2.2) else if k = 1 then (0, .sl 48 4 (cs.map cK)) else if k = 2 then (0, .sl 56 5 (ts.map aV)) else (0, .gone) := rfl
 rw [e]
 split
 ·rfl
 ·split
  ·exact fun row h => by obtain ⟨x, _, rfl⟩ := List.mem_map.1 h; rfl
  ·split
   ·exact fun row h => by obtain ⟨x, _, rfl⟩ := List.mem_map.1 h; rfl
   ·trivial
def TrG (f : FnT) (W : WT) (l : List (Int × Int)) : Prop := ∀ (j : Nat) (y : Int × Int), l[j]? = some y → (0 ≤ y.1 ∧ y.1 < f.regs) ∧ To f W y.2 (l.take j)
theorem TrG.keeps {f : FnT} {W W' : WT} {l : List (Int × Int)} (h : TrG f W l) (hk : ∀ t l, To f W t l → To f W' t l) : TrG f W' l := fun j y hy => ⟨(h j y hy).1, hk _ _ (h j y hy).2⟩
theorem TrG.nil (f : FnT) (W : WT) : TrG f W [] := fun j y hy => by simp at hy
theorem TrG.take {f : FnT} {W : WT} {l : List (Int × Int)} (h : TrG f W l) (k : Nat) : TrG f W (l.take k) := fun j y hy => by
 rw [List.getElem?_take] at hy
 split at hy
 ·rename_i hj
  have := h j y hy
  rw [List.take_take, Nat.min_eq_left (by omega)]; exact this
 ·cases hy
theorem TrG.push {f : FnT} {W : WT} {l : List (Int × Int)} (h : TrG f W l) {a b : Int} (ha : 0 ≤ a ∧ a < f.regs) (hb : To f W b l) : TrG f W (l ++ [(a, b)]) := fun j y hy => by
 by_cases hj : j < l.length
 ·rw [List.getElem?_append_left hj] at hy
  rw [List.take_append_of_le_length (by omega)]
  exact h j y hy
 ·rw [List.getElem?_append_right (by omega)] at hy
  have he : j - l.length = 0 := by
   rcases Nat.eq_zero_or_pos (j - l.length) with h | h
   ·exact h
   ·rw [List.getElem?_eq_none (by simp; omega)] at hy; cases hy
  rw [he] at hy; simp at hy; subst hy
  rw [show j = l.length by omega, List.take_left]
  exact ⟨ha, hb⟩
def Wtr6 (f : FnT) (W : WT) : Prop := ∀ k : Nat, W.seen.getD k false = true → TrG f W (W.out.getD k [])
theorem lP {f : FnT} {n : Int} {l : List (Int × Int)} {W : WT} (hi : Wiv f W) (hn : 0 ≤ n) (hl : TrG f (aZ f n l W) l) (hW : Wtr6 f W) : Wtr6 f (aZ f n l W) := by
 intro k hk
 by_cases hs : W.seen.getD k false = true
 ·have hT := qN hi hs
  have h2 := cT (n := n) (l := l) hT
  have : (aZ f n l W).out.getD k [] = W.out.getD k [] := h2.out
  rw [this]
  exact (hW k hs).keeps fun t l' hT => cT hT
 ·have h1 := hi.out
  unfold aZ at hk hl ⊢
  split at hk
  ·exact absurd hk hs
  ·rename_i hb
   rw [if_neg hb] at hl ⊢
   split at hk
   ·rename_i hs2
    rw [if_pos hs2] at hl ⊢
    by_cases he : n.toNat = k
    ·subst he
     dsimp only
     rw [fA (by omega)]; exact hl
    ·dsimp only at hk; rw [gG he] at hk; exact absurd hk hs
   ·split at hk <;> exact absurd hk hs
theorem Oh {f : FnT} {n : Int} {l : List (Int × Int)} {W : WT} (h : (aZ f n l W).bad = false) : W.bad = false := by
 cases hx : W.bad with
 | false => rfl
 | true => rw [pN hx] at h; cases h
theorem aAq {f : FnT} {n : Int} {W : WT} (h : Wiv f W) (hc : Cok f) (hr : ∀ i ∈ f.code, i.op = 30 → 0 ≤ i.a ∧ i.a < f.regs) (hn : 0 ≤ n) (hs : W.seen.getD n.toNat false = true) (hb : (bW f n W).bad = false) (hW : Wtr6 f W) : Wtr6 f (bW f n W) := by
 have hi : f.code.getD n.toNat ins0 = ins0 ∨ f.code.getD n.toNat ins0 ∈ f.code := by
  cases hg : f.code[n.toNat]? with
  | none => left; simp [List.getD, hg]
  | some i => right; simp only [List.getD, hg, Option.getD_some]; exact List.mem_of_getElem? hg
 have hA : (f.code.getD n.toNat ins0).op = 13 ∨ (f.code.getD n.toNat ins0).op = 14 → 0 ≤ (f.code.getD n.toNat ins0).a := fun ho => hi.elim (fun h => by rw [h] at ho; rcases ho with ho | ho <;> cases ho) (fun h => hc.a _ h ho)
 have hB : (f.code.getD n.toNat ins0).op = 15 ∨ (f.code.getD n.toNat ins0).op = 30 → 0 ≤ (f.code.getD n.toNat ins0).b := fun ho => hi.elim (fun h => by rw [h] at ho; rcases ho with ho | ho <;> cases ho) (fun h => hc.b _ h ho)
 have hR : (f.code.getD n.toNat ins0).op = 30 → 0 ≤ (f.code.getD n.toNat ins0).a ∧ (f.code.getD n.toNat ins0).a < f.regs := fun ho => hi.elim (fun h => by rw [h] at ho; cases ho) (fun h => hr _ h ho)
 have hl := hW n.toNat hs
 unfold bW at hb ⊢
 generalize f.code.getD n.toNat ins0 = i at hA hB hR hb ⊢
 generalize W.out.getD n.toNat [] = l at hl hb ⊢
 dsimp only at hb ⊢
 split at hb
 ·rename_i h1; rw [if_pos h1]; exact hW
 ·rename_i h1
  rw [if_neg h1]
  split at hb
  ·rename_i h2; rw [if_pos h2]
   exact lP h (hA h2) (hl.keeps fun t l' hT => cT hT) hW
  ·rename_i h2
   rw [if_neg h2]
   split at hb
   ·rename_i h3; rw [if_pos h3]
    have q := (cO (n := i.b) (l := l) h (hB (.inl h3))).1
    exact lP q (by omega) ((hl.keeps fun t l' hT => cT hT).keeps fun t l' hT => cT hT) (lP h (hB (.inl h3)) (hl.keeps fun t l' hT => cT hT) hW)
   ·rename_i h3
    rw [if_neg h3]
    split at hb
    ·rename_i h4; rw [if_pos h4]
     have q := (cO (n := i.b) (l := l) h (hB (.inr h4))).1
     have hT := cT (n := n + 1) (l := l ++ [(i.a, i.b)]) (oZ h (hB (.inr h4)) (Oh hb))
     exact lP q (by omega) (((hl.keeps fun t l' hT => cT hT).keeps fun t l' hT => cT hT).push (hR h4) hT) (lP h (hB (.inr h4)) (hl.keeps fun t l' hT => cT hT) hW)
    ·rename_i h4
     rw [if_neg h4]
     split at hb
     ·rename_i h5; rw [if_pos h5]
      split at hb
      ·cases hb
      ·rename_i h6; rw [if_neg h6]
       exact lP h (by omega) ((hl.take _).keeps fun t l' hT => cT hT) hW
     ·rename_i h5; rw [if_neg h5]
      exact lP h (by omega) (hl.keeps fun t l' hT => cT hT) hW
def Wtd6 (W : WT) : Prop := ∀ t ∈ W.todo, W.seen.getD t.toNat false = true
theorem lO {f : FnT} {n : Int} {l : List (Int × Int)} {W : WT} (hi : Wiv f W) (hn : 0 ≤ n) (h : Wtd6 W) : Wtd6 (aZ f n l W) := by
 have h1 := hi.seen
 unfold aZ
 split
 ·exact h
 ·rename_i hb
  split
  ·intro t ht
   dsimp only at ht ⊢
   by_cases he : n.toNat = t.toNat
   ·rw [← he, fA (by omega)]
   ·rw [gG he]
    rcases List.mem_append.1 ht with ht | ht
    ·exact h t ht
    ·simp at ht; subst ht; exact absurd rfl he
  ·split <;> exact h
theorem aBz {f : FnT} {n : Int} {W : WT} (h : Wiv f W) (hc : Cok f) (hn : 0 ≤ n) (hW : Wtd6 W) : Wtd6 (bW f n W) := by
 have hi : f.code.getD n.toNat ins0 = ins0 ∨ f.code.getD n.toNat ins0 ∈ f.code := by
  cases hg : f.code[n.toNat]? with
  | none => left; simp [List.getD, hg]
  | some i => right; simp only [List.getD, hg, Option.getD_some]; exact List.mem_of_getElem? hg
 have hA : (f.code.getD n.toNat ins0).op = 13 ∨ (f.code.getD n.toNat ins0).op = 14 → 0 ≤ (f.code.getD n.toNat ins0).a := fun ho => hi.elim (fun h => by rw [h] at ho; rcases ho with ho | ho <;> cases ho) (fun h => hc.a _ h ho)
 have hB : (f.code.getD n.toNat ins0).op = 15 ∨ (f.code.getD n.toNat ins0).op = 30 → 0 ≤ (f.code.getD n.toNat ins0).b := fun ho => hi.elim (fun h => by rw [h] at ho; rcases ho with ho | ho <;> cases ho) (fun h => hc.b _ h ho)
 unfold bW
 generalize f.code.getD n.toNat ins0 = i at hA hB ⊢
 generalize W.out.getD n.toNat [] = l
 dsimp only
 split
 ·exact hW
 ·split
  ·rename_i ho; exact lO h (hA ho) hW
  ·split
   ·rename_i ho
    exact lO (cO (n := i.b) (l := l) h (hB (.inl ho))).1 (by omega) (lO h (hB (.inl ho)) hW)
   ·split
    ·rename_i ho
     exact lO (cO (n := i.b) (l := l) h (hB (.inr ho))).1 (by omega) (lO h (hB (.inr ho)) hW)
    ·split
     ·split
      ·exact hW
      ·exact lO h (by omega) hW
     ·exact lO h (by omega) hW
theorem Rr {f : FnT} (hc : Cok f) (hr : ∀ i ∈ f.code, i.op = 30 → 0 ≤ i.a ∧ i.a < f.regs) : ∀ (k : Nat) (W : WT), Wiv f W → Wtd6 W → Wtr6 f W → (runW f k W).bad = false → Wtr6 f (runW f k W)
 | 0, W, _, _, h, _ => h
 | k + 1, W, hi, ht, h, hb => by
  have hrun : runW f (k + 1) W = if cP W = true then runW f k (dT f W) else W := rfl
  rw [hrun] at hb ⊢
  split at hb
  ·rename_i hg
   rw [if_pos hg]
   have h0 : 0 < W.todo.length := by simp [cP] at hg; exact hg.1
   obtain ⟨q1, q2, q3, q4⟩ := qK hi h0
   have hbs : (dT f W).bad = false := by
    cases hx : (dT f W).bad with
    | false => rfl
    | true =>
     have : ∀ (k : Nat) (W : WT), Wiv f W → W.bad = true → (runW f k W).bad = true := fun k => by
      induction k with
      | zero => intro W _ h; exact h
      | succ k ih =>
       intro W hi h
       show (if cP W = true then runW f k (dT f W) else W).bad = true
       have : cP W = false := by unfold cP; rw [h]; simp
       rw [this, if_neg (by simp)]; exact h
     rw [this k _ (jJ hi hc hg).1 hx] at hb; cases hb
   have hm : jP W ∈ W.todo := by
    unfold jP
    rw [List.getD_eq_getElem?_getD, List.getElem?_eq_getElem (show W.todo.length - 1 < W.todo.length by omega)]
    exact List.getElem_mem _
   have hp : Wtr6 f (popW W) := fun k hk => (h k hk).keeps fun t l hT => ⟨hT.lo, hT.hi, hT.few, hT.seen, hT.out⟩
   have hpt : Wtd6 (popW W) := fun t ht' => ht t (List.mem_of_mem_take ht')
   exact Rr hc hr k _ (jJ hi hc hg).1 (aBz q1 hc q3 hpt) (aAq q1 hc hr q3 (ht _ hm) hbs hp) hb
  ·rename_i hg; rw [if_neg hg]; exact h
theorem Yq {f : FnT} (hc : Cok f) (hr : ∀ i ∈ f.code, i.op = 30 → 0 ≤ i.a ∧ i.a < f.regs) (hb : (bN f).bad = false) : Wtr6 f (bN f) := by
 obtain ⟨i0, m0⟩ := jR f
 obtain ⟨q1, q2⟩ := cO (n := 0) (l := []) i0 (Int.le_refl 0)
 have h0 : Wtr6 f (W0 f) := fun k hk => by
  exfalso
  have : (W0 f).seen.getD k false = false := by
   show (List.replicate f.code.length false).getD k false = false
   simp only [List.getD, List.getElem?_replicate]
   split <;> rfl
  rw [this] at hk; cases hk
 have t0 : Wtd6 (W0 f) := fun t ht => by cases ht
 exact Rr hc hr _ _ q1 (lO i0 (Int.le_refl 0) t0) (lP i0 (Int.le_refl 0) (TrG.nil _ _) h0) hb
theorem Ug {p : aI} {f : FnT} (h : jM p f = true) : ∀ i ∈ f.code, i.op = 30 → 0 ≤ i.a ∧ i.a < f.regs := by
 intro i hi ho
 obtain ⟨k, hk, rfl⟩ := List.getElem_of_mem hi
 have h1 := List.all_eq_true.1 h k (List.mem_range.2 hk)
 rw [show f.code.getD k ins0 = f.code[k] by simp [List.getD, List.getElem?_eq_getElem hk]] at h1
 have h2 : kL p f f.code[k] = true := by
  unfold fH at h1
  split at h1
  ·cases h1
  ·split at h1
   ·cases h1
   ·rename_i h; simpa using h
 simp only [kL, Bool.and_eq_true] at h2
 have h3 := h2.1.1.2
 have e : fB (f.code[k]).op 0 = 114 := by rw [ho]; rfl
 rw [e] at h3
 have h4 : wiF (f.code[k]).a 0 (f.regs - 1) = true := h3
 have h5 := oW.1 h4
 exact ⟨h5.1, by omega⟩
theorem sF {p : aI} {s : aC} {f : aR} (hw : Pwf p) (hp : checkF p = 0) (h : cU p s f = true) : f.tries.length ≤ 20 ∧ f.regs.length ≤ 60 ∧ (f.regs.length : Int) = (p.fns.getD f.fn.toNat fn0).regs ∧ TrG (p.fns.getD f.fn.toNat fn0) (bN (p.fns.getD f.fn.toNat fn0)) f.tries := by
 obtain ⟨⟨g1, g2⟩, g3, g4⟩ := jC h
 obtain ⟨F, hF⟩ : ∃ F, p.fns[f.fn.toNat]? = some F := ⟨p.fns[f.fn.toNat]'(by omega), List.getElem?_eq_getElem _⟩
 have eF : p.fns.getD f.fn.toNat fn0 = F := by rw [List.getD_eq_getElem?_getD, hF]; rfl
 obtain ⟨hpok, hfun, hcok, hbad⟩ := vI hw hp (List.mem_of_getElem? hF)
 have hord : jM p F = true := by
  unfold bQ at hfun
  split at hfun
  ·cases hfun
  ·split at hfun
   ·cases hfun
   ·rename_i h; simpa using h
 have hr60 := (hpok.fn F (List.mem_of_getElem? hF)).2.1
 unfold cU at h
 simp only [Bool.and_eq_true, decide_eq_true_eq] at h
 obtain ⟨⟨⟨⟨⟨⟨⟨_, _⟩, _⟩, b4⟩, _⟩, b6⟩, b7⟩, _⟩ := h
 rw [eF] at b4 b6 b7 ⊢
 have hT := qN (zS hcok) b6
 have hfew := hT.few
 rw [← b7] at hfew
 refine ⟨hfew, by omega, b4, ?_⟩
 have := Yq hcok (Ug hord) hbad f.pc.toNat b6
 rw [← b7] at this
 exact this
structure iW (s t : aC) : Prop where
 texts : s.texts.length ≤ t.texts.length
 cells : ∀ (k : Nat) (c : bJ), s.cells[k]? = some c → ∃ c', t.cells[k]? = some c' ∧ c'.kind = c.kind ∧ (c.kind = 4 → c'.num = c.num)
theorem iW.at {s t : aC} (h : iW s t) {n : Nat} (hn : n < s.cells.length) : n < t.cells.length ∧ (t.cells.getD n cZ).kind = (s.cells.getD n cZ).kind ∧ ((s.cells.getD n cZ).kind = 4 → (t.cells.getD n cZ).num = (s.cells.getD n cZ).num) := by
 have h0 : s.cells[n]? = some s.cells[n] := List.getElem?_eq_getElem hn
 obtain ⟨c', h1, h2, h3⟩ := h.cells n _ h0
 have e1 : s.cells.getD n cZ = s.cells[n] := by rw [List.getD_eq_getElem?_getD, h0]; rfl
 have e2 : t.cells.getD n cZ = c' := by rw [List.getD_eq_getElem?_getD, h1]; rfl
 rw [e1, e2]
 exact ⟨(List.getElem?_eq_some_iff.1 h1).1, h2, h3⟩
theorem iW.fits {s t : aC} (h : iW s t) {v : Int × Int} (hv : fitsF s v = true) : fitsF t v = true := by
 unfold fitsF at hv ⊢
 simp only [Bool.and_eq_true] at hv ⊢
 refine ⟨hv.1, ?_⟩
 have h2 := hv.2
 by_cases k4 : v.1 = 4
 ·rw [if_pos k4] at h2 ⊢
  have := h.texts
  simp at h2 ⊢; omega
 ·rw [if_neg k4] at h2 ⊢
  by_cases k5 : v.1 = 5
  ·rw [if_pos k5] at h2 ⊢
   have h0 := vM hv.1 (.inr k5)
   simp only [Bool.and_eq_true, decide_eq_true_eq, Bool.not_eq_true', decide_eq_false_iff_not] at h2 ⊢
   obtain ⟨q1, q2, _⟩ := h.at (n := v.2.toNat) (by omega)
   exact ⟨by omega, by rw [q2]; exact h2.2⟩
  ·rw [if_neg k5]
theorem iW.ref {s t : aC} (h : iW s t) {v : Int × Int} {q : Int} (hv : refF s v q = true) : refF t v q = true := by
 unfold refF at hv ⊢
 simp only [Bool.and_eq_true, decide_eq_true_eq] at hv ⊢
 obtain ⟨⟨⟨a, b⟩, c⟩, d⟩ := hv
 obtain ⟨q1, q2, _⟩ := h.at (n := v.2.toNat) (by omega)
 exact ⟨⟨⟨a, b⟩, by omega⟩, by rw [q2]; exact d⟩
theorem iW.is {s t : aC} (h : iW s t) {v : Int × Int} {q : Int} (hv : isF' s v q = true) : isF' t v q = true := by
 unfold isF' at hv ⊢
 simp only [Bool.and_eq_true, decide_eq_true_eq] at hv ⊢
 obtain ⟨⟨a, b⟩, c⟩ := hv
 have hr := Cr (s := s) (n := v.2) (by rw [← b]; exact a)
 obtain ⟨_, q2, _⟩ := h.at (n := v.2.toNat) (by omega)
 exact ⟨⟨h.fits a, b⟩, by rw [q2]; exact c⟩
theorem iW.all {s t : aC} (h : iW s t) {l : List (Int × Int)} (hv : l.all (fitsF s) = true) : l.all (fitsF t) = true :=
 List.all_eq_true.2 fun v hm => h.fits (List.all_eq_true.1 hv v hm)
theorem iW.held {s t : aC} (h : iW s t) {f : aR} (hf : nC s f = true) : nC t f = true := by
 unfold nC at hf ⊢
 simp only [Bool.and_eq_true] at hf ⊢
 exact ⟨h.all hf.1, h.fits hf.2⟩
theorem iW.frame {s t : aC} (h : iW s t) {p : aI} {f : aR} (hf : cU p s f = true) : cU p t f = true := by
 unfold cU at hf ⊢
 simp only [Bool.and_eq_true, decide_eq_true_eq] at hf ⊢
 obtain ⟨⟨⟨⟨⟨⟨⟨a1, a2⟩, a3⟩, a4⟩, a5⟩, a6⟩, a7⟩, a8⟩ := hf
 have hr := a2
 unfold refF at hr
 simp only [Bool.and_eq_true, decide_eq_true_eq] at hr
 obtain ⟨_, _, q3⟩ := h.at (n := f.self.2.toNat) (by have := hr.1.2; have := hr.1.1.2; omega)
 exact ⟨⟨⟨⟨⟨⟨⟨a1, h.ref a2⟩, by rw [q3 hr.2]; exact a3⟩, a4⟩, a5⟩, a6⟩, a7⟩, h.all a8⟩
theorem iW.saved {s t : aC} (h : iW s t) {p : aI} {f : aR} (hf : eU p s f = true) : eU p t f = true := by
 unfold eU at hf ⊢
 simp only [Bool.and_eq_true] at hf ⊢
 exact ⟨⟨⟨⟨h.frame hf.1.1.1.1, hf.1.1.1.2⟩, hf.1.1.2⟩, hf.1.2⟩, hf.2⟩
theorem iW.heap {s t : aC} (h : iW s t) {p : aI} {c : bJ} (hc : dL p s c = true) : dL p t c = true := by
 unfold dL at hc ⊢
 split at hc
 ·rename_i h1; rw [if_pos h1]; exact hc
 ·rename_i h1
  rw [if_neg h1]
  split at hc
  ·rename_i h2
   rw [if_pos h2]
   simp only [Bool.or_eq_true] at hc ⊢
   exact hc.imp id h.saved
  ·rename_i h2; rw [if_neg h2]
theorem iW.cell {s t : aC} (h : iW s t) (hsh : t.shapes = s.shapes) {c : bJ} (hc : eO s c = true) : eO t c = true := by
 unfold eO at hc ⊢
 simp only [Bool.and_eq_true] at hc ⊢
 obtain ⟨⟨⟨⟨⟨a1, a2⟩, a3⟩, a4⟩, a5⟩, a6⟩ := hc
 have hn : numF t c = numF s c := by unfold numF; rw [hsh]
 refine ⟨⟨⟨⟨⟨a1, by rw [hn]; exact a2⟩, ?_⟩, a4⟩, h.all a5⟩, List.all_eq_true.2 fun f hf => h.held (List.all_eq_true.1 a6 f hf)⟩
 unfold iF at a3 ⊢
 split at a3
 ·rename_i h1; rw [if_pos h1, hn, hsh]; exact a3
 ·rename_i h1
  rw [if_neg h1]
  split at a3
  ·rename_i h2; rw [if_pos h2]
  ·rename_i h2
   rw [if_neg h2]
   split at a3
   ·rename_i h3; rw [if_pos h3]; exact a3
   ·rename_i h3
    rw [if_neg h3]
    split at a3
    ·rename_i h4
     rw [if_pos h4]
     rw [Bool.not_eq_true', List.any_eq_false] at a3 ⊢
     intro v hv
     have := a3 v hv
     simp only [Bool.not_eq_true, Bool.not_eq_false'] at this ⊢
     exact h.is this
    ·rename_i h4; rw [if_neg h4]; exact a3
structure Runs (s t : aC) : Prop where
 keeps : iW s t
 num : ∀ (k : Nat) (c : bJ), s.cells[k]? = some c → c.kind = 5 → c.num = 1 → ∃ c', t.cells[k]? = some c' ∧ c'.num = 1
theorem Runs.goes {s t : aC} (h : Runs s t) {k : Nat} {f : aR} (hf : jB s k f = true) : jB t k f = true := by
 unfold jB at hf ⊢
 simp only [Bool.and_eq_true] at hf ⊢
 refine ⟨⟨hf.1.1, h.keeps.ref hf.1.2⟩, ?_⟩
 have hr := hf.1.2
 unfold refF at hr
 simp only [Bool.and_eq_true, decide_eq_true_eq] at hr
 have hlt : f.gen.toNat < s.cells.length := by have := hr.1.2; have := hr.1.1.2; omega
 have h0 : s.cells[f.gen.toNat]? = some s.cells[f.gen.toNat] := List.getElem?_eq_getElem hlt
 have e1 : s.cells.getD f.gen.toNat cZ = s.cells[f.gen.toNat] := by rw [List.getD_eq_getElem?_getD, h0]; rfl
 have h3 := hr.2
 have h4 := hf.2
 simp only [decide_eq_true_eq] at h4
 rw [e1] at h4
 simp only [e1] at h3
 obtain ⟨c', q1, q2⟩ := h.num _ _ h0 h3 h4
 have e2 : t.cells.getD f.gen.toNat cZ = c' := by rw [List.getD_eq_getElem?_getD, q1]; rfl
 rw [e2]; simp [q2]
theorem Runs.on {s t : aC} (h : iW s t) {p : aI} {low : Int} {f : aR} (hf : onF p s low f = true) : onF p t low f = true := by
 unfold onF at hf ⊢
 simp only [Bool.and_eq_true] at hf ⊢
 exact ⟨⟨⟨h.frame hf.1.1.1, hf.1.1.2⟩, hf.1.2⟩, hf.2⟩
theorem Runs.stack {s t : aC} (h : Runs s t) {p : aI} : ∀ {fs : List aR} {k : Nat} {low : Int}, kW p s k low fs → kW p t k low fs
 | [], _, _, _ => trivial
 | f :: fs, k, low, hs => ⟨⟨Runs.on h.keeps hs.1.1, fun h0 => h.goes (hs.1.2 h0)⟩, Runs.stack h hs.2⟩
theorem xV {p : aI} {s : aC} : ∀ {fs : List aR} {k : Nat} {low : Int} {i : Nat} {f : aR}, kW p s k low fs → fs[i]? = some f → ∃ low', onF p s low' f = true ∧ (0 ≤ f.gen → jB s (k + i) f = true)
 | f0 :: fs, k, low, 0, f, h, hf => by simp at hf; subst hf; exact ⟨_, h.1⟩
 | f0 :: fs, k, low, i + 1, f, h, hf => by
  have := xV (i := i) h.2 (by simpa using hf)
  rwa [show k + 1 + i = k + (i + 1) by omega] at this
 | [], _, _, _, _, _, hf => by simp at hf
theorem Ls {p : aI} {s : aC} {low : Int} {f : aR} (h : onF p s low f = true) : cU p s f = true := by
 unfold onF at h
 simp only [Bool.and_eq_true] at h
 exact h.1.1.1
theorem Re (n : Nat) {C : Ctx} {f : Nat} {args : List AV} {rs0 : List (Nat × Nat × Res)} {xs ys : List RV} {y z : AV} (hf : FC C f args rs0 (.tup [.agg (xs.map .r), y, z]) []) (h : rowB (nilB n) xs ys) : FC C f args rs0 (.tup [.agg (ys.map .r), y, z]) [] := by
 refine Wp hf fun cur g w N v hv => ?_
 cases hv with
 | tup _ us hs hu =>
  refine .tup _ us hs fun j x u hx hju => ?_
  match j with
  | 0 =>
   simp at hx; subst hx
   exact AR.nilD (wF h) (fun j x y hx hy => Hf n x y (Ae h hx hy)) (hu 0 _ u rfl hju)
  | 1 => exact hu 1 x u hx hju
  | 2 => exact hu 2 x u hx hju
  | j + 3 => simp at hx
theorem Td (l : List (Int × Int)) : ndRs (l.map valN) = l.map valR := by rw [sC, List.map_map]; rfl
theorem oQ (l : List aR) : ndRs (l.map dW) = l.map bA := by
 rw [sC, List.map_map]
 refine List.map_congr_left fun f _ => ?_
 show [_, _, _, _, _, _, RV.rs 2 (ndRs (f.regs.map valN)), _] = _
 rw [Td]; rfl
@[go_sem] theorem Kn (n : Nat) (st : St) : ∀ (l : List bJ) (K : List Loc → List (List RV) → Prop), nS (gB n st) (l.map cK) K = K [] (l.map aW)
 | [], K => rfl
 | x :: l, K => by
  have e : aW x = [.v (.int .i64 x.kind), .v (.int .i64 x.num), .rs 2 (x.vals.map valR), .rs 8 (ndRs (x.frames.map dW))] := by rw [oQ]
  cases n <;> (simp only [List.map_cons, nS, oM, gB, e]; rw [Kn _ st l]; rfl)
@[go_sem] theorem Ds (n : Nat) (st : St) : ∀ (l : List aP) (K : List Loc → List (List RV) → Prop), nS (gB n st) (l.map aV) K = K [] (l.map aJ)
 | [], K => rfl
 | x :: l, K => by
  have e : aJ x = [.rs 8 (ndRs (x.frames.map dW)), .v (.int .i64 x.state), .v (.int .i64 x.on), .v (.int .i64 x.val.1), .v (.int .i64 x.val.2)] := by rw [oQ]
  cases n <;> (simp only [List.map_cons, nS, oM, gB, e]; rw [Ds _ st l]; rfl)
@[go_sem] theorem aNq (σ δ : Nat → Nat) (l : List bJ) : (l.map cK).map (renL σ δ) = l.map cK := by rw [List.map_map]; exact List.map_congr_left fun x _ => rfl
@[go_sem] theorem aFk (σ δ : Nat → Nat) (l : List aP) : (l.map aV).map (renL σ δ) = l.map aV := by rw [List.map_map]; exact List.map_congr_left fun x _ => rfl
theorem zY (c : bJ) : vO (cK c) (aW c) := ⟨rfl, rfl, rfl, congrArg (RV.rs 8) (oQ _).symm, trivial⟩
theorem pP (t : aP) : vO (aV t) (aJ t) := ⟨congrArg (RV.rs 8) (oQ _).symm, rfl, rfl, rfl, rfl, trivial⟩
theorem Oj (s : aC) (hm : Sml s) (a b : Nat) (hab : (a == b) = false) : NOk (C := Cx) 84 [(7, a), (16, b)] [aH s] (.agg [.os 7 1, aT s.shapes, bZ s.texts, .os 16 1, eY s.ends, aT s.said, Iv s.asked, Iv s.steps]) [ownC 7 1 s.cells, ownT 16 1 s.threads] :=
 ⟨aMm s hm, rfl, by simp [ndB, memN, show a ≠ b by simpa using hab], rfl, rfl, fun _ _ => rfl, rfl, fun p hp => by
  rcases List.mem_cons.1 hp with rfl | hp
  ·exact Zm s.cells s.threads 7
  ·rcases List.mem_cons.1 hp with rfl | hp
   ·exact Zm s.cells s.threads 16
   ·simp at hp, fun q hq => by
  rcases List.mem_cons.1 hq with rfl | hq
  ·exact ⟨rfl, Nat.le_refl _⟩
  ·rcases List.mem_cons.1 hq with rfl | hq
   ·exact ⟨rfl, Nat.le_refl _⟩
   ·simp at hq⟩
theorem aAi {s : aC} (h : dE s = 0) {c : bJ} (hc : c ∈ s.cells) (k5 : c.kind = 5) (n0 : c.num = 0) : c.frames.length = 1 := by
 have := (qR.1 h).cells c hc
 unfold eO at this
 simp only [Bool.and_eq_true, decide_eq_true_eq] at this
 obtain ⟨⟨⟨_, a4⟩, _⟩, _⟩ := this
 have : dM c = 1 := if_pos ⟨k5, n0⟩
 rw [this] at a4; omega
theorem Mj {p : aI} {s : aC} (hw : Pwf p) (hR : Ha p s) : Sml s ∧ (∀ t ∈ s.threads, t.frames.length ≤ 30 ∧ ∀ f ∈ t.frames, (f.tries.length ≤ 1000000000 ∧ ∀ y ∈ f.tries, 0 ≤ y.1 ∧ y.1 < (f.regs.length : Int)) ∧ (0 ≤ f.gen → f.gen < (s.cells.length : Int))) := by
 have hH := qR.1 hR.heap
 have hfew := hR.few
 unfold yS at hfew
 simp only [Bool.or_eq_false_iff, decide_eq_false_iff_not, List.any_eq_false, decide_eq_true_eq] at hfew
 have h100 : s.shapes.length ≤ 100 := (Sh.good_ups hH.shapes 0).2.1
 have fr : ∀ f : aR, cU p s f = true → f.regs.length ≤ 1000000000 ∧ f.tries.length ≤ 1000000000 ∧ ∀ y ∈ f.tries, 0 ≤ y.1 ∧ y.1 < (f.regs.length : Int) := fun f hf => by
  obtain ⟨a1, a2, a3, a4⟩ := sF hw hR.prog hf
  refine ⟨by omega, by omega, fun y hy => ?_⟩
  obtain ⟨j, hj⟩ := List.mem_iff_getElem?.1 hy
  rw [a3]; exact (a4 j y hj).1
 have thr : ∀ t ∈ s.threads, t.frames.length ≤ 30 ∧ ∀ f ∈ t.frames, cU p s f = true ∧ (0 ≤ f.gen → f.gen < (s.cells.length : Int)) := fun t ht => by
  refine ⟨by have := hfew.2 t ht; omega, fun f hf => ?_⟩
  obtain ⟨j, hj⟩ := List.mem_iff_getElem?.1 hf
  obtain ⟨low, ho, hg⟩ := xV (hR.threads t ht).2 hj
  refine ⟨Ls ho, fun h0 => ?_⟩
  have := hg h0
  unfold jB at this
  simp only [Bool.and_eq_true] at this
  exact (Bb this.1.2).2.1
 refine ⟨⟨by have := hH.cellN; omega, by omega, by have := hH.textN; omega, by omega, by have := hH.endN; omega, by have := hH.saidN; omega, fun c hc => ?_, fun c hc => ?_, fun t ht => ⟨by have := (thr t ht).1; omega, fun f hf => ⟨(fr f ((thr t ht).2 f hf).1).1, (fr f ((thr t ht).2 f hf).1).2.1⟩⟩⟩, fun t ht => ⟨(thr t ht).1, fun f hf => ⟨(fr f ((thr t ht).2 f hf).1).2, ((thr t ht).2 f hf).2⟩⟩⟩
 ·have := hH.valN c hc
  unfold bigC at this
  simp at this; omega
 ·have hcf := hH.cells c hc
  by_cases hg : c.kind = 5 ∧ c.num = 0
  ·have h1 := aAi hR.heap hc hg.1 hg.2
   obtain ⟨f, hf⟩ := List.length_eq_one_iff.1 h1
   have hh := hR.cells c hc
   unfold dL at hh
   rw [if_neg (by rw [hg.1]; decide), if_pos hg.1, hg.2, hf] at hh
   have hs : eU p s f = true := by simpa using hh
   unfold eU at hs
   simp only [Bool.and_eq_true] at hs
   have hfr := fr f hs.1.1.1.1
   rw [hf]
   exact ⟨by simp, fun g hg' => by simp at hg'; subst hg'; exact ⟨hfr.1, hfr.2.1⟩⟩
  ·have h1 : dM c = 0 := if_neg hg
   unfold eO at hcf
   simp only [Bool.and_eq_true, decide_eq_true_eq] at hcf
   have h2 := hcf.1.1.2
   rw [h1] at h2
   have h3 : c.frames = [] := List.length_eq_zero_iff.1 (by omega)
   rw [h3]
   exact ⟨by simp, fun g hg' => by simp at hg'⟩
noncomputable def askE (p : aI) (s : aC) (th : Int) : Int :=
 if eQ p s ≠ 0 then eQ p s else if th < 0 ∨ (s.threads.length : Int) ≤ th then 5 else if (s.threads.getD th.toNat wQ).state ≠ 0 then 8 else 0
theorem vX (p : aI) (s : aC) (th : Int) (hw : Pwf p) (hs : Swf s) : FC Cx 90 [bC p, aH s, Iv th] [] (Iv (askE p s th)) [] := by
 have l1 : (s.threads.map aJ).length = s.threads.length := List.length_map ..
 unfold askE
 by_cases hf : eQ p s = 0
 case neg =>
  rw [if_pos hf]
  have d0 : decide (eQ p s = 0) = false := by simpa using hf
  clear hf
  refine aD [lR] Tryz.func90 Tryz.ntmps90 Tryz.results90 ?_
  refine goR ?_
  refine fzB 3 ?_
  refine fzB 4 ?_
  (any_goals refine go lv90 0 ?_)
  repeat' (first | (refine Br.go (fun h h' => ?_) (fun h h' => ?_)) | (refine Br.mk (fun h => ?_) (fun h => ?_)))
  all_goals (try simp only [go_sem])
 rw [if_neg (by simpa using hf)]
 have d0 : decide (eQ p s = 0) = true := by simpa using hf
 by_cases h1 : th < 0
 ·rw [if_pos (.inl h1)]
  have d2 : decide (th < 0) = true := by simpa using h1
  clear hf h1
  refine aD [lR] Tryz.func90 Tryz.ntmps90 Tryz.results90 ?_
  refine goR ?_
  refine fzB 3 ?_
  refine fzB 4 ?_
  (any_goals refine go lv90 0 ?_)
  repeat' (first | (refine Br.go (fun h h' => ?_) (fun h h' => ?_)) | (refine Br.mk (fun h => ?_) (fun h => ?_)))
  all_goals (try simp only [go_sem])
 have d2 : decide (th < 0) = false := by simpa using h1
 by_cases h2 : (s.threads.length : Int) ≤ th
 ·rw [if_pos (.inr h2)]
  have d3 : decide ((s.threads.length : Int) ≤ th) = true := by simpa using h2
  clear hf h1 h2
  refine aD [lR] Tryz.func90 Tryz.ntmps90 Tryz.results90 ?_
  refine goR ?_
  refine fzB 3 ?_
  refine fzB 4 ?_
  (any_goals refine go lv90 0 ?_)
  repeat' (first | (refine Br.go (fun h h' => ?_) (fun h h' => ?_)) | (refine Br.mk (fun h => ?_) (fun h => ?_)))
  all_goals (try simp only [go_sem])
 have d3 : decide ((s.threads.length : Int) ≤ th) = false := by simpa using h2
 rw [if_neg (by omega)]
 obtain ⟨t, ht⟩ : ∃ t, s.threads[th.toNat]? = some t := ⟨s.threads[th.toNat]'(by omega), List.getElem?_eq_getElem _⟩
 have hg := aE aJ ht ([] : List RV)
 have et : s.threads.getD th.toNat wQ = t := by rw [List.getD_eq_getElem?_getD, ht]; rfl
 rw [et]
 by_cases h3 : t.state = 0
 ·rw [if_neg (by simpa using h3)]
  have d4 : decide (t.state = 0) = true := by simpa using h3
  clear hf et h3
  refine aD [lR] Tryz.func90 Tryz.ntmps90 Tryz.results90 ?_
  refine goR ?_
  refine fzB 3 ?_
  refine fzB 4 ?_
  (any_goals refine go lv90 0 ?_)
  repeat' (first | (refine Br.go (fun h h' => ?_) (fun h h' => ?_)) | (refine Br.mk (fun h => ?_) (fun h => ?_)))
  all_goals (try simp only [go_sem])
 ·rw [if_pos h3]
  have d4 : decide (t.state = 0) = false := by simpa using h3
  clear hf et h3
  refine aD [lR] Tryz.func90 Tryz.ntmps90 Tryz.results90 ?_
  refine goR ?_
  refine fzB 3 ?_
  refine fzB 4 ?_
  (any_goals refine go lv90 0 ?_)
  repeat' (first | (refine Br.go (fun h h' => ?_) (fun h h' => ?_)) | (refine Br.mk (fun h => ?_) (fun h => ?_)))
  all_goals (try simp only [go_sem])
theorem Ie (s : aC) (th : Nat) (t : aP) (f : aR) (ht : s.threads[th]? = some t) (hf : t.frames[t.frames.length - 1]? = some f) (hl : t.frames.length ≤ 1000000000) : FC Cx 91 [aH s, Iv th] [] (fD f) [] := by
 have l1 : (s.threads.map aJ).length = s.threads.length := List.length_map ..
 have l2 : (t.frames.map bA).length = t.frames.length := List.length_map ..
 have hk := (List.getElem?_eq_some_iff.1 ht).1
 have hfk := (List.getElem?_eq_some_iff.1 hf).1
 have t1 : Int.toNat (th : Int) = th := by omega
 have t2 : Int.toNat ((t.frames.length : Int) - 1) = t.frames.length - 1 := by omega
 have w1 : IntKind.i64.wrap ((t.frames.length : Int) - 1) = (t.frames.length : Int) - 1 := by rw [aN] <;> omega
 have hg := aE aJ ht ([] : List RV)
 have hgf := aE bA hf ([] : List RV)
 obtain ⟨fn, pc, tov, gen, ⟨sk, sn⟩, regs, tries⟩ := f
 refine aD [] Tryz.func91 Tryz.ntmps91 Tryz.results91 ?_
 refine goR ?_
 refine fzB 2 ?_
 (any_goals refine go lv91 0 ?_)
 repeat' (first | (refine Br.go (fun h h' => ?_) (fun h h' => ?_)) | (refine Br.mk (fun h => ?_) (fun h => ?_)))
 all_goals (try simp only [go_sem])
structure yX (p : aI) (s : aC) (th : Int) (n : Nat) (t : aP) (f : aR) : Prop where
 th : th = n
 fault : eQ p s = 0
 at' : s.threads[n]? = some t
 state : t.state = 0
 last : t.frames[t.frames.length - 1]? = some f
theorem aLw {p : aI} {s : aC} {th : Int} (h : askE p s th = 0) : ∃ n t f, yX p s th n t f := by
 unfold askE at h
 by_cases hf : eQ p s = 0
 case neg => rw [if_pos hf] at h; exact absurd h hf
 rw [if_neg (by simpa using hf)] at h
 by_cases h0 : th < 0 ∨ (s.threads.length : Int) ≤ th
 ·rw [if_pos h0] at h; cases h
 rw [if_neg h0] at h
 obtain ⟨t, ht⟩ : ∃ t, s.threads[th.toNat]? = some t := ⟨s.threads[th.toNat]'(by omega), List.getElem?_eq_getElem _⟩
 have et : s.threads.getD th.toNat wQ = t := by rw [List.getD_eq_getElem?_getD, ht]; rfl
 rw [et] at h
 have h3 : t.state = 0 := by
  by_cases h3 : t.state = 0
  ·exact h3
  ·rw [if_pos h3] at h; cases h
 have hR := Bu.1 hf
 have hH := (hR.threads t (List.mem_of_getElem? ht)).1
 unfold wK at hH
 simp only [Bool.and_eq_true] at hH
 have hn : t.frames.length ≠ 0 := fun e => by
  have := hH.1.1.1.1
  rw [h3, e] at this
  exact absurd this (by decide)
 exact ⟨th.toNat, t, _, by omega, hf, ht, h3, List.getElem?_eq_getElem (show t.frames.length - 1 < t.frames.length by omega)⟩
def FinU (C : Ctx) (rl : List ResultVar) (r : AV) (rs1 : List (Nat × Nat × Res)) (x : Exit) (st : St) : Prop := ∃ s', (∀ e a w, S C e st a w → S C e s' a w) ∧ FinM C rl r rs1 x s'
theorem aNl {C : Ctx} (T : List (Ct C)) {f : Nat} {fn : Func} {body : Code} {args : List AV} {rs0 rs1 : List (Nat × Nat × Res)} {r : AV} (hf : C.P.funcs[f]? = some fn) (hb : fn.body = some body) {nt : Nat} (hnt : fn.ntmps = nt) (hn : args.length ≤ nt) {rl : List ResultVar} (hr : fn.results = rl.toArray)
  (hw : bK (domR rs1) r = true) (hi : ∀ k, bP (domR rs1) (aB k rs1).2) (h : Rn C T [.c body] ⟨nt, argT 0 args, rs0⟩ (FinU C rl r rs1)) : FC C f args rs0 r rs1 := by
 refine iZ T hf hb hnt hn hr hw hi ?_
 unfold Rn at h ⊢
 exact Mv (h : lwp C body _ (ck C [] (FinU C rl r rs1)))
theorem aA1 {C : Ctx} {rl : List ResultVar} {r : AV} {rs1 : List (Nat × Nat × Res)} {x : Exit} {st : St} (h : FinM C rl r rs1 x st) : FinU C rl r rs1 x st := ⟨st, fun _ _ _ h => h, h⟩
theorem zB {C : Ctx} {rl : List ResultVar} {r : AV} {rs1 : List (Nat × Nat × Res)} {x : Exit} {st st' : St} (k i j kd : Nat) {ver vd el' sz' el sz : Nat} {rows' : List (List AV)} {row : List AV} (rows : List (List NV)) (hk : aB k st.rs = (ver, .sl el' sz' rows')) (hi : rows'[i]? = some row) (hj : row[j]? = some (.os kd vd)) (hkk : k ≠ kd) (hkd : aB kd st.rs = (vd, .sl el sz (rows.map (List.map nvC))))
  (hst : ∀ K0 : St → Prop, Imp (K0 st') (K0 { st with rs := putR kd (vd + 1, .gone) (putR k (ver, .sl el' sz' (rows'.set i (row.set j (.nd el sz rows)))) st.rs) })) (h : FinU C rl r rs1 x st') : FinU C rl r rs1 x st := by
 obtain ⟨s', h1, h2⟩ := (hst fun s => FinU C rl r rs1 x s).run h
 exact ⟨s', fun e a w ⟨ho, g, hs⟩ => h1 e a w ⟨ho, hs.closeS hk hi hj hkk hkd⟩, h2⟩
def intoF (fs : List aR) (rg : Int) (v : Int × Int) : List aR :=
 if 0 ≤ rg then (match fs[fs.length - 1]? with | some f => fs.set (fs.length - 1) { f with regs := f.regs.set rg.toNat v } | none => fs) else fs
theorem Zo (ts : List aP) (k : Nat) : bP (domR [ownT 0 0 ts]) (aB k [ownT 0 0 ts]).2 := by
 have e : aB k [ownT 0 0 ts] = if k = 0 then (0, .sl 56 5 (ts.map aV)) else (0, .gone) := rfl
 rw [e]
 split
 ·exact fun row h => by obtain ⟨x, _, rfl⟩ := List.mem_map.1 h; rfl
 ·trivial
theorem aLr (ts : List aP) (th : Nat) (t : aP) (rg : Int) (v : Int × Int) (ht : ts[th]? = some t) (hl : ts.length ≤ 1000000000) (hl2 : t.frames.length ≤ 1000000000)
  (hto : 0 ≤ rg → ∃ f, t.frames[t.frames.length - 1]? = some f ∧ rg < (f.regs.length : Int) ∧ f.regs.length ≤ 1000000000) :
  FC Cx 144 [.re 0 0 5 th 0, Iv rg, VV v.1 v.2] [ownT 0 0 ts] (.tup []) [ownT 0 0 (ts.set th { t with frames := intoF t.frames rg v })] := by
 have hk := (List.getElem?_eq_some_iff.1 ht).1
 have q2 : (ts.map aV)[th]? = some (aV t) := by rw [List.getElem?_map, ht]; rfl
 have q1 : (ts.map aV).length = ts.length := List.length_map ..
 have hins := Zo (ts.set th { t with frames := intoF t.frames rg v })
 obtain ⟨vk, vn⟩ := v
 dsimp only at *
 by_cases h0 : 0 ≤ rg
 case neg =>
  have d0 : decide (0 ≤ rg) = false := by simpa using h0
  have e : ts.set th { t with frames := intoF t.frames rg (vk, vn) } = ts := by
   unfold intoF
   rw [if_neg h0]
   apply List.ext_getElem?; intro j
   by_cases hj : th = j
   ·subst hj; rw [List.getElem?_set_self hk, ht]
   ·rw [List.getElem?_set_ne hj]
  rw [e] at hins ⊢
  clear hto h0 e
  refine iZ []  Tryz.func144 rfl Tryz.ntmps144 (by simp) Tryz.results144 rfl (hins) ?_
  refine rnst ?_
  refine goR ?_
  refine fzB 5 ?_
  (any_goals refine go Xu 0 ?_)
  repeat' (first | (refine Br.go (fun h h' => ?_) (fun h h' => ?_)) | (refine Br.mk (fun h => ?_) (fun h => ?_)))
  all_goals (try simp only [go_sem])
 have d0 : decide (0 ≤ rg) = true := by simpa using h0
 obtain ⟨f, hf, hr1, hr2⟩ := hto h0
 have hfk := (List.getElem?_eq_some_iff.1 hf).1
 obtain ⟨k, hkn⟩ : ∃ k, t.frames.length = k + 1 := ⟨t.frames.length - 1, by omega⟩
 rw [hkn, Nat.add_sub_cancel] at hf
 have e : ts.set th { t with frames := intoF t.frames rg (vk, vn) } = ts.set th { t with frames := t.frames.set k { f with regs := f.regs.set rg.toNat (vk, vn) } } := by
  unfold intoF
  rw [if_pos h0, hkn, Nat.add_sub_cancel, hf]
 rw [e] at hins ⊢
 have q8 : (ts.set th { t with frames := t.frames.set k { f with regs := f.regs.set rg.toNat (vk, vn) } }).map aV = (ts.map aV).set th (aV { t with frames := t.frames.set k { f with regs := f.regs.set rg.toNat (vk, vn) } }) := List.map_set ..
 have lf0 : (t.frames.map frameA2).length = t.frames.length := List.length_map ..
 have e0 : ((k + 1 : Nat) : Int) - 1 = (k : Int) := by omega
 have w1 : IntKind.i64.wrap (k : Int) = (k : Int) := by rw [aN] <;> omega
 have t2 : Int.toNat (k : Int) = k := by omega
 have p2 : (t.frames.map frameA2)[k]? = some (frameA2 f) := by rw [List.getElem?_map, hf]; rfl
 have lr : (f.regs.map valC).length = f.regs.length := List.length_map ..
 obtain ⟨z, hz⟩ : ∃ z, f.regs[rg.toNat]? = some z := ⟨f.regs[rg.toNat]'(by omega), List.getElem?_eq_getElem _⟩
 have gz := aE valC hz ([] : List AV)
 simp only [ownT] at hins ⊢
 rw [q8] at hins ⊢
 clear q8 e hto hz
 refine aNl []  Tryz.func144 rfl Tryz.ntmps144 (by simp) Tryz.results144 rfl (hins) ?_
 refine rnst ?_
 clear hins
 refine goR ?_
 refine fzB 5 ?_
 (any_goals refine go (eM 2 Xu) 0 ?_)
 repeat' (first | (refine Br.go (fun h h' => ?_) (fun h h' => ?_)) | (refine Br.mk (fun h => ?_) (fun h => ?_)))
 have p9 : (t.frames.map frameA2).set k (frameA2 { f with regs := f.regs.set rg.toNat (vk, vn) }) = ((t.frames.set k { f with regs := f.regs.set rg.toNat (vk, vn) }).map dW).map (List.map nvC) := by
  rw [dJ, List.map_set]
 have q7 : ∀ X Y, ((ts.map aV).set th X).set th Y = (ts.map aV).set th Y := fun X Y => List.set_set ..
 have q4 : ∀ X, ((ts.map aV).set th X).length = ts.length := fun X => by rw [List.length_set, q1]
 have q6 : ∀ X, ((ts.map aV).set th X).getD th [] = X := fun X => by rw [List.getD_eq_getElem?_getD, List.getElem?_set_self (by omega)]; rfl
 (apply gZ 0 th 0 201; (exact rfl); (exact q2); (exact rfl); (exact rfl); (exact rfl); (intro K0; (try simp only [go_sem, dJ]); exact ⟨id⟩))
 generalize hT0 : ts.map aV = T0 at *
 have p7 : ∀ X Y, ((t.frames.map frameA2).set k X).set k Y = (t.frames.map frameA2).set k Y := fun X Y => List.set_set ..
 have p8 : ∀ X, ((t.frames.map frameA2).set k X).length = t.frames.length := fun X => by rw [List.length_set, lf0]
 have p6 : ∀ X, ((t.frames.map frameA2).set k X).getD k [] = X := fun X => by rw [List.getD_eq_getElem?_getD, List.getElem?_set_self (by omega)]; rfl
 (apply gZ 201 k 6 202; (exact rfl); (exact p2); (exact rfl); (exact rfl); (exact rfl); (intro K0; (try simp only [go_sem, lT]); exact ⟨id⟩))
 generalize hR : t.frames.map frameA2 = R at *
 have k1 : (f.regs.map valC).set rg.toNat [Iv vk, Iv vn] = ((f.regs.set rg.toNat (vk, vn)).map valN).map (List.map nvC) := by rw [lT, List.map_set]
 clear hR hT0 p2 q2 hf ht
 obtain ⟨fn, pc, tov, gen, ⟨sk, sn⟩, regs, tries⟩ := f
 dsimp only at *
 (any_goals refine go Xu 0 ?_)
 repeat' (first | (refine Br.go (fun h h' => ?_) (fun h h' => ?_)) | (refine Br.mk (fun h => ?_) (fun h => ?_)))
 all_goals (try simp only [go_sem])
 apply zB 201 k 6 202 ((regs.set rg.toNat (vk, vn)).map valN)
 ·exact rfl
 ·exact List.getElem?_set_self (by omega)
 ·exact rfl
 ·decide
 ·exact rfl
 ·intro K0; (try simp only [go_sem, p7]); exact ⟨id⟩
 apply zB 0 th 0 201 ((t.frames.set k ⟨fn, pc, tov, gen, (sk, sn), regs.set rg.toNat (vk, vn), tries⟩).map dW)
 ·exact rfl
 ·exact List.getElem?_set_self (by omega)
 ·exact rfl
 ·decide
 ·exact congrArg (fun z => (1, Res.sl 61 8 z)) p9
 ·intro K0; (try simp only [go_sem, q7]); exact ⟨id⟩
 refine aA1 ?_
 clear p9 k1
 all_goals (try simp only [go_sem])
theorem aLi (ts : List aP) (th : Nat) (t : aP) (rg : Int) (v : Int × Int) (ht : ts[th]? = some t) (hl : ts.length ≤ 1000000000) (hl2 : t.frames.length ≤ 1000000000)
  (hto : 0 ≤ rg → ∃ f, t.frames[t.frames.length - 1]? = some f ∧ rg < (f.regs.length : Int) ∧ f.regs.length ≤ 1000000000) (a d : Nat) :
  QOk (C := Cx) 144 [(0, a, d)] [.re 0 0 5 th 0, Iv rg, VV v.1 v.2] [ownT 0 0 ts] (.tup []) [ownT 0 0 (ts.set th { t with frames := intoF t.frames rg v })] :=
 ⟨aLr ts th t rg v ht hl hl2 hto, rfl, rfl, rfl, rfl, rfl, fun p hp => by simp at hp; subst hp; exact Zo ts 0, fun p hp => by simp at hp; subst hp; exact Zo _ 0⟩
section
variable {C : Ctx} {T : List (Ct C)} {r : List It} {st st' : St} {K : Exit → St → Prop} {e : Env} {g : Gh} {a : Act} {w : World}
theorem SR.nilS (h : SR C e st g a w) {k i j ver el' sz' : Nat} (el sz : Nat) {rows' : List (List AV)} {row : List AV} (hk : aB k st.rs = (ver, .sl el' sz' rows')) (hi' : rows'[i]? = some row) (hj : row[j]? = some NilS) :
  SR C e { st with rs := putR k (ver, .sl el' sz' (rows'.set i (row.set j (.nd el sz [])))) st.rs } g a w := by
 obtain ⟨ys, h1, h2, h3, h5⟩ := rE h hk
 have hrl := h2 row (List.mem_of_getElem? hi')
 have hjs : j < sz' := by rw [← hrl]; exact (List.getElem?_eq_some_iff.1 hj).1
 have hir := (List.getElem?_eq_some_iff.1 hi').1
 have hlt : i * sz' + j < ys.length := by
  rw [h1.1]
  have := Nat.mul_le_mul_right sz' (Nat.succ_le_of_lt hir)
  rw [Nat.succ_mul] at this; omega
 have hv : ys[i * sz' + j]? = some ys[i * sz' + j] := List.getElem?_eq_getElem hlt
 obtain ⟨f1, f2, hf, hcl⟩ := h5.closed (lS h2 hi' hj) rfl hv
 have hvn : ys[i * sz' + j] = .slice none 0 0 := cC (h3 i j row _ _ hi' hj hv)
 generalize hst : ({ st with rs := putR k (ver, .sl el' sz' (rows'.set i (row.set j (.nd el sz [])))) st.rs } : St) = st'
 have hlook : ∀ q, aB q st'.rs = if q = k then (ver, .sl el' sz' (rows'.set i (row.set j (.nd el sz [])))) else aB q st.rs := fun q => by rw [← hst]; exact cX q k _ _
 have hb : ∀ q b, blk st' g q b → blk st g q b := fun q b hb => by
  refine ⟨?_, hb.2⟩
  have := hb.1
  rw [hlook] at this
  by_cases hq : q = k
  ·subst hq; rw [hk]; simp
  ·rwa [if_neg hq] at this
 refine h.turn2 (by rw [← hst]) (by rw [← hst]) (fun b ⟨q, hq⟩ => ⟨q, hb q b hq⟩) (fun q => .inr ⟨?_, rfl⟩) (fun q q' b h1 h2 => h.uniq q q' b (hb q b h1) (hb q' b h2)) fun hl hN q => ?_
 ·simp only [St.cur, hlook]
  by_cases hq : q = k
  ·subst hq; rw [if_pos rfl, hk]
  ·rw [if_neg hq]
 ·rw [hlook]
  by_cases hq : q = k
  ·subst hq
   rw [if_pos rfl]
   refine ⟨ys, by rw [List.length_set]; exact h1, fun r hr => ?_, fun i2 j2 r x y hr hx hy => ?_, ⟨?_, h5.dup⟩⟩
   ·rcases List.mem_or_eq_of_mem_set hr with hr | rfl
    ·exact h2 r hr
    ·rw [List.length_set]; exact hrl
   ·rw [List.getElem?_set] at hr
    by_cases hii : i = i2
    ·subst hii
     rw [if_pos rfl, if_pos hir] at hr
     cases hr
     rw [List.getElem?_set] at hx
     by_cases hjj : j = j2
     ·subst hjj
      rw [if_pos rfl, if_pos (by omega)] at hx
      cases hx; exact .nd _ _ _ _
     ·rw [if_neg hjj] at hx
      exact hl _ _ (h3 i j2 row x y hi' hx hy)
    ·rw [if_neg hii] at hr
     exact hl _ _ (h3 i2 j2 r x y hr hx hy)
   ·have h6 := hcl _ hN el sz [] [] [] (by rw [hvn]; exact World.ownsRow_nil w 0 el sz) (by simp) .nil
    rw [hvn] at h6
    rw [vG hjs h2 hi', hf]
    simpa [bV] using h6
  ·rw [if_neg hq]; exact (h.res q).mono2 hl hN rfl rfl
theorem tE (k i j el sz : Nat) {ver el' sz' : Nat} {rows' : List (List AV)} {row : List AV} (hk : aB k st.rs = (ver, .sl el' sz' rows')) (hi : rows'[i]? = some row) (hj : row[j]? = some NilS) (hr : hasC r = true)
  (hst : ∀ K0 : St → Prop, Imp (K0 st') (K0 { st with rs := putR k (ver, .sl el' sz' (rows'.set i (row.set j (.nd el sz [])))) st.rs })) (hk2 : Rn C T r st' K) : Rn C T r st K := by
 have hk' := (hst fun s => Rn C T r s K).run hk2
 exact tY hr (fun e a w ⟨ho, g, hs⟩ => ⟨ho, g, hs.nilS el sz hk hi hj⟩) hk'
end
def lQ (p : aI) (f : aR) : InsT := (p.fns.getD f.fn.toNat fn0).code.getD (f.pc - 1).toNat ins0
def goF0 (f : aR) (rg g i : Int) (v : Int × Int) : aR := { f with tov := rg, gen := g, regs := if 0 < f.pc then f.regs.set i.toNat v else f.regs }
def goC (c : bJ) : bJ := { c with num := 1, frames := [] }
def goE (e : gX) (g : Int) (v : Int × Int) : gX := { e with kind := 16, a := g, val := v }
theorem Zj (p : aI) (s : aC) (th : Nat) (t : aP) (c : bJ) (g : Nat) (rg : Int) (v : Int × Int) (e : gX) (ht : s.threads[th]? = some t) (hc : s.cells[g]? = some c) (h2 : c.num = 2) (hl : t.frames.length ≤ 1000000000) (htl : s.threads.length ≤ 1000000000) (hcl : s.cells.length ≤ 1000000000)
  (hto : 0 ≤ rg → ∃ f2, t.frames[t.frames.length - 1]? = some f2 ∧ rg < (f2.regs.length : Int) ∧ f2.regs.length ≤ 1000000000) :
  FC Cx 94 [.r (.rp (cQ p)), .os 0 0, Iv th, Iv g, VV v.1 v.2, Iv rg, cV e] [boxS s 0 0 1 0 2 0, ownC 1 0 s.cells, ownT 2 0 s.threads] (.tup [NilS, Bv true])
   [boxS s 0 0 1 0 2 0, ownC 1 0 s.cells, ownT 2 0 (s.threads.set th { t with frames := intoF t.frames rg (0, 0) })] := by
 have hk := (List.getElem?_eq_some_iff.1 ht).1
 have hck := (List.getElem?_eq_some_iff.1 hc).1
 have t1 : Int.toNat (th : Int) = th := by omega
 have t2 : Int.toNat (g : Int) = g := by omega
 have q1 : (s.threads.map aV).length = s.threads.length := List.length_map ..
 have gc := aE cK hc ([] : List AV)
 have lc : (s.cells.map cK).length = s.cells.length := List.length_map ..
 have hins := Fu s s.cells (s.threads.set th { t with frames := intoF t.frames rg (0, 0) })
 have hQ := aLi s.threads th t rg (0, 0) ht htl hl hto 2 0
 have en : aF Cx.P 144 := aUv
 generalize s.threads.set th { t with frames := intoF t.frames rg (0, 0) } = ts2 at *
 obtain ⟨vk, vn⟩ := v
 obtain ⟨ck, cn, cv, cf⟩ := c
 dsimp only at *
 subst h2
 clear hto ht hc
 refine iZ [ctQ 144 [(0, 2, 0)] [.re 0 0 5 th 0, Iv rg, VV 0 0] [ownT 0 0 s.threads] (.tup []) [ownT 0 0 ts2] en hQ]  Tryz.func94 rfl Tryz.ntmps94 (by simp) Tryz.results94 rfl (hins) ?_
 refine rnst ?_
 clear hins
 refine goR ?_
 refine fzB 11 ?_
 (any_goals refine go lv94 0 ?_)
 repeat' (first | (refine Br.go (fun h h' => ?_) (fun h h' => ?_)) | (refine Br.mk (fun h => ?_) (fun h => ?_)))
 all_goals (try simp only [go_sem])
theorem aBl (p : aI) (s : aC) (th : Nat) (t : aP) (c : bJ) (g : Nat) (rg : Int) (v : Int × Int) (e : gX) (ht : s.threads[th]? = some t) (hc : s.cells[g]? = some c) (h2 : c.num ≠ 2) (hl : 30 ≤ t.frames.length) (hl2 : t.frames.length ≤ 1000000000) (htl : s.threads.length ≤ 1000000000) (hcl : s.cells.length ≤ 1000000000) :
  FC Cx 94 [.r (.rp (cQ p)), .os 0 0, Iv th, Iv g, VV v.1 v.2, Iv rg, cV e] [boxS s 0 0 1 0 2 0, ownC 1 0 s.cells, ownT 2 0 s.threads] (.tup [NilS, Bv false])
   [boxS s 0 0 1 0 2 0, ownC 1 0 s.cells, ownT 2 0 s.threads] := by
 have hk := (List.getElem?_eq_some_iff.1 ht).1
 have hck := (List.getElem?_eq_some_iff.1 hc).1
 have t1 : Int.toNat (th : Int) = th := by omega
 have t2 : Int.toNat (g : Int) = g := by omega
 have q2 : (s.threads.map aV)[th]? = some (aV t) := by rw [List.getElem?_map, ht]; rfl
 have q1 : (s.threads.map aV).length = s.threads.length := List.length_map ..
 have gc := aE cK hc ([] : List AV)
 have lc : (s.cells.map cK).length = s.cells.length := List.length_map ..
 have lf0 : (t.frames.map frameA2).length = t.frames.length := List.length_map ..
 have hins := Fu s s.cells s.threads
 have d0 : decide (c.num = 2) = false := by simpa using h2
 have d1 : decide ((30 : Int) ≤ (t.frames.length : Int)) = true := by rw [decide_eq_true_eq]; omega
 have qself : (s.threads.map aV).set th (aV t) = s.threads.map aV := by
  apply List.ext_getElem?; intro j
  by_cases hj : j = th
  ·subst hj; rw [List.getElem?_set_self (by omega), q2]
  ·rw [List.getElem?_set_ne (fun e => hj e.symm)]
 obtain ⟨vk, vn⟩ := v
 obtain ⟨ck, cn, cv, cf⟩ := c
 dsimp only at *
 clear ht hc h2
 refine iZ []  Tryz.func94 rfl Tryz.ntmps94 (by simp) Tryz.results94 rfl (hins) ?_
 refine rnst ?_
 clear hins
 refine goR ?_
 refine fzB 11 ?_
 (apply gZ 2 th 0 201; (exact rfl); (exact q2); (exact rfl); (exact rfl); (exact rfl); (intro K0; (try simp only [go_sem, dJ]); exact ⟨id⟩))
 generalize hT0 : s.threads.map aV = T0 at *
 have q4 : ∀ X, (T0.set th X).length = s.threads.length := fun X => by rw [List.length_set, q1]
 have q6 : ∀ X, (T0.set th X).getD th [] = X := fun X => by rw [List.getD_eq_getElem?_getD, List.getElem?_set_self (by omega)]; rfl
 have q7 : ∀ X Y, (T0.set th X).set th Y = T0.set th Y := fun X Y => List.set_set ..
 (any_goals refine goN lv94 0 ?_)
 repeat' (first | (refine Br.go (fun h h' => ?_) (fun h h' => ?_)) | (refine Br.mk (fun h => ?_) (fun h => ?_)))
 all_goals (try simp only [go_sem])
 (apply dD 2 th 0 201 (t.frames.map dW); (exact rfl); (exact List.getElem?_set_self (by omega)); (exact rfl); (exact (by decide)); (exact congrArg (fun z => (1, Res.sl 61 8 z)) (dJ t.frames).symm); (exact rfl); (intro K0; (try simp only [go_sem, q7]); exact ⟨id⟩))
 rw [show T0.set th [AV.nd 61 8 (t.frames.map dW), Iv t.state, Iv t.on, Iv t.val.1, Iv t.val.2] = T0 from qself]
 (any_goals refine go lv94 0 ?_)
 repeat' (first | (refine Br.go (fun h h' => ?_) (fun h h' => ?_)) | (refine Br.mk (fun h => ?_) (fun h => ?_)))
 all_goals (try simp only [go_sem])
 rw [hT0]
theorem go_c (p : aI) (s : aC) (th : Nat) (t : aP) (c : bJ) (f : aR) (g : Nat) (rg : Int) (v : Int × Int) (e : gX) (hp : Pgo p) (ht : s.threads[th]? = some t) (hc : s.cells[g]? = some c) (h2 : c.num ≠ 2) (hcf : c.frames = [f]) (hl : t.frames.length < 30) (htl : s.threads.length ≤ 1000000000) (hcl : s.cells.length ≤ 1000000000)
  (hfr : cU p s f = true) (hrl : f.regs.length ≤ 1000000000) (hpc : 0 < f.pc → 0 ≤ (lQ p f).a ∧ (lQ p f).a < (f.regs.length : Int)) :
  FC Cx 94 [.r (.rp (cQ p)), .os 0 0, Iv th, Iv g, VV v.1 v.2, Iv rg, cV e] [boxS s 0 0 1 0 2 0, ownC 1 0 s.cells, ownT 2 0 s.threads] (.tup [bI [goE e g v], Bv true])
   [boxS s 0 0 1 0 2 0, ownC 1 0 (s.cells.set g (goC c)), ownT 2 0 (s.threads.set th { t with frames := t.frames ++ [goF0 f rg g (lQ p f).a v] })] := by
 have hk := (List.getElem?_eq_some_iff.1 ht).1
 have hck := (List.getElem?_eq_some_iff.1 hc).1
 have t1 : Int.toNat (th : Int) = th := by omega
 have t2 : Int.toNat (g : Int) = g := by omega
 have q2 : (s.threads.map aV)[th]? = some (aV t) := by rw [List.getElem?_map, ht]; rfl
 have q1 : (s.threads.map aV).length = s.threads.length := List.length_map ..
 have r2 : (s.cells.map cK)[g]? = some (cK c) := by rw [List.getElem?_map, hc]; rfl
 have lc : (s.cells.map cK).length = s.cells.length := List.length_map ..
 have lf0 : (t.frames.map frameA2).length = t.frames.length := List.length_map ..
 have lr : (f.regs.map valC).length = f.regs.length := List.length_map ..
 have hins := Fu s (s.cells.set g (goC c)) (s.threads.set th { t with frames := t.frames ++ [goF0 f rg g (lQ p f).a v] })
 have d0 : decide (c.num = 2) = false := by simpa using h2
 have d1 : decide ((30 : Int) ≤ (t.frames.length : Int)) = false := by rw [decide_eq_false_iff_not]; omega
 have q8 : (s.threads.set th { t with frames := t.frames ++ [goF0 f rg g (lQ p f).a v] }).map aV = (s.threads.map aV).set th (aV { t with frames := t.frames ++ [goF0 f rg g (lQ p f).a v] }) := List.map_set ..
 have c8 : (s.cells.set g (goC c)).map cK = (s.cells.map cK).set g (cK (goC c)) := List.map_set ..
 have l0 : (p.fns.map fnR).length = p.fns.length := List.length_map ..
 obtain ⟨⟨g1, g2⟩, g3, g4⟩ := jC hfr
 obtain ⟨F, hF⟩ : ∃ F, p.fns[f.fn.toNat]? = some F := ⟨p.fns[f.fn.toNat]'(by omega), List.getElem?_eq_getElem _⟩
 have gF := aE fnR hF ([] : List RV)
 have eF : p.fns.getD f.fn.toNat fn0 = F := by rw [List.getD_eq_getElem?_getD, hF]; rfl
 rw [eF] at g4
 have l3 : (F.code.map insR).length = F.code.length := List.length_map ..
 have w1 : IntKind.i64.wrap (f.pc - 1) = f.pc - 1 := by
  have := (hp.cok F (List.mem_of_getElem? hF)).len
  rw [aN] <;> omega
 simp only [ownC, ownT] at hins ⊢
 rw [q8, c8] at hins ⊢
 obtain ⟨vk, vn⟩ := v
 obtain ⟨ck, cn, cv, cf⟩ := c
 dsimp only at *
 subst hcf
 clear q8 c8 hfr h2 hc ht
 refine iZ []  Tryz.func94 rfl Tryz.ntmps94 (by simp) Tryz.results94 rfl (hins) ?_
 refine rnst ?_
 clear hins
 refine goR ?_
 refine fzB 11 ?_
 (apply gZ 2 th 0 201; (exact rfl); (exact q2); (exact rfl); (exact rfl); (exact rfl); (intro K0; (try simp only [go_sem, dJ]); exact ⟨id⟩))
 (apply gZ 1 g 3 203; (exact rfl); (exact r2); (exact rfl); (exact rfl); (exact rfl); (intro K0; (try simp only [go_sem, dJ]); exact ⟨id⟩))
 (apply gZ 203 0 6 204; (exact rfl); (exact rfl); (exact rfl); (exact rfl); (exact rfl); (intro K0; (try simp only [go_sem, lT]); exact ⟨id⟩))
 generalize hT0 : s.threads.map aV = T0 at *
 have q4 : ∀ X, (T0.set th X).length = s.threads.length := fun X => by rw [List.length_set, q1]
 have q6 : ∀ X, (T0.set th X).getD th [] = X := fun X => by rw [List.getD_eq_getElem?_getD, List.getElem?_set_self (by omega)]; rfl
 have q7 : ∀ X Y, (T0.set th X).set th Y = T0.set th Y := fun X Y => List.set_set ..
 generalize hC0 : s.cells.map cK = C0 at *
 have r4 : ∀ X, (C0.set g X).length = s.cells.length := fun X => by rw [List.length_set, lc]
 have r6 : ∀ X, (C0.set g X).getD g [] = X := fun X => by rw [List.getD_eq_getElem?_getD, List.getElem?_set_self (by omega)]; rfl
 have r7 : ∀ X Y, (C0.set g X).set g Y = C0.set g Y := fun X Y => List.set_set ..
 by_cases hp0 : 0 < f.pc
 case pos =>
  obtain ⟨hA, hB⟩ := hpc hp0
  obtain ⟨I, hI⟩ : ∃ I, F.code[(f.pc - 1).toNat]? = some I := ⟨F.code[(f.pc - 1).toNat]'(by omega), List.getElem?_eq_getElem _⟩
  have gI := aE insR hI ([] : List RV)
  have eI : lQ p f = I := by unfold lQ; rw [eF, List.getD_eq_getElem?_getD, hI]; rfl
  have d2 : decide (0 < f.pc) = true := by simpa using hp0
  have b1 : 0 ≤ f.pc - 1 := by omega
  have b2 : f.pc - 1 < (F.code.length : Int) := by omega
  rw [eI] at hA hB ⊢
  have eG : goF0 f rg g I.a (vk, vn) = ⟨f.fn, f.pc, rg, g, f.self, f.regs.set I.a.toNat (vk, vn), f.tries⟩ := by unfold goF0; rw [if_pos hp0]
  rw [eG]
  clear eG eI eF hI hF hpc q2 r2
  obtain ⟨fn, pc, tov, gen, ⟨sk, sn⟩, regs, tries⟩ := f
  dsimp only at *
  obtain ⟨z, hz⟩ : ∃ z, regs[I.a.toNat]? = some z := ⟨regs[I.a.toNat]'(by omega), List.getElem?_eq_getElem _⟩
  have gz := aE valC hz ([] : List AV)
  clear hz
  (any_goals refine go (eM 13 lv94) 0 ?_)
  repeat' (first | (refine Br.go (fun h h' => ?_) (fun h h' => ?_)) | (refine Br.mk (fun h => ?_) (fun h => ?_)))
  all_goals (try simp only [go_sem])
  have qa : ∀ X : List AV, (t.frames.map frameA2 ++ [X])[t.frames.length]? = some X := fun X => by rw [List.getElem?_append_right (by omega), lf0, Nat.sub_self]; rfl
  have qs : ∀ X Y : List AV, (t.frames.map frameA2 ++ [X]).set t.frames.length Y = t.frames.map frameA2 ++ [Y] := fun X Y => by rw [List.set_append_right _ _ (by omega), lf0, Nat.sub_self]; rfl
  have p9 : t.frames.map frameA2 ++ [frameA2 ⟨fn, pc, rg, g, (sk, sn), regs.set I.a.toNat (vk, vn), tries⟩] = ((t.frames ++ [(⟨fn, pc, rg, g, (sk, sn), regs.set I.a.toNat (vk, vn), tries⟩ : aR)]).map dW).map (List.map nvC) := by rw [dJ, List.map_append]; rfl
  (apply dD 201 t.frames.length 6 204 ((regs.set I.a.toNat (vk, vn)).map valN); (exact rfl); (exact qa _); (exact rfl); (exact (by decide)); (exact congrArg (fun z => (1, Res.sl 50 2 z)) (by rw [lT, List.map_set])); (exact rfl); (intro K0; (try simp only [go_sem, qs]); exact ⟨id⟩))
  generalize t.frames.map frameA2 = R at *
  (apply dD 2 th 0 201 ((t.frames ++ [(⟨fn, pc, rg, g, (sk, sn), regs.set I.a.toNat (vk, vn), tries⟩ : aR)]).map dW); (exact rfl); (exact List.getElem?_set_self (by omega)); (exact rfl); (exact (by decide)); (exact congrArg (fun z => (2, Res.sl 61 8 z)) p9); (exact rfl); (intro K0; (try simp only [go_sem, q7]); exact ⟨id⟩))
  (apply tE 1 g 3 61 8; (exact rfl); (exact List.getElem?_set_self (by omega)); (exact rfl); (exact rfl); (intro K0; (try simp only [go_sem, r7]); exact ⟨id⟩))
  clear p9 qa qs q4 q6 q7 r4 r6 r7
  (any_goals refine goN lv94 0 ?_)
  repeat' (first | (refine Br.go (fun h h' => ?_) (fun h h' => ?_)) | (refine Br.mk (fun h => ?_) (fun h => ?_)))
  all_goals (try simp only [go_sem])
  (apply gU 100 [uY ⟨16, e.step, e.thread, e.fn, e.pc, e.line, g, e.b, (vk, vn), e.old⟩]; (exact rfl); (exact rfl); (exact rfl); (intro K0; (try simp only [go_sem]); exact ⟨id⟩))
  (any_goals refine go lv94 0 ?_)
  repeat' (first | (refine Br.go (fun h h' => ?_) (fun h h' => ?_)) | (refine Br.mk (fun h => ?_) (fun h => ?_)))
  all_goals (try simp only [go_sem])
  all_goals exact ⟨rfl, rfl⟩
 have d2 : decide (0 < f.pc) = false := by simpa using hp0
 have eG : goF0 f rg g (lQ p f).a (vk, vn) = ⟨f.fn, f.pc, rg, g, f.self, f.regs, f.tries⟩ := by unfold goF0; rw [if_neg hp0]
 rw [eG]
 clear eG eF hF hpc q2 r2
 obtain ⟨fn, pc, tov, gen, ⟨sk, sn⟩, regs, tries⟩ := f
 dsimp only at *
 (any_goals refine go (eM 13 lv94) 0 ?_)
 repeat' (first | (refine Br.go (fun h h' => ?_) (fun h h' => ?_)) | (refine Br.mk (fun h => ?_) (fun h => ?_)))
 all_goals (try simp only [go_sem])
 have qa : ∀ X : List AV, (t.frames.map frameA2 ++ [X])[t.frames.length]? = some X := fun X => by rw [List.getElem?_append_right (by omega), lf0, Nat.sub_self]; rfl
 have qs : ∀ X Y : List AV, (t.frames.map frameA2 ++ [X]).set t.frames.length Y = t.frames.map frameA2 ++ [Y] := fun X Y => by rw [List.set_append_right _ _ (by omega), lf0, Nat.sub_self]; rfl
 have p9 : t.frames.map frameA2 ++ [frameA2 ⟨fn, pc, rg, g, (sk, sn), regs, tries⟩] = ((t.frames ++ [(⟨fn, pc, rg, g, (sk, sn), regs, tries⟩ : aR)]).map dW).map (List.map nvC) := by rw [dJ, List.map_append]; rfl
 (apply dD 201 t.frames.length 6 204 ((regs).map valN); (exact rfl); (exact qa _); (exact rfl); (exact (by decide)); (exact congrArg (fun z => (1, Res.sl 50 2 z)) (lT regs).symm); (exact rfl); (intro K0; (try simp only [go_sem, qs]); exact ⟨id⟩))
 generalize t.frames.map frameA2 = R at *
 (apply dD 2 th 0 201 ((t.frames ++ [(⟨fn, pc, rg, g, (sk, sn), regs, tries⟩ : aR)]).map dW); (exact rfl); (exact List.getElem?_set_self (by omega)); (exact rfl); (exact (by decide)); (exact congrArg (fun z => (2, Res.sl 61 8 z)) p9); (exact rfl); (intro K0; (try simp only [go_sem, q7]); exact ⟨id⟩))
 (apply tE 1 g 3 61 8; (exact rfl); (exact List.getElem?_set_self (by omega)); (exact rfl); (exact rfl); (intro K0; (try simp only [go_sem, r7]); exact ⟨id⟩))
 clear p9 qa qs q4 q6 q7 r4 r6 r7
 (any_goals refine goN lv94 0 ?_)
 repeat' (first | (refine Br.go (fun h h' => ?_) (fun h h' => ?_)) | (refine Br.mk (fun h => ?_) (fun h => ?_)))
 all_goals (try simp only [go_sem])
 (apply gU 100 [uY ⟨16, e.step, e.thread, e.fn, e.pc, e.line, g, e.b, (vk, vn), e.old⟩]; (exact rfl); (exact rfl); (exact rfl); (intro K0; (try simp only [go_sem]); exact ⟨id⟩))
 (any_goals refine go lv94 0 ?_)
 repeat' (first | (refine Br.go (fun h h' => ?_) (fun h h' => ?_)) | (refine Br.mk (fun h => ?_) (fun h => ?_)))
 all_goals (try simp only [go_sem])
 all_goals exact ⟨rfl, rfl⟩
theorem Jg {s : aC} (hH : dE s = 0) {c : bJ} (hc : c ∈ s.cells) (k5 : c.kind = 5) : c.vals = [] ∧ (c.num = 0 ∨ c.num = 1 ∨ c.num = 2) ∧ (c.num ≠ 0 → c.frames = []) ∧ (c.num = 0 → c.frames.length = 1) := by
 have h := (qR.1 hH).cells c hc
 unfold eO at h
 simp only [Bool.and_eq_true, decide_eq_true_eq] at h
 obtain ⟨⟨⟨⟨⟨_, a2⟩, a3⟩, a4⟩, _⟩, _⟩ := h
 obtain ⟨ck, cn, cv, cf⟩ := c
 dsimp only at k5
 subst k5
 refine ⟨?_, ?_, fun hn => ?_, fun hn => ?_⟩
 ·simpa [iF] using a3
 ·have a2' : 0 ≤ cn ∧ cn ≤ 2 := by simpa [numF] using a2
  show cn = 0 ∨ cn = 1 ∨ cn = 2
  omega
 ·have : dM ⟨5, cn, cv, cf⟩ = 0 := if_neg fun h => hn h.2
  rw [this] at a4
  exact List.length_eq_zero_iff.1 (by show cf.length = 0; dsimp only at a4; omega)
 ·have : dM ⟨5, cn, cv, cf⟩ = 1 := if_pos ⟨rfl, hn⟩
  rw [this] at a4
  show cf.length = 1; dsimp only at a4; omega
theorem Kg {p : aI} {f : FnT} (h : jM p f = true) : ∀ i ∈ f.code, i.op = 32 → 0 ≤ i.a ∧ i.a < f.regs := by
 intro i hi ho
 obtain ⟨k, hk, rfl⟩ := List.getElem_of_mem hi
 have h1 := List.all_eq_true.1 h k (List.mem_range.2 hk)
 rw [show f.code.getD k ins0 = f.code[k] by simp [List.getD, List.getElem?_eq_getElem hk]] at h1
 have h2 : kL p f f.code[k] = true := by
  unfold fH at h1
  split at h1
  ·cases h1
  ·split at h1
   ·cases h1
   ·rename_i h; simpa using h
 simp only [kL, Bool.and_eq_true] at h2
 have h3 := h2.1.1.2
 have e : fB (f.code[k]).op 0 = 114 := by rw [ho]; rfl
 rw [e] at h3
 have h4 : wiF (f.code[k]).a 0 (f.regs - 1) = true := h3
 have h5 := oW.1 h4
 exact ⟨h5.1, by omega⟩
structure GenF (p : aI) (s : aC) (f : aR) : Prop where
 frame : cU p s f = true
 regs : f.regs.length ≤ 60
 tries : f.tries.length ≤ 20
 pc : 0 < f.pc → 0 ≤ (lQ p f).a ∧ (lQ p f).a < (f.regs.length : Int)
theorem Kv {p : aI} {s : aC} {c : bJ} (hw : Pwf p) (hR : Ha p s) (hc : c ∈ s.cells) (k5 : c.kind = 5) (n0 : c.num = 0) : ∃ f, c.frames = [f] ∧ GenF p s f := by
 obtain ⟨_, _, _, h1⟩ := Jg hR.heap hc k5
 obtain ⟨f, hf⟩ := List.length_eq_one_iff.1 (h1 n0)
 have hh := hR.cells c hc
 unfold dL at hh
 rw [if_neg (by rw [k5]; decide), if_pos k5, n0, hf] at hh
 have hs : eU p s f = true := by simpa using hh
 unfold eU at hs
 simp only [Bool.and_eq_true, Bool.or_eq_true, decide_eq_true_eq] at hs
 obtain ⟨⟨⟨⟨b1, _⟩, _⟩, _⟩, b5⟩ := hs
 obtain ⟨t1, t2, t3, _⟩ := sF hw hR.prog b1
 refine ⟨f, hf, b1, t2, t1, fun h0 => ?_⟩
 rcases b5 with b5 | b5
 ·omega
 obtain ⟨⟨g1, g2⟩, g3, g4⟩ := jC b1
 obtain ⟨F, hF⟩ : ∃ F, p.fns[f.fn.toNat]? = some F := ⟨p.fns[f.fn.toNat]'(by omega), List.getElem?_eq_getElem _⟩
 have eF : p.fns.getD f.fn.toNat fn0 = F := by rw [List.getD_eq_getElem?_getD, hF]; rfl
 obtain ⟨_, hfun, _, _⟩ := vI hw hR.prog (List.mem_of_getElem? hF)
 have hord : jM p F = true := by
  unfold bQ at hfun
  split at hfun
  ·cases hfun
  ·split at hfun
   ·cases hfun
   ·rename_i h; simpa using h
 unfold lQ
 rw [eF] at b5 g4 t3 ⊢
 have hI : F.code[(f.pc - 1).toNat]? = some F.code[(f.pc - 1).toNat] := List.getElem?_eq_getElem (by omega)
 have eI : F.code.getD (f.pc - 1).toNat ins0 = F.code[(f.pc - 1).toNat] := by rw [List.getD_eq_getElem?_getD, hI]; rfl
 rw [eI] at b5 ⊢
 have := Kg hord _ (List.mem_of_getElem? hI) b5
 rw [t3]; exact this
structure AskF (p : aI) (s : aC) (n : Nat) (t : aP) (f : aR) : Prop where
 right : Ha p s
 sml : Sml s
 thr : s.threads.length ≤ 1000000000
 frames : t.frames.length ≤ 30
 go : Pgo p
 frame : cU p s f = true
 regs : f.regs.length ≤ 60
theorem kX {p : aI} {s : aC} {th : Int} {n : Nat} {t : aP} {f : aR} (hw : Pwf p) (h : yX p s th n t f) : AskF p s n t f := by
 have hR := Bu.1 h.fault
 obtain ⟨hm, hth⟩ := Mj hw hR
 have hfF : cU p s f = true := by
  obtain ⟨low, ho, _⟩ := xV (hR.threads t (List.mem_of_getElem? h.at')).2 h.last
  exact Ls ho
 exact ⟨hR, hm, hm.threads, (hth t (List.mem_of_getElem? h.at')).1, Cg hw hR.prog, hfF, (sF hw hR.prog hfF).2.1⟩
theorem in3 (s : aC) (cs : List bJ) (ts : List aP) : ∀ p ∈ [boxS s 0 0 1 0 2 0, ownC 1 0 cs, ownT 2 0 ts], bP (domR [boxS s 0 0 1 0 2 0, ownC 1 0 cs, ownT 2 0 ts]) p.2.2 := fun p hp => by
 rcases List.mem_cons.1 hp with rfl | hp
 ·exact Fu s cs ts 0
 ·rcases List.mem_cons.1 hp with rfl | hp
  ·exact Fu s cs ts 1
  ·rcases List.mem_cons.1 hp with rfl | hp
   ·exact Fu s cs ts 2
   ·simp at hp
def fldT (P : Program) (s f : Nat) : Option (Nat × Nat) := match P.underlying s with
 | some (.struct fs) => match fs[f]? with
  | some x => some (x.offset, x.type)
  | none => none
 | _ => none
def fldG (C : Ctx) (st : St) (s : Nat) (x : Operand) (f : Nat) (K : AV → Prop) : Prop := match ev st x with
 | .agg cs => match fldT C.P s f with
  | some (off, t) => uB C.P t (cs.drop off) K
  | none => False
 | _ => False
attribute [go_sem] fldG
theorem aGw {P : Program} {s f off t : Nat} (h : fldT P s f = some (off, t)) : ∃ fs x, P.underlying s = some (.struct fs) ∧ fs[f]? = some x ∧ x.offset = off ∧ x.type = t := by
 unfold fldT at h
 split at h
 ·rename_i fs hu
  split at h
  ·rename_i x hx
   simp only [Option.some.injEq, Prod.mk.injEq] at h
   exact ⟨fs, x, hu, hx, h.1, h.2⟩
  ·cases h
 ·cases h
theorem Yn {C : Ctx} {o : Oper} {st : St} {s : Nat} {x : Operand} {f d : Nat} {K : List (Loc × Cont) → Prop} (ho : o.op = .field s x f) (hdst : o.dst = some d) (hd : d < st.n) (h : fldG C st s x f fun y => K [(.T d, .a y)]) : sI C o st fun _ outs => K outs := by
 unfold fldG at h
 split at h
 ·rename_i cs hx
  split at h
  ·rename_i off t hf
   obtain ⟨r, h1, h2⟩ := nA h
   refine ⟨rd [x], _, h1, mS hdst hd fun e st' g a w hs ha => ?_⟩
   have h5 := arg hs (bU.1 ha) (x := x) (by simp)
   rw [hx] at h5
   obtain ⟨xs, hv, p1, p2⟩ := rG h5
   obtain ⟨u, h3, h4⟩ := Fg h2 (⟨p1, p2⟩ : PW st'.cur g w (e.N st' g) cs xs)
   obtain ⟨fs, y, hu, hy, rfl, rfl⟩ := aGw hf
   refine ⟨u, w, ?_, rfl, rfl, rfl, rfl, h4⟩
   obtain ⟨dst, op, type, pos, after, guard⟩ := o
   dsimp only at ho
   subst ho
   simp only [execOp, Sem.run_bind, hv, Instr.field, asAgg, Sem.run_pure, Result.andThen_ok, run_underlying hu]
   simp [hy, h3]
  ·exact h.elim
 ·exact h.elim
section
variable {C : Ctx} {T : List (Ct C)} {r : List It} {st st' : St} {K : Exit → St → Prop} {L : List (Nat × List Nat)} {n : Nat} {B : Prop} {k k' d d' : Nat} {done done' : List (Nat × Nat)} {o : Oper} {l : List Oper} {b : Bool}
theorem Gw.fyes {s : Nat} {x : Operand} {f : Nat} (ho : o.op = .field s x f) (hdst : o.dst = some d') (hd : d' < st.n) (h : ∀ K0 : Nat → List (Nat × Nat) → St → Prop, Imp (K0 k' done' st') (fldG C st s x f fun y => K0 (k + 1) (addN k o.dst done) (st.upd [(.T d', .a y)]))) (hk : Gw T L n B (Rn C T (.o k' done' l :: r) st' K)) : Gw T L n B (RnG C T k done o l r st K d b (.r (.v (.bool b)))) := ⟨fun hb0 => by
 unfold RnG; intro j hg hld hx
 refine yJ hg hld hx (fun _ => ?_) (fun h => by cases b <;> simp at h)
 exact Yn ho hdst hd ((h fun k d s => Rn C T (.o k d l :: r) s K).run (hk.run hb0))⟩
theorem Gw.fop {s : Nat} {x : Operand} {f : Nat} (hg : o.guard = none) (ho : o.op = .field s x f) (hdst : o.dst = some d') (hd : d' < st.n) (h : ∀ K0 : Nat → List (Nat × Nat) → St → Prop, Imp (K0 k' done' st') (fldG C st s x f fun y => K0 (k + 1) (addN k o.dst done) (st.upd [(.T d', .a y)]))) (hk : Gw T L n B (Rn C T (.o k' done' l :: r) st' K)) : Gw T L n B (Rn C T (.o k done (o :: l) :: r) st K) := ⟨fun hb0 => by
 unfold Rn
 refine rM (T := T) (K' := fun s => tZ C (k + 1) (addN k o.dst done) l s (ck C r K .normal)) ?_ fun s hs => hs
 unfold uT
 rw [hg]
 have h2 := (h fun k d s => Rn C T (.o k d l :: r) s K).run (hk.run hb0)
 unfold Rn at h2
 exact Yn ho hdst hd h2⟩
theorem goV (L : List (Nat × List Nat)) (n : Nat) (hb : B)
  (h : Gw T L n B (Rn C T r st K) := by
   repeat' (first | (focus (intro K0; (try simp only [go_sem, *]); (first | exact ⟨id⟩ | (refine ⟨fun h => ?_⟩; (repeat' (first | exact h | refine And.intro ?_ ?_ | omega | rfl)); done)))) | (apply Gw.seq) | (apply Gw.block) | (apply Gw.region; (exact rfl)) | (apply Gw.op; (exact rfl)) | (apply Gw.onil) | ((first | apply Gw.g | apply Gw.dg); (exact rfl); (exact rfl); (focus (intro K0; (try simp only [bB, ev, Nat.reduceEqDiff, ↓reduceIte]); exact ⟨id⟩))) | ((apply Gw.fyes; (exact rfl); (exact rfl); (focus (first | (simp only [Nat.reduceLT]; done) | omega)); (focus (intro K0; (try simp only [go_sem]); exact ⟨id⟩)))) | (with_reducible (first | apply Gw.yes | apply Gw.dyes)) | ((with_reducible (first | apply Gw.tno | apply Gw.fno | apply Gw.un | apply Gw.dtno | apply Gw.dfno | apply Gw.dun)); (exact rfl)) | ((first | apply Gw.never | apply Gw.dnever); (focus (intro K0; (try simp only [go_sem]); exact ⟨id⟩)); (exact rfl)) | ((first | apply Gw.lazy | apply Gw.dlazy); (exact rfl); (focus (intro K0; (try simp only [go_sem]); exact ⟨id⟩)); (focus (first | (simp only [Nat.reduceLT]; done) | omega)); (focus (intro hw0; (try simp only [Bool.and_eq_true, Bool.not_eq_true', dK, dC] at hw0); (focus (intro K0; (try simp only [go_sem, *]); (first | exact ⟨id⟩ | (refine ⟨fun h => ?_⟩; (repeat' (first | exact h | refine And.intro ?_ ?_ | omega | rfl)); done))))))) | (apply Gw.c; (focus (intro K0; (try simp only [bB, ev, Nat.reduceEqDiff, ↓reduceIte]); exact ⟨id⟩))) | (with_reducible (first | apply Gw.ct | apply Gw.cf)) | (apply Gw.unroll) | (apply Gw.skip) | (apply Gw.exit rfl) | (apply Gw.bb) | (apply Gw.drawn; (exact rfl)) | (apply Gw.dop; (exact rfl)) | (apply Gw.dnil (by kernel_rfl)) | ((with_reducible (first | apply Gw.gsplit | apply Gw.dsplit | apply Gw.csplit)) <;> (first | (intro h; (have h' := h); (try simp only [decide_eq_true_eq, decide_eq_false_iff_not, Bool.not_eq_true', Bool.not_eq_false', Bool.and_eq_true, Bool.or_eq_true, Bool.or_eq_false_iff, beq_iff_eq, bne_iff_ne, ne_eq, Bool.not_true, Bool.not_false, not_false_eq_true, reduceCtorEq, beq_eq_false_iff_ne, bne_eq_false_iff_eq] at h'); (first | apply Gw.stt | apply Gw.dstt | done)) | skip)) | (apply Gw.outck rfl rfl) | (apply Gw.out rfl) | (apply Gw.tret) | (apply Gw.tout rfl) | (apply Gw.tthru rfl) | (first | apply Gw.retck | apply Gw.ret | apply Gw.nilthen) | (apply Gw.ls) | (apply Gw.nil))
   all_goals (first | exact Gw.leaf | exact True)) : Rn C T r st K := h.run hb
theorem goVN (L : List (Nat × List Nat)) (n : Nat) (hb : B)
  (h : Gw T L n B (Rn C T r st K) := by
   repeat' (first | (focus (intro K0; (try simp only [go_sem, *]); (first | exact ⟨id⟩ | (refine ⟨fun h => ?_⟩; (repeat' (first | exact h | refine And.intro ?_ ?_ | omega | rfl)); done)))) | (apply Gw.seq) | (apply Gw.block) | (apply Gw.region; (exact rfl)) | (apply Gw.op; (exact rfl)) | (apply Gw.onil) | ((first | apply Gw.g | apply Gw.dg); (exact rfl); (exact rfl); (focus (intro K0; (try simp only [bB, ev, Nat.reduceEqDiff, ↓reduceIte]); exact ⟨id⟩))) | ((apply Gw.fyes; (exact rfl); (exact rfl); (focus (first | (simp only [Nat.reduceLT]; done) | omega)); (focus (intro K0; (try simp only [go_sem]); exact ⟨id⟩)))) | (with_reducible (first | apply Gw.yes | apply Gw.dyes)) | ((with_reducible (first | apply Gw.tno | apply Gw.fno | apply Gw.un | apply Gw.dtno | apply Gw.dfno | apply Gw.dun)); (exact rfl)) | ((first | apply Gw.never | apply Gw.dnever); (focus (intro K0; (try simp only [go_sem]); exact ⟨id⟩)); (exact rfl)) | ((first | apply Gw.lazy | apply Gw.dlazy); (exact rfl); (focus (intro K0; (try simp only [go_sem]); exact ⟨id⟩)); (focus (first | (simp only [Nat.reduceLT]; done) | omega)); (focus (intro hw0; (try simp only [Bool.and_eq_true, Bool.not_eq_true', dK, dC] at hw0); (focus (intro K0; (try simp only [go_sem, *]); (first | exact ⟨id⟩ | (refine ⟨fun h => ?_⟩; (repeat' (first | exact h | refine And.intro ?_ ?_ | omega | rfl)); done))))))) | (apply Gw.c; (focus (intro K0; (try simp only [bB, ev, Nat.reduceEqDiff, ↓reduceIte]); exact ⟨id⟩))) | (with_reducible (first | apply Gw.ct | apply Gw.cf)) | (apply Gw.unroll) | (apply Gw.skip) | (apply Gw.exit rfl) | (apply Gw.bb) | (apply Gw.drawn; (exact rfl)) | (apply Gw.dop; (exact rfl)) | (apply Gw.dnil (by kernel_rfl)) | ((with_reducible (first | apply Gw.gsplit | apply Gw.dsplit | apply Gw.csplit)) <;> (first | (intro h; (have h' := h); (try simp only [decide_eq_true_eq, decide_eq_false_iff_not, Bool.not_eq_true', Bool.not_eq_false', Bool.and_eq_true, Bool.or_eq_true, Bool.or_eq_false_iff, beq_iff_eq, bne_iff_ne, ne_eq, Bool.not_true, Bool.not_false, not_false_eq_true, reduceCtorEq, beq_eq_false_iff_ne, bne_eq_false_iff_eq] at h'); (first | apply Gw.stt | apply Gw.dstt | done)) | skip)) | (apply Gw.outck rfl rfl) | (apply Gw.out rfl) | (apply Gw.tret) | (apply Gw.tout rfl) | (apply Gw.tthru rfl) | (first | apply Gw.nilthen) | (apply Gw.ls) | (apply Gw.nil))
   all_goals (first | exact Gw.leaf | exact True)) : Rn C T r st K := h.run hb
end
end Go.Proofs.YtbhnmolmkembdaaGreatDoor
