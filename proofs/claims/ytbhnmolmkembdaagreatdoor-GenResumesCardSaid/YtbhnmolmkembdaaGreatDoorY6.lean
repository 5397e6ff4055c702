/- Is a state too large; its texts. No condition: contracts of the program's functions. -/
import Derived.Test.YtbhnmolmkembdaaGreatDoorY5
import Derived.Test.YtbhnmolmkembdaaGreatDoorY3
namespace Go.Proofs.YtbhnmolmkembdaaGreatDoor
set_option linter.unusedVariables false
set_option linter.unusedSimpArgs false
set_option maxHeartbeats 10000000
open Go
set_option maxRecDepth 10000
theorem Ps (l : List bJ) (f : Nat) (caps : List RV) (dom : AV → Prop) (pv : AV → Bool) (h : ∀ y, dom y → aQ Cx f (y :: caps.map AV.r) (Bv (pv y))) (hd : ∀ x ∈ l, dom (gL x)) (hl : l.length ≤ 9223372036854775807) :
  FC Cx 166 [dO l, .r (.fn f caps)] [] (Iv (fidx (fun x => pv (gL x)) l)) [] := by
 have hlen : (l.map aW).length = l.length := List.length_map ..
 refine aD [ctF f caps dom pv h] Tryz.func166 Tryz.ntmps166 Tryz.results166 ?_
 (any_goals refine go Pz 0 ?_)
 refine eB [0, 1, 7, 8] (fun i => i ≤ l.length ∧ ∀ j x, j < i → l[j]? = some x → pv (gL x) = false) (fun (i : Nat) => ⟨19, [(0, dO l), (1, .r (.fn f caps)), (7, Iv l.length), (8, Iv i)], []⟩) (fun i => l.length - i) 0 rfl (by rw [← hlen]; rfl) rfl ⟨Nat.zero_le _, fun j x hj => by omega⟩ ?_
 rintro i ⟨hi, hno⟩
 by_cases hlt : i < l.length
 ·obtain ⟨x, hx⟩ : ∃ x, l[i]? = some x := ⟨l[i], List.getElem?_eq_getElem hlt⟩
  have hg := aE aW hx ([] : List RV)
  have hdx := hd x (List.mem_of_getElem? hx)
  have hw : IntKind.i64.wrap ((i : Int) + 1) = ((i + 1 : Nat) : Int) := by rw [aN] <;> omega
  have h1 : decide ((i : Int) < (l.length : Int)) = true := by rw [decide_eq_true_eq]; omega
  have h2 : Int.toNat (i : Int) = i := by omega
  cases hp : pv (gL x) with
  | true =>
   (any_goals refine go Pz 0 ?_)
   all_goals (try simp only [go_sem])
   rw [jH hx hp fun j y hj hy => hno j y hj hy]
  | false =>
   (any_goals refine go Pz 0 ?_)
   refine ⟨i + 1, ⟨by omega, fun j y hj hy => ?_⟩, by omega, fI [0, 1, 7, 8] rfl rfl rfl⟩
   rcases Nat.lt_succ_iff_lt_or_eq.1 hj with h3 | h3
   ·exact hno j y h3 hy
   ·subst h3; rw [hx] at hy; cases hy; exact hp
 ·have h1 : decide ((i : Int) < (l.length : Int)) = false := by rw [decide_eq_false_iff_not]; omega
  (any_goals refine go Pz 0 ?_)
  all_goals (try simp only [go_sem])
  rw [gR fun j y hy => hno j y (by have := (List.getElem?_eq_some_iff.1 hy).1; omega) hy]
theorem yE (l : List bJ) (f : Nat) (caps : List RV) (dom : AV → Prop) (pv : AV → Bool) (h : ∀ y, dom y → aQ Cx f (y :: caps.map AV.r) (Bv (pv y))) (hd : ∀ x ∈ l, dom (gL x)) (hl : l.length ≤ 9223372036854775807) :
  FC Cx 113 [dO l, .r (.fn f caps)] [] (Bv (l.any fun x => pv (gL x))) [] := by
 have hA : ∀ y, y = [dO l, .r (.fn f caps)] → aQ Cx 166 y (Iv (fidx (fun x => pv (gL x)) l)) := fun y hy => by
  subst hy; exact aA (Ps l f caps dom pv h hd hl) aSh rfl rfl
 refine aD [ctE 166 [dO l, .r (.fn f caps)] (Iv (fidx (fun x => pv (gL x)) l)) hA] Tryz.func113 Tryz.ntmps113 Tryz.results113 ?_
 (any_goals refine go aV6 0 ?_)
 all_goals (try simp only [go_sem])
 all_goals (try rw [iN])
def Qp : AV → bJ
 | .agg [.r (.v (.int _ a)), .r (.v (.int _ b)), .r (.rs _ vs), .r (.rs _ fs)] => ⟨a, b, valsOf vs, framesOf fs⟩
 | _ => cZ
theorem tK (c : bJ) : Qp (gL c) = c := by
 show (⟨c.kind, c.num, valsOf (c.vals.map valR), framesOf (c.frames.map bA)⟩ : bJ) = c
 rw [qW, mG]
def bigC (c : bJ) : Bool := decide ((100 : Int) < (c.vals.length : Int)) && (!decide (c.kind = 7) || decide ((600 : Int) < (c.vals.length : Int)))
def kV (s : aC) : Bool := decide ((300 : Int) < (s.cells.length : Int)) || decide ((300 : Int) < (s.texts.length : Int)) || decide ((200 : Int) < (s.said.length : Int)) || decide ((100 : Int) < (s.ends.length : Int)) || s.texts.any bigS || s.cells.any bigC
theorem Tn (t : ByteArray) : FC Cx 162 [Sv t] [] (Bv (bigS t)) [] := by
 refine aD [] Tryz.func162 Tryz.ntmps162 Tryz.results162 ?_
 (any_goals refine go aRv 0 ?_)
 all_goals (try simp only [go_sem])
 all_goals rfl
theorem Vs (c : bJ) : FC Cx 163 [gL c] [] (Bv (bigC c)) [] := by
 have l1 : (c.vals.map valR).length = c.vals.length := List.length_map ..
 refine aD [] Tryz.func163 Tryz.ntmps163 Tryz.results163 ?_
 refine goR ?_
 refine fzB 1 ?_
 (any_goals refine go aTu 0 ?_)
 all_goals (try simp only [go_sem])
 all_goals (unfold bigC; simp_all)
theorem Wh (s : aC) (hl : Slen s) : FC Cx 108 [bT s] [] (Bv (kV s)) [] := by
 have l1 : (s.cells.map aW).length = s.cells.length := List.length_map ..
 have l2 : (s.texts.map strR).length = s.texts.length := List.length_map ..
 have l3 : (s.said.map valR).length = s.said.length := List.length_map ..
 have l4 : (s.ends.map endR).length = s.ends.length := List.length_map ..
 have hA : ∀ y, y = [bZ s.texts, .r (.fn 162 [])] → aQ Cx 99 y (Bv (s.texts.any bigS)) := fun y hy => by
  subst hy
  have h := Ji s.texts 162 [] (fun y => ∃ t, y = strA t) (fun y => match y with | .r (.v (.string t)) => bigS t | _ => false) (by
   rintro _ ⟨t, rfl⟩
   exact aA (Tn t) aUr rfl rfl) (fun x _ => ⟨x, rfl⟩) hl.texts
  exact aA h en99 rfl rfl
 have hB : ∀ y, y = [dO s.cells, .r (.fn 163 [])] → aQ Cx 113 y (Bv (s.cells.any bigC)) := fun y hy => by
  subst hy
  have h := yE s.cells 163 [] (fun y => ∃ c, y = gL c) (fun y => bigC (Qp y)) (by
   rintro _ ⟨c, rfl⟩
   rw [tK]
   exact aA (Vs c) aW7 rfl rfl) (fun x _ => ⟨x, rfl⟩) hl.cells
  simp only [tK] at h
  exact aA h Zs rfl rfl
 unfold kV
 generalize hb5 : s.texts.any bigS = b5 at *
 generalize hb6 : s.cells.any bigC = b6 at *
 refine aD [ctE 99 [bZ s.texts, .r (.fn 162 [])] (Bv b5) hA, ctE 113 [dO s.cells, .r (.fn 163 [])] (Bv b6) hB] Tryz.func108 Tryz.ntmps108 Tryz.results108 ?_
 (any_goals refine go aS3 0 ?_)
 all_goals (try simp only [go_sem])
 all_goals (clear hA hB; simp_all; done)
theorem Ue (ca sh tx th en sd : List (List RV)) (aq sq : Int) (h : (ca = (cellsOf ca).map aW ∧ sh = (valsOf sh).map valR ∧ tx = (strsOf tx).map strR ∧ th = (threadsOf th).map aJ ∧ en = (aG en).map endR ∧ sd = (valsOf sd).map valR) ∧ Slen ⟨cellsOf ca, valsOf sh, strsOf tx, threadsOf th, aG en, valsOf sd, aq, sq⟩) : FC Cx 108 [.r (.rp [.rs 4 ca, .rs 2 sh, .rs 1 tx, .rs 5 th, .rs 3 en, .rs 2 sd, .v (.int .i64 aq), .v (.int .i64 sq)])] [] (Bv (kV ⟨cellsOf ca, valsOf sh, strsOf tx, threadsOf th, aG en, valsOf sd, aq, sq⟩)) [] := by
 have := Wh ⟨cellsOf ca, valsOf sh, strsOf tx, threadsOf th, aG en, valsOf sd, aq, sq⟩ h.2
 rwa [mZ _ _ _ _ _ _ _ _ h.1] at this
def qX (args : List AV) (K : AV → Prop) : Prop := match args with
 | [.r (.rp [.rs 4 ca, .rs 2 sh, .rs 1 tx, .rs 5 th, .rs 3 en, .rs 2 sd, .v (.int .i64 aq), .v (.int .i64 sq)])] => ((ca = (cellsOf ca).map aW ∧ sh = (valsOf sh).map valR ∧ tx = (strsOf tx).map strR ∧ th = (threadsOf th).map aJ ∧ en = (aG en).map endR ∧ sd = (valsOf sd).map valR) ∧ Slen ⟨cellsOf ca, valsOf sh, strsOf tx, threadsOf th, aG en, valsOf sd, aq, sq⟩) ∧ K (Bv (kV ⟨cellsOf ca, valsOf sh, strsOf tx, threadsOf th, aG en, valsOf sd, aq, sq⟩))
 | _ => False
noncomputable abbrev uJ : Ct Cx := .pure 108 qX fun args K h => by
 unfold qX at h; split at h; exact ⟨_, aA (Ue _ _ _ _ _ _ _ _ h.1) aWt rfl rfl, h.2⟩; exact h.elim
@[go_sem] theorem aDi : type_of% @qX.eq_def := @qX.eq_def
def iY (l : List ByteArray) : Bool := decide (19 ≤ l.length) && decide (l.take 19 = cJ) && decide l.Nodup
theorem Fb {l : List ByteArray} {k : Nat} {t : ByteArray} (h : l[k]? = some t) (hb : t ∈ l.take k ∨ k < 19 ∧ cJ[k]? ≠ some t) : iY l = false := by
 unfold iY
 rcases hb with hb | ⟨h1, h2⟩
 ·rw [decide_eq_false (yA h hb)]; simp
 ·have : ¬ l.take 19 = cJ := fun he => h2 (by rw [← he, List.getElem?_take, if_pos h1]; exact h)
  rw [decide_eq_false this]; simp
theorem Xe {l : List ByteArray} (h : ∀ j t, l[j]? = some t → t ∉ l.take j ∧ (j < 19 → cJ[j]? = some t)) : iY l = decide (19 ≤ l.length) := by
 unfold iY
 have hn : l.Nodup := by
  have := qQ l.length (Nat.le_refl _) fun j t _ ht => (h j t ht).1
  rwa [List.take_length] at this
 by_cases h19 : 19 ≤ l.length
 ·have : l.take 19 = cJ := List.ext_getElem? fun j => by
   rw [List.getElem?_take]
   by_cases hj : j < 19
   ·rw [if_pos hj]
    have hx : l[j]? = some (l[j]'(by omega)) := List.getElem?_eq_getElem _
    rw [hx, (h j _ hx).2 hj]
   ·rw [if_neg hj, List.getElem?_eq_none (by rw [show cJ.length = 19 from rfl]; omega)]
  rw [decide_eq_true this, decide_eq_true hn, decide_eq_true h19]; rfl
 ·rw [decide_eq_false h19]; rfl
theorem Yk (l : List ByteArray) (hl : l.length ≤ 300) (h2 : ∀ t ∈ l, t.size ≤ 200) : FC Cx 110 [bZ l] [] (Bv (iY l)) [] := by
 have l1 : (l.map strR).length = l.length := List.length_map ..
 refine aD [vR] Tryz.func110 Tryz.ntmps110 Tryz.results110 ?_
 (any_goals refine go Fa 0 ?_)
 refine bY (fun x : Nat × Nat => x.1 ≤ l.length ∧ ∀ j t, j < x.1 → l[j]? = some t → t ∉ l.take j ∧ (j < 19 → cJ[j]? = some t))
  (fun x => ⟨42, [(0, bZ l), (3, bZ cJ), (4, .os 8 1), (9, bZ l), (10, Iv l.length), (11, Iv x.1)], [(8, 1, .mp (gM (l.take x.1)) x.2)]⟩) (fun x => l.length - x.1) (0, 0) ⟨Nat.zero_le _, fun j t hj => by omega⟩ ?_ rfl ?_ ⟨rfl, .inl ⟨rfl, by simp [El]⟩, trivial⟩
 rotate_left
 ·exact ⟨rfl, rfl, rfl, rfl, by simp [bB], rfl, trivial⟩
 rintro ⟨k, n⟩ ⟨hk, hno⟩
 dsimp only at hk hno ⊢
 by_cases hlt : k < l.length
 case neg =>
  obtain rfl : k = l.length := by omega
  have e1 : decide ((l.length : Int) < (l.length : Int)) = false := by rw [decide_eq_false_iff_not]; omega
  have hF := Xe (l := l) fun j t hj => hno j t (List.getElem?_eq_some_iff.1 hj).1 hj
  (any_goals refine go Fa 0 ?_)
  all_goals (try simp only [go_sem])
  rw [hF]
  refine congrArg (fun b => Bv b) ?_
  rw [decide_eq_decide]; omega
 have e1 : decide ((k : Int) < (l.length : Int)) = true := by rw [decide_eq_true_eq]; omega
 have t1 : Int.toNat (k : Int) = k := by omega
 have w1 : IntKind.i64.wrap ((k : Int) + 1) = ((k + 1 : Nat) : Int) := by rw [aN] <;> omega
 obtain ⟨t, ht⟩ : ∃ v, l[k]? = some v := ⟨l[k], List.getElem?_eq_getElem hlt⟩
 have hg := aE strR ht ([] : List RV)
 have hM : rI Tryz.prog 154 (gM (l.take k)) (.string t) := Ju (fun q hq => h2 q (List.mem_of_mem_take hq)) (h2 t (List.mem_of_getElem? ht))
 by_cases hin : t ∈ l.take k
 ·have d6 := Ft hin
  have hF := Fb ht (.inl hin)
  (any_goals refine go Fa 0 ?_)
  all_goals (try simp only [go_sem, hF])
 have d6 := Jv hin
 have fin : (k < 19 → cJ[k]? = some t) → ∃ y : Nat × Nat, (y.1 ≤ l.length ∧ ∀ j t, j < y.1 → l[j]? = some t → t ∉ l.take j ∧ (j < 19 → cJ[j]? = some t)) ∧ l.length - y.1 < l.length - k ∧ y.1 = k + 1 ∧ Res.mp (updF (gM (l.take k)) (.string t) (.int .i64 1)) (updN (gM (l.take k)) (.string t) n) = Res.mp (gM (l.take y.1)) y.2 := fun hw => by
  have et : l.take (k + 1) = l.take k ++ [t] := by rw [List.take_add_one, ht]; rfl
  refine ⟨(k + 1, updN (gM (l.take k)) (.string t) n), ⟨by dsimp only; omega, fun j q hj hq => ?_⟩, by dsimp only; omega, rfl, ?_⟩
  ·rcases Nat.lt_succ_iff_lt_or_eq.1 hj with h3 | h3
   ·exact hno j q h3 hq
   ·subst h3
    rw [ht] at hq; cases hq; exact ⟨hin, hw⟩
  ·refine congrArg (fun f => Res.mp f _) ?_
   rw [Ez]
   dsimp only
   refine Bi fun q => ?_
   rw [et]
   simp [or_comm]
 by_cases h19 : k < 19
 ·have e2 : decide ((k : Int) < 19) = true := by rw [decide_eq_true_eq]; omega
  obtain ⟨x, hx⟩ : ∃ x, cJ[k]? = some x := ⟨cJ[k]'(by rw [show cJ.length = 19 from rfl]; omega), List.getElem?_eq_getElem _⟩
  have hgw := aE strR hx ([] : List RV)
  by_cases htx : t = x
  ·have e3 : decide (t = x) = true := by simpa using htx
   replace fin := fin fun _ => by rw [hx, htx]
   clear htx
   (any_goals refine go Fa 0 ?_)
   obtain ⟨y, y1, y2, y3, y4⟩ := fin
   refine ⟨y, y1, y2, ⟨rfl, pI ⟨rfl, rfl, rfl, rfl, rfl, by rw [y3]; rfl, trivial⟩, oH ⟨rfl, .inl ⟨rfl, y4⟩, trivial⟩⟩⟩
  ·have e3 : decide (t = x) = false := by simpa using htx
   have hF := Fb ht (.inr ⟨h19, by rw [hx]; intro h; exact htx (by cases h; rfl)⟩)
   (any_goals refine go Fa 0 ?_)
   all_goals (try simp only [go_sem, hF])
 ·have e2 : decide ((k : Int) < 19) = false := by rw [decide_eq_false_iff_not]; omega
  (any_goals refine go Fa 0 ?_)
  obtain ⟨y, y1, y2, y3, y4⟩ := fin fun h => absurd h h19
  refine ⟨y, y1, y2, ⟨rfl, pI ⟨rfl, rfl, rfl, rfl, rfl, by rw [y3]; rfl, trivial⟩, oH ⟨rfl, .inl ⟨rfl, y4⟩, trivial⟩⟩⟩
theorem Ux (xs : List (List RV)) (h : xs = (strsOf xs).map strR ∧ (strsOf xs).length ≤ 300 ∧ ∀ t ∈ strsOf xs, t.size ≤ 200) : FC Cx 110 [.r (.rs 1 xs)] [] (Bv (iY (strsOf xs))) [] := by
 have := Yk (strsOf xs) h.2.1 h.2.2
 rwa [pL h.1] at this
def qE (args : List AV) (K : AV → Prop) : Prop := match args with
 | [.r (.rs 1 xs)] => (xs = (strsOf xs).map strR ∧ (strsOf xs).length ≤ 300 ∧ ∀ t ∈ strsOf xs, t.size ≤ 200) ∧ K (Bv (iY (strsOf xs)))
 | _ => False
noncomputable abbrev Ol : Ct Cx := .pure 110 qE fun args K h => by
 unfold qE at h; split at h; exact ⟨_, aA (Ux _ h.1) aU6 rfl rfl, h.2⟩; exact h.elim
@[go_sem] theorem aCn : type_of% @qE.eq_def := @qE.eq_def
theorem Mm (l : List (Int × Int)) (f : Nat) (caps : List RV) (dom : AV → Prop) (pv : AV → Bool) (h : ∀ y, dom y → aQ Cx f (y :: caps.map AV.r) (Bv (pv y))) (hd : ∀ x ∈ l, dom (valA x)) (hl : l.length ≤ 9223372036854775807) :
  FC Cx 165 [aT l, .r (.fn f caps)] [] (Iv (fidx (fun x => pv (valA x)) l)) [] := by
 have hlen : (l.map valR).length = l.length := List.length_map ..
 refine aD [ctF f caps dom pv h] Tryz.func165 Tryz.ntmps165 Tryz.results165 ?_
 (any_goals refine go Sq 0 ?_)
 refine eB [0, 1, 7, 8] (fun i => i ≤ l.length ∧ ∀ j x, j < i → l[j]? = some x → pv (valA x) = false) (fun (i : Nat) => ⟨19, [(0, aT l), (1, .r (.fn f caps)), (7, Iv l.length), (8, Iv i)], []⟩) (fun i => l.length - i) 0 rfl (by rw [← hlen]; rfl) rfl ⟨Nat.zero_le _, fun j x hj => by omega⟩ ?_
 rintro i ⟨hi, hno⟩
 by_cases hlt : i < l.length
 ·obtain ⟨x, hx⟩ : ∃ x, l[i]? = some x := ⟨l[i], List.getElem?_eq_getElem hlt⟩
  have hg := aE valR hx ([] : List RV)
  have hdx := hd x (List.mem_of_getElem? hx)
  have hw : IntKind.i64.wrap ((i : Int) + 1) = ((i + 1 : Nat) : Int) := by rw [aN] <;> omega
  have h1 : decide ((i : Int) < (l.length : Int)) = true := by rw [decide_eq_true_eq]; omega
  have h2 : Int.toNat (i : Int) = i := by omega
  cases hp : pv (valA x) with
  | true =>
   (any_goals refine go Sq 0 ?_)
   all_goals (try simp only [go_sem])
   rw [jH hx hp fun j y hj hy => hno j y hj hy]
  | false =>
   (any_goals refine go Sq 0 ?_)
   refine ⟨i + 1, ⟨by omega, fun j y hj hy => ?_⟩, by omega, fI [0, 1, 7, 8] rfl rfl rfl⟩
   rcases Nat.lt_succ_iff_lt_or_eq.1 hj with h3 | h3
   ·exact hno j y h3 hy
   ·subst h3; rw [hx] at hy; cases hy; exact hp
 ·have h1 : decide ((i : Int) < (l.length : Int)) = false := by rw [decide_eq_false_iff_not]; omega
  (any_goals refine go Sq 0 ?_)
  all_goals (try simp only [go_sem])
  rw [gR fun j y hy => hno j y (by have := (List.getElem?_eq_some_iff.1 hy).1; omega) hy]
theorem Pc (l : List (Int × Int)) (f : Nat) (caps : List RV) (dom : AV → Prop) (pv : AV → Bool) (h : ∀ y, dom y → aQ Cx f (y :: caps.map AV.r) (Bv (pv y))) (hd : ∀ x ∈ l, dom (valA x)) (hl : l.length ≤ 9223372036854775807) :
  FC Cx 111 [aT l, .r (.fn f caps)] [] (Bv (l.any fun x => pv (valA x))) [] := by
 have hA : ∀ y, y = [aT l, .r (.fn f caps)] → aQ Cx 165 y (Iv (fidx (fun x => pv (valA x)) l)) := fun y hy => by
  subst hy; exact aA (Mm l f caps dom pv h hd hl) aQ6 rfl rfl
 refine aD [ctE 165 [aT l, .r (.fn f caps)] (Iv (fidx (fun x => pv (valA x)) l)) hA] Tryz.func111 Tryz.ntmps111 Tryz.results111 ?_
 (any_goals refine go aSs 0 ?_)
 all_goals (try simp only [go_sem])
 all_goals (try rw [iN])
theorem Uu (l : List EndT) (f : Nat) (caps : List RV) (dom : AV → Prop) (pv : AV → Bool) (h : ∀ y, dom y → aQ Cx f (y :: caps.map AV.r) (Bv (pv y))) (hd : ∀ x ∈ l, dom (endA x)) (hl : l.length ≤ 9223372036854775807) :
  FC Cx 173 [eY l, .r (.fn f caps)] [] (Iv (fidx (fun x => pv (endA x)) l)) [] := by
 have hlen : (l.map endR).length = l.length := List.length_map ..
 refine aD [ctF f caps dom pv h] Tryz.func173 Tryz.ntmps173 Tryz.results173 ?_
 (any_goals refine go Qb 0 ?_)
 refine eB [0, 1, 7, 8] (fun i => i ≤ l.length ∧ ∀ j x, j < i → l[j]? = some x → pv (endA x) = false) (fun (i : Nat) => ⟨19, [(0, eY l), (1, .r (.fn f caps)), (7, Iv l.length), (8, Iv i)], []⟩) (fun i => l.length - i) 0 rfl (by rw [← hlen]; rfl) rfl ⟨Nat.zero_le _, fun j x hj => by omega⟩ ?_
 rintro i ⟨hi, hno⟩
 by_cases hlt : i < l.length
 ·obtain ⟨x, hx⟩ : ∃ x, l[i]? = some x := ⟨l[i], List.getElem?_eq_getElem hlt⟩
  have hg := aE endR hx ([] : List RV)
  have hdx := hd x (List.mem_of_getElem? hx)
  have hw : IntKind.i64.wrap ((i : Int) + 1) = ((i + 1 : Nat) : Int) := by rw [aN] <;> omega
  have h1 : decide ((i : Int) < (l.length : Int)) = true := by rw [decide_eq_true_eq]; omega
  have h2 : Int.toNat (i : Int) = i := by omega
  cases hp : pv (endA x) with
  | true =>
   (any_goals refine go Qb 0 ?_)
   all_goals (try simp only [go_sem])
   rw [jH hx hp fun j y hj hy => hno j y hj hy]
  | false =>
   (any_goals refine go Qb 0 ?_)
   refine ⟨i + 1, ⟨by omega, fun j y hj hy => ?_⟩, by omega, fI [0, 1, 7, 8] rfl rfl rfl⟩
   rcases Nat.lt_succ_iff_lt_or_eq.1 hj with h3 | h3
   ·exact hno j y h3 hy
   ·subst h3; rw [hx] at hy; cases hy; exact hp
 ·have h1 : decide ((i : Int) < (l.length : Int)) = false := by rw [decide_eq_false_iff_not]; omega
  (any_goals refine go Qb 0 ?_)
  all_goals (try simp only [go_sem])
  rw [gR fun j y hy => hno j y (by have := (List.getElem?_eq_some_iff.1 hy).1; omega) hy]
theorem Wm (l : List EndT) (f : Nat) (caps : List RV) (dom : AV → Prop) (pv : AV → Bool) (h : ∀ y, dom y → aQ Cx f (y :: caps.map AV.r) (Bv (pv y))) (hd : ∀ x ∈ l, dom (endA x)) (hl : l.length ≤ 9223372036854775807) :
  FC Cx 118 [eY l, .r (.fn f caps)] [] (Bv (l.any fun x => pv (endA x))) [] := by
 have hA : ∀ y, y = [eY l, .r (.fn f caps)] → aQ Cx 173 y (Iv (fidx (fun x => pv (endA x)) l)) := fun y hy => by
  subst hy; exact aA (Uu l f caps dom pv h hd hl) aUy rfl rfl
 refine aD [ctE 173 [eY l, .r (.fn f caps)] (Iv (fidx (fun x => pv (endA x)) l)) hA] Tryz.func118 Tryz.ntmps118 Tryz.results118 ?_
 (any_goals refine go aVd 0 ?_)
 all_goals (try simp only [go_sem])
 all_goals (try rw [iN])
def endV : AV → EndT
 | .agg [.r (.v (.int _ a)), .r (.v (.int _ b)), .r (.v (.int _ c))] => ⟨a, (b, c)⟩
 | _ => ⟨0, (0, 0)⟩
def badE (s : aC) (e : EndT) : Bool := !decide (0 ≤ e.cell ∧ e.cell ≤ (s.cells.length : Int) - 1) || !isF' s e.fn 4
def badS (s : aC) (v : Int × Int) : Bool := !decide (v.1 = 4) || !fitsF s v
noncomputable def dE (s : aC) : Int :=
 if kV s = true then 2 else if Sh.checkF s.shapes ≠ 0 then Sh.checkF s.shapes else
 if (!iY s.texts || (s.shapes.any fun x => decide ((s.texts.length : Int) ≤ x.2)) || (s.cells.any fun c => !eO s c)) = true then 3 else
 if s.said.any (badS s) = true then 3 else if s.ends.any (badE s) = true then 3 else 0
theorem aG1 (s : aC) (a b : Int) : FC Cx 112 [VV a b, .r (.rp (cN s))] [] (Bv (decide ((s.texts.length : Int) ≤ b))) [] := by
 have l1 : (s.texts.map strR).length = s.texts.length := List.length_map ..
 refine aD [] Tryz.func112 Tryz.ntmps112 Tryz.results112 ?_
 refine goR ?_
 refine fzB 2 ?_
 (any_goals refine go aRm 0 ?_)
 all_goals (try simp only [go_sem])
theorem aHm (s : aC) (c : bJ) (hs : Swf s) (hc : Cwf c) (h6 : c.vals.length ≤ 600) : FC Cx 114 [gL c, bT s] [] (Bv (!eO s c)) [] := by
 refine aD [Yc] Tryz.func114 Tryz.ntmps114 Tryz.results114 ?_
 refine goR ?_
 refine fzB 2 ?_
 (any_goals refine go aXg 0 ?_)
 all_goals (try simp only [go_sem])
theorem aE4 (s : aC) (k n : Int) : FC Cx 116 [VV k n, bT s] [] (Bv (badS s (k, n))) [] := by
 unfold badS
 refine aD [nJ] Tryz.func116 Tryz.ntmps116 Tryz.results116 ?_
 refine goR ?_
 refine fzB 2 ?_
 (any_goals refine go aTa 0 ?_)
 repeat' (first | (refine Br.go (fun h h' => ?_) (fun h h' => ?_)) | (refine Br.mk (fun h => ?_) (fun h => ?_)))
 all_goals (try simp only [go_sem])
 all_goals (simp_all; done)
theorem aGa (s : aC) (e : EndT) (hs : s.cells.length ≤ 300) : FC Cx 119 [endA e, bT s] [] (Bv (badE s e)) [] := by
 have l1 : (s.cells.map aW).length = s.cells.length := List.length_map ..
 have w1 : IntKind.i64.wrap ((s.cells.length : Int) - 1) = (s.cells.length : Int) - 1 := by rw [aN] <;> omega
 unfold badE
 cases hb : decide (0 ≤ e.cell ∧ e.cell ≤ (s.cells.length : Int) - 1)
 all_goals
  refine aD [uE, Zb] Tryz.func119 Tryz.ntmps119 Tryz.results119 ?_
  refine goR ?_
  refine fzB 2 ?_
  (any_goals refine go aTt 0 ?_)
  all_goals (try simp only [go_sem])
structure Sok (s : aC) : Prop where
 cells : s.cells.length ≤ 300
 texts : s.texts.length ≤ 300
 said : s.said.length ≤ 200
 ends : s.ends.length ≤ 100
 bytes : ∀ t ∈ s.texts, t.size ≤ 200
 vals : ∀ c ∈ s.cells, c.vals.length ≤ 600
theorem Db {s : aC} (h : kV s = false) : Sok s := by
 simp only [kV, Bool.or_eq_false_iff, decide_eq_false_iff_not] at h
 obtain ⟨⟨⟨⟨⟨h1, h2⟩, h3⟩, h4⟩, h5⟩, h6⟩ := h
 refine ⟨by omega, by omega, by omega, by omega, fun t ht => ?_, fun c hc => ?_⟩
 ·have := List.any_eq_false.1 h5 t ht
  simp [bigS] at this; omega
 ·have := List.any_eq_false.1 h6 c hc
  simp [bigC] at this; omega
theorem aB4 (s : aC) (hs : Swf s) : FC Cx 57 [aH s] [] (Iv (dE s)) [] := by
 have hl := hs.len
 have hw := hs.shapes
 unfold dE
 cases hL : kV s with
 | true =>
  rw [if_pos rfl]
  refine aD [uJ] Tryz.func57 Tryz.ntmps57 Tryz.results57 ?_
  refine goR ?_
  refine fzB 1 ?_
  (any_goals refine go lv57 0 ?_)
  all_goals (try simp only [go_sem])
 | false =>
 rw [if_neg (by simp)]
 have ok := Db hL
 by_cases hsh : Sh.checkF s.shapes = 0
 case neg =>
  rw [if_pos hsh]
  have d0 : decide (Sh.checkF s.shapes = 0) = false := by simpa using hsh
  refine aD [uJ, Sh.ct_check'] Tryz.func57 Tryz.ntmps57 Tryz.results57 ?_
  refine goR ?_
  refine fzB 1 ?_
  (any_goals refine go lv57 0 ?_)
  all_goals (try simp only [go_sem])
 rw [if_neg (by simpa using hsh)]
 have d0 : decide (Sh.checkF s.shapes = 0) = true := by simpa using hsh
 have ot := ok.texts
 have ob := ok.bytes
 have hA : ∀ y, y = [aT s.shapes, .r (.fn 112 [.rp (cN s)])] → aQ Cx 111 y (Bv (s.shapes.any fun x => decide ((s.texts.length : Int) ≤ x.2))) := fun y hy => by
  subst hy
  have h := Pc s.shapes 112 [.rp (cN s)] (fun y => ∃ v, y = valA v) (fun y => decide ((s.texts.length : Int) ≤ (valV y).2)) (by
   rintro _ ⟨v, rfl⟩
   exact aA (aG1 s v.1 v.2) aVa rfl rfl) (fun x _ => ⟨x, rfl⟩) hl.shapes
  exact aA h aRj rfl rfl
 have hB : ∀ y, y = [dO s.cells, .r (.fn 114 [.rp (cN s)])] → aQ Cx 113 y (Bv (s.cells.any fun c => !eO s c)) := fun y hy => by
  subst hy
  have h := yE s.cells 114 [.rp (cN s)] (fun y => ∃ c, (Cwf c ∧ c.vals.length ≤ 600) ∧ y = gL c) (fun y => !eO s (Qp y)) (by
   rintro _ ⟨c, ⟨h1, h2⟩, rfl⟩
   rw [tK]
   exact aA (aHm s c hs h1 h2) aSm rfl rfl) (fun x hx => ⟨x, ⟨hs.cell x hx, ok.vals x hx⟩, rfl⟩) hl.cells
  simp only [tK] at h
  exact aA h Zs rfl rfl
 have hC : ∀ y, y = [aT s.said, .r (.fn 116 [.rp (cN s)])] → aQ Cx 102 y (Bv (s.said.any (badS s))) := fun y hy => by
  subst hy
  have h := rX s.said 116 [.rp (cN s)] (fun y => ∃ v, y = valA v) (fun y => badS s (valV y)) (by
   rintro _ ⟨v, rfl⟩
   exact aA (aE4 s v.1 v.2) aS9 rfl rfl) (fun x _ => ⟨x, rfl⟩) hl.said
  exact aA h Lw rfl rfl
 have hE : ∀ y, y = [eY s.ends, .r (.fn 119 [.rp (cN s)])] → aQ Cx 118 y (Bv (s.ends.any (badE s))) := fun y hy => by
  subst hy
  have h := Wm s.ends 119 [.rp (cN s)] (fun y => ∃ v, y = endA v) (fun y => badE s (endV y)) (by
   rintro _ ⟨v, rfl⟩
   exact aA (aGa s v ok.cells) aVi rfl rfl) (fun x _ => ⟨x, rfl⟩) hl.ends
  exact aA h aU5 rfl rfl
 generalize hb1 : iY s.texts = b1 at *
 generalize (s.shapes.any fun x => decide ((s.texts.length : Int) ≤ x.2)) = b2 at *
 generalize (s.cells.any fun c => !eO s c) = b3 at *
 generalize s.said.any (badS s) = b4 at *
 generalize s.ends.any (badE s) = b5 at *
 refine aD [uJ, Sh.ct_check', Ol, ctE 111 [aT s.shapes, .r (.fn 112 [.rp (cN s)])] (Bv b2) hA, ctE 113 [dO s.cells, .r (.fn 114 [.rp (cN s)])] (Bv b3) hB, ctE 102 [aT s.said, .r (.fn 116 [.rp (cN s)])] (Bv b4) hC, ctE 118 [eY s.ends, .r (.fn 119 [.rp (cN s)])] (Bv b5) hE] Tryz.func57 Tryz.ntmps57 Tryz.results57 ?_
 refine goR ?_
 refine fzB 1 ?_
 (any_goals refine go lv57 0 ?_)
 repeat' (first | (refine Br.go (fun h h' => ?_) (fun h h' => ?_)) | (refine Br.mk (fun h => ?_) (fun h => ?_)))
 all_goals (try simp only [go_sem])
 all_goals (clear hA hB hC hE; simp_all; done)
theorem Tm (ca sh tx th en sd : List (List RV)) (aq sq : Int) (h : (ca = (cellsOf ca).map aW ∧ sh = (valsOf sh).map valR ∧ tx = (strsOf tx).map strR ∧ th = (threadsOf th).map aJ ∧ en = (aG en).map endR ∧ sd = (valsOf sd).map valR) ∧ Swf ⟨cellsOf ca, valsOf sh, strsOf tx, threadsOf th, aG en, valsOf sd, aq, sq⟩) : FC Cx 57 [.agg [.r (.rs 4 ca), .r (.rs 2 sh), .r (.rs 1 tx), .r (.rs 5 th), .r (.rs 3 en), .r (.rs 2 sd), Iv aq, Iv sq]] [] (Iv (dE ⟨cellsOf ca, valsOf sh, strsOf tx, threadsOf th, aG en, valsOf sd, aq, sq⟩)) [] := by
 have := aB4 ⟨cellsOf ca, valsOf sh, strsOf tx, threadsOf th, aG en, valsOf sd, aq, sq⟩ h.2
 rwa [iJ _ _ _ _ _ _ _ _ h.1] at this
def rB (args : List AV) (K : AV → Prop) : Prop := match args with
 | [.agg [.r (.rs 4 ca), .r (.rs 2 sh), .r (.rs 1 tx), .r (.rs 5 th), .r (.rs 3 en), .r (.rs 2 sd), .r (.v (.int .i64 aq)), .r (.v (.int .i64 sq))]] => ((ca = (cellsOf ca).map aW ∧ sh = (valsOf sh).map valR ∧ tx = (strsOf tx).map strR ∧ th = (threadsOf th).map aJ ∧ en = (aG en).map endR ∧ sd = (valsOf sd).map valR) ∧ Swf ⟨cellsOf ca, valsOf sh, strsOf tx, threadsOf th, aG en, valsOf sd, aq, sq⟩) ∧ K (Iv (dE ⟨cellsOf ca, valsOf sh, strsOf tx, threadsOf th, aG en, valsOf sd, aq, sq⟩))
 | _ => False
noncomputable abbrev Bx : Ct Cx := .pure 57 rB fun args K h => by
 unfold rB at h; split at h; exact ⟨_, aA (Tm _ _ _ _ _ _ _ _ h.1) en57 rfl rfl, h.2⟩; exact h.elim
@[go_sem] theorem aDg : type_of% @rB.eq_def := @rB.eq_def
@[go_sem] theorem Wz {α : Type} (n : Nat) (st : St) (g : α → RV) : ∀ (l : List α) (K : List Loc → List (List RV) → Prop), nS (gB n st) (l.map fun x => [AV.r (g x)]) K = K [] (l.map fun x => [g x])
 | [], K => rfl
 | x :: l, K => by
  cases n <;> (simp only [List.map_cons, nS, oM, gB]; rw [Wz _ st g l]; rfl)
abbrev outR (f : FnT) : RV := .rs 1 ((bN f).out.map trsR)
abbrev jZ (f : FnT) : RV := .rs 1 ((bN f).seen.map Ew)
abbrev outC (f : FnT) : List AV := [.r (outR f)]
abbrev Ss (f : FnT) : List AV := [.r (jZ f)]
theorem aQ3 (p : aI) (hl : p.fns.length ≤ 60) (hc : ∀ f ∈ p.fns, Cok f) : FC Cx 60 [bC p] [] (.tup [.r (.rs 1 (p.fns.map fun f => [outR f])), .r (.rs 1 (p.fns.map fun f => [jZ f]))]) [] := by
 have l1 : (p.fns.map fnR).length = p.fns.length := List.length_map ..
 refine fE [uZ] Tryz.func60 rfl Tryz.ntmps60 (by simp) Tryz.results60 rfl ?_
 refine rnst ?_
 refine goR ?_
 refine fzB 1 ?_
 (any_goals refine go lv60 0 ?_)
 (apply kR 4 1004 160 1; (exact rfl); (exact rfl); (intro K0; (try simp only [go_sem]); exact ⟨id⟩))
 (apply kR 5 1005 147 1; (exact rfl); (exact rfl); (intro K0; (try simp only [go_sem]); exact ⟨id⟩))
 refine bY (fun x : Nat × Nat => x.1 ≤ p.fns.length) (fun x => ⟨35, [(4, .os 1004 (1 + x.1)), (5, .os 1005 (1 + x.1)), (12, fnsV p.fns), (13, Iv p.fns.length), (14, Iv x.1)], [(1, 2, .gone), (1004, 1 + x.1, .sl 160 1 ((p.fns.take x.1).map outC)), (1005, 1 + x.1, .sl 147 1 ((p.fns.take x.1).map Ss)), (7, x.2, .gone), (26, x.2, .gone), (30, x.2, .gone)]⟩) (fun x => p.fns.length - x.1) (0, 0) (Nat.zero_le _) ?_
 rintro ⟨i, u⟩ hi
 dsimp only at hi ⊢
 by_cases hlt : i < p.fns.length
 case neg =>
  obtain rfl : i = p.fns.length := by omega
  have e1 : decide ((p.fns.length : Int) < (p.fns.length : Int)) = false := by rw [decide_eq_false_iff_not]; omega
  rw [List.take_length]
  (any_goals refine go lv60 0 ?_)
  all_goals (try simp only [go_sem])
 have e1 : decide ((i : Int) < (p.fns.length : Int)) = true := by rw [decide_eq_true_eq]; omega
 have t1 : Int.toNat (i : Int) = i := by omega
 have w1 : IntKind.i64.wrap ((i : Int) + 1) = ((i + 1 : Nat) : Int) := by rw [aN] <;> omega
 obtain ⟨f, hf⟩ : ∃ v, p.fns[i]? = some v := ⟨p.fns[i], List.getElem?_eq_getElem hlt⟩
 have hg := aE fnR hf ([] : List RV)
 have hcf := hc f (List.mem_of_getElem? hf)
 have lt1 : ((p.fns.take i).map outC).length = i := by simp; omega
 have lt2 : ((p.fns.take i).map Ss).length = i := by simp; omega
 (any_goals refine go lv60 0 ?_)
 have hm1 : (p.fns.take (i + 1)).map outC = (p.fns.take i).map outC ++ [[Rz (bN f).out]] := by rw [List.take_add_one, hf]; simp
 have hm2 : (p.fns.take (i + 1)).map Ss = (p.fns.take i).map Ss ++ [[Hw (bN f).seen]] := by rw [List.take_add_one, hf]; simp
 refine ⟨(i + 1, u + 9), by dsimp only; omega, by dsimp only; omega, ?_⟩
 dsimp only
 rw [hm1, hm2]
 exact bF
theorem aNj (xs ys zs : List (List RV)) (h : (xs = (fnsOf xs).map fnR ∧ ys = (valsOf ys).map valR ∧ zs = (strsOf zs).map strR) ∧ (fnsOf xs).length ≤ 60 ∧ ∀ f ∈ fnsOf xs, Cok f) : FC Cx 60 [.agg [.r (.rs 5 xs), .r (.rs 2 ys), .r (.rs 1 zs)]] [] (.tup [.r (.rs 1 ((fnsOf xs).map fun f => [outR f])), .r (.rs 1 ((fnsOf xs).map fun f => [jZ f]))]) [] := by
 have := aQ3 ⟨fnsOf xs, valsOf ys, strsOf zs⟩ h.2.1 h.2.2
 rwa [kA h.1] at this
def zX (args : List AV) (K : AV → Prop) : Prop := match args with
 | [.agg [.r (.rs 5 xs), .r (.rs 2 ys), .r (.rs 1 zs)]] => ((xs = (fnsOf xs).map fnR ∧ ys = (valsOf ys).map valR ∧ zs = (strsOf zs).map strR) ∧ (fnsOf xs).length ≤ 60 ∧ ∀ f ∈ fnsOf xs, Cok f) ∧ K (.tup [.r (.rs 1 ((fnsOf xs).map fun f => [outR f])), .r (.rs 1 ((fnsOf xs).map fun f => [jZ f]))])
 | _ => False
noncomputable abbrev aGz : Ct Cx := .pure 60 zX fun args K h => by
 unfold zX at h; split at h; exact ⟨_, aA (aNj _ _ _ h.1) en60 rfl rfl, h.2⟩; exact h.elim
@[go_sem] theorem aLp : type_of% @zX.eq_def := @zX.eq_def
abbrev lkR (p : aI) (s : aC) : List RV := [.rs 5 (p.fns.map fnR), .rs 2 (p.consts.map valR), .rs 1 (p.texts.map strR), .rp (cN s), .rs 1 (p.fns.map fun f => [outR f]), .rs 1 (p.fns.map fun f => [jZ f]), .un]
abbrev lkP (p : aI) (s : aC) : AV := .r (.rp (lkR p s))
theorem aAe (xs ys zs ca sh tx th en sd tr wy : List (List RV)) (aq sq : Int) (h : ((xs = (fnsOf xs).map fnR ∧ ys = (valsOf ys).map valR ∧ zs = (strsOf zs).map strR) ∧ ca = (cellsOf ca).map aW ∧ sh = (valsOf sh).map valR ∧ tx = (strsOf tx).map strR ∧ th = (threadsOf th).map aJ ∧ en = (aG en).map endR ∧ sd = (valsOf sd).map valR) ∧ (tr = (fnsOf xs).map fun f => [outR f]) ∧ (wy = (fnsOf xs).map fun f => [jZ f])) : lkP ⟨fnsOf xs, valsOf ys, strsOf zs⟩ ⟨cellsOf ca, valsOf sh, strsOf tx, threadsOf th, aG en, valsOf sd, aq, sq⟩ = .r (.rp [.rs 5 xs, .rs 2 ys, .rs 1 zs, .rp [.rs 4 ca, .rs 2 sh, .rs 1 tx, .rs 5 th, .rs 3 en, .rs 2 sd, .v (.int .i64 aq), .v (.int .i64 sq)], .rs 1 tr, .rs 1 wy, .un]) := by
 obtain ⟨⟨⟨h1, h2, h3⟩, h4⟩, h5, h6⟩ := h
 show AV.r (.rp [.rs 5 ((fnsOf xs).map fnR), .rs 2 ((valsOf ys).map valR), .rs 1 ((strsOf zs).map strR), .rp (cN ⟨cellsOf ca, valsOf sh, strsOf tx, threadsOf th, aG en, valsOf sd, aq, sq⟩), .rs 1 ((fnsOf xs).map fun f => [outR f]), .rs 1 ((fnsOf xs).map fun f => [jZ f]), .un]) = _
 rw [yB _ _ _ _ _ _ _ _ h4, ← h1, ← h2, ← h3, ← h5, ← h6]
theorem Uz (n lo hi : Int) : FC Cx 123 [Iv n, Iv lo, Iv hi] [] (Bv (decide (lo ≤ n ∧ n ≤ hi))) [] := by
 refine aD [] Tryz.func123 Tryz.ntmps123 Tryz.results123 ?_
 (any_goals refine go aTs 0 ?_)
 all_goals (try simp only [go_sem])
 all_goals simp_all
 all_goals omega
def qT (args : List AV) (K : AV → Prop) : Prop := match args with
 | [.r (.v (.int .i64 n)), .r (.v (.int .i64 lo)), .r (.v (.int .i64 hi))] => K (Bv (decide (lo ≤ n ∧ n ≤ hi)))
 | _ => False
noncomputable abbrev eD : Ct Cx := .pure 123 qT fun args K h => by
 unfold qT at h; split at h; exact ⟨_, aA (Uz _ _ _) aUj rfl rfl, h⟩; exact h.elim
@[go_sem] theorem aDb : type_of% @qT.eq_def := @qT.eq_def
def refF (s : aC) (v : Int × Int) (q : Int) : Bool := decide (v.1 = 5) && decide (0 ≤ v.2) && decide (v.2 < (s.cells.length : Int)) && decide ((s.cells.getD v.2.toNat cZ).kind = q)
def Lc : AV := .agg [Iv 0, Iv 0, .r (.v (.slice none 0 0)), .r (.v (.slice none 0 0))]
def mD (s : aC) (v : Int × Int) (q : Int) : AV := bif refF s v q then gL (s.cells.getD v.2.toNat cZ) else Lc
theorem aGj (p : aI) (s : aC) (k n q : Int) : FC Cx 175 [lkP p s, VV k n, Iv q] [] (.tup [mD s (k, n) q, Bv (refF s (k, n) q)]) [] := by
 have l1 : (s.cells.map aW).length = s.cells.length := List.length_map ..
 cases hr : refF s (k, n) q with
 | true =>
  have hr' := hr
  unfold refF at hr'
  simp only [Bool.and_eq_true, decide_eq_true_eq] at hr'
  obtain ⟨⟨⟨rfl, h0⟩, h1⟩, h2⟩ := hr'
  obtain ⟨c, hc⟩ : ∃ c, s.cells[n.toNat]? = some c := ⟨s.cells[n.toNat]'(by omega), List.getElem?_eq_getElem _⟩
  have hg := aE aW hc ([] : List RV)
  rw [mE hc] at h2
  have d1 : decide (n < 0) = false := by rw [decide_eq_false_iff_not]; omega
  have d2 : decide ((s.cells.length : Int) ≤ n) = false := by rw [decide_eq_false_iff_not]; omega
  have d3 : decide (c.kind = q) = true := by simpa using h2
  have e : mD s (5, n) q = gL c := by unfold mD; rw [hr, mE hc]; rfl
  rw [e]
  clear h2
  refine aD [] Tryz.func175 Tryz.ntmps175 Tryz.results175 ?_
  refine goR ?_
  refine fzB 4 ?_
  (any_goals refine go Mr 0 ?_)
  all_goals (try simp only [go_sem])
 | false =>
  have e : mD s (k, n) q = Lc := by unfold mD; rw [hr]; rfl
  rw [e]
  unfold Lc
  by_cases k5 : k = 5
  case neg =>
   have d0 : decide (k = 5) = false := by simpa using k5
   refine aD [] Tryz.func175 Tryz.ntmps175 Tryz.results175 ?_
   refine goR ?_
   refine fzB 4 ?_
   (any_goals refine go Mr 0 ?_)
   all_goals (try simp only [go_sem])
  subst k5
  by_cases h0 : n < 0
  ·have d1 : decide (n < 0) = true := by simpa using h0
   refine aD [] Tryz.func175 Tryz.ntmps175 Tryz.results175 ?_
   refine goR ?_
   refine fzB 4 ?_
   (any_goals refine go Mr 0 ?_)
   all_goals (try simp only [go_sem])
  have d1 : decide (n < 0) = false := by simpa using h0
  by_cases h1 : (s.cells.length : Int) ≤ n
  ·have d2 : decide ((s.cells.length : Int) ≤ n) = true := by simpa using h1
   refine aD [] Tryz.func175 Tryz.ntmps175 Tryz.results175 ?_
   refine goR ?_
   refine fzB 4 ?_
   (any_goals refine go Mr 0 ?_)
   all_goals (try simp only [go_sem])
  have d2 : decide ((s.cells.length : Int) ≤ n) = false := by simpa using h1
  obtain ⟨c, hc⟩ : ∃ c, s.cells[n.toNat]? = some c := ⟨s.cells[n.toNat]'(by omega), List.getElem?_eq_getElem _⟩
  have hg := aE aW hc ([] : List RV)
  have d3 : decide (c.kind = q) = false := by
   unfold refF at hr
   rw [mE hc] at hr
   cases hd : decide (c.kind = q) with
   | false => rfl
   | true =>
    rw [hd] at hr
    simp at hr; omega
  refine aD [] Tryz.func175 Tryz.ntmps175 Tryz.results175 ?_
  refine goR ?_
  refine fzB 4 ?_
  (any_goals refine go Mr 0 ?_)
  all_goals (try simp only [go_sem])
theorem Lu (xs ys zs ca sh tx th en sd tr wy : List (List RV)) (aq sq : Int) (k n q : Int) (h : ((xs = (fnsOf xs).map fnR ∧ ys = (valsOf ys).map valR ∧ zs = (strsOf zs).map strR) ∧ ca = (cellsOf ca).map aW ∧ sh = (valsOf sh).map valR ∧ tx = (strsOf tx).map strR ∧ th = (threadsOf th).map aJ ∧ en = (aG en).map endR ∧ sd = (valsOf sd).map valR) ∧ (tr = (fnsOf xs).map fun f => [outR f]) ∧ (wy = (fnsOf xs).map fun f => [jZ f])) : FC Cx 175 [.r (.rp [.rs 5 xs, .rs 2 ys, .rs 1 zs, .rp [.rs 4 ca, .rs 2 sh, .rs 1 tx, .rs 5 th, .rs 3 en, .rs 2 sd, .v (.int .i64 aq), .v (.int .i64 sq)], .rs 1 tr, .rs 1 wy, .un]), VV k n, Iv q] [] (.tup [mD ⟨cellsOf ca, valsOf sh, strsOf tx, threadsOf th, aG en, valsOf sd, aq, sq⟩ (k, n) q, Bv (refF ⟨cellsOf ca, valsOf sh, strsOf tx, threadsOf th, aG en, valsOf sd, aq, sq⟩ (k, n) q)]) [] := by
 have := aGj ⟨fnsOf xs, valsOf ys, strsOf zs⟩ ⟨cellsOf ca, valsOf sh, strsOf tx, threadsOf th, aG en, valsOf sd, aq, sq⟩ k n q
 rwa [aAe _ _ _ _ _ _ _ _ _ _ _ _ _ h] at this
@[go_sem] theorem Ib (s : aC) (v : Int × Int) (q : Int) : bK bR (mD s v q) = true := by unfold mD; cases refF s v q <;> rfl
def sY (args : List AV) (K : AV → Prop) : Prop := match args with
 | [.r (.rp [.rs 5 xs, .rs 2 ys, .rs 1 zs, .rp [.rs 4 ca, .rs 2 sh, .rs 1 tx, .rs 5 th, .rs 3 en, .rs 2 sd, .v (.int .i64 aq), .v (.int .i64 sq)], .rs 1 tr, .rs 1 wy, .un]), .agg [.r (.v (.int .i64 k)), .r (.v (.int .i64 n))], .r (.v (.int .i64 q))] => (((xs = (fnsOf xs).map fnR ∧ ys = (valsOf ys).map valR ∧ zs = (strsOf zs).map strR) ∧ ca = (cellsOf ca).map aW ∧ sh = (valsOf sh).map valR ∧ tx = (strsOf tx).map strR ∧ th = (threadsOf th).map aJ ∧ en = (aG en).map endR ∧ sd = (valsOf sd).map valR) ∧ (tr = (fnsOf xs).map fun f => [outR f]) ∧ (wy = (fnsOf xs).map fun f => [jZ f])) ∧ K (.tup [mD ⟨cellsOf ca, valsOf sh, strsOf tx, threadsOf th, aG en, valsOf sd, aq, sq⟩ (k, n) q, Bv (refF ⟨cellsOf ca, valsOf sh, strsOf tx, threadsOf th, aG en, valsOf sd, aq, sq⟩ (k, n) q)])
 | _ => False
noncomputable abbrev kU : Ct Cx := .pure 175 sY fun args K h => by
 unfold sY at h; split at h; exact ⟨_, aA (Lu _ _ _ _ _ _ _ _ _ _ _ _ _ _ _ _ h.1) aIr rfl (by simp only [bK, aX, Ib]; rfl), h.2⟩; exact h.elim
@[go_sem] theorem aGs : type_of% @sY.eq_def := @sY.eq_def
structure Pgo (p : aI) : Prop where
 fns : p.fns.length ≤ 60
 cok : ∀ f ∈ p.fns, Cok f
 go : ∀ f ∈ p.fns, (bN f).bad = false
theorem Cg {p : aI} (hw : Pwf p) (h : checkF p = 0) : Pgo p := by
 have hL : nB p = false := by
  unfold checkF at h
  split at h
  ·cases h
  ·rename_i h1; simpa using h1
 exact ⟨(vC hw hL).fns, fun f hf => (vI hw h hf).2.2.1, fun f hf => (vI hw h hf).2.2.2⟩
def cU (p : aI) (s : aC) (f : aR) : Bool :=
 decide (0 ≤ f.fn ∧ f.fn ≤ (p.fns.length : Int) - 1) && refF s f.self 4 && decide ((s.cells.getD f.self.2.toNat cZ).num = f.fn) && decide ((f.regs.length : Int) = (p.fns.getD f.fn.toNat fn0).regs) &&
 decide (0 ≤ f.pc ∧ f.pc ≤ ((p.fns.getD f.fn.toNat fn0).code.length : Int) - 1) && (bN (p.fns.getD f.fn.toNat fn0)).seen.getD f.pc.toNat false &&
 decide (f.tries = (bN (p.fns.getD f.fn.toNat fn0)).out.getD f.pc.toNat []) && f.regs.all (fitsF s)
theorem aBv (p : aI) (s : aC) (k n : Int) : FC Cx 192 [VV k n, .r (.rp [.rp (lkR p s)])] [] (Bv (!fitsF s (k, n))) [] := by
 refine aD [gK] Tryz.func192 Tryz.ntmps192 Tryz.results192 ?_
 refine goR ?_
 refine fzB 2 ?_
 (any_goals refine go aVv 0 ?_)
 all_goals (try simp only [go_sem])
theorem aGe (p : aI) (s : aC) (f : aR) (hp : Pgo p) (hf : Gwf f) : FC Cx 189 [lkP p s, fD f] [] (Bv (cU p s f)) [] := by
 have l0 : (p.fns.map fnR).length = p.fns.length := List.length_map ..
 have l1 : (f.regs.map valR).length = f.regs.length := List.length_map ..
 have l2 : (p.fns.map fun f => [jZ f]).length = p.fns.length := List.length_map ..
 have l3 : (p.fns.map fun f => [outR f]).length = p.fns.length := List.length_map ..
 have h60 := hp.fns
 have w1 : IntKind.i64.wrap ((p.fns.length : Int) - 1) = (p.fns.length : Int) - 1 := by rw [aN] <;> omega
 have lt : (f.tries.map tryR).length = f.tries.length := List.length_map ..
 have ht := hf.tries
 have hA : ∀ y, y = [aT f.regs, .r (.fn 192 [.rp [.rp (lkR p s)]])] → aQ Cx 102 y (Bv (f.regs.any fun v => !fitsF s v)) := fun y hy => by
  subst hy
  have h := rX f.regs 192 [.rp [.rp (lkR p s)]] (fun y => ∃ v, y = valA v) (fun y => !fitsF s (valV y)) (by
   rintro _ ⟨v, rfl⟩
   exact aA (aBv p s v.1 v.2) aS4 rfl rfl) (fun x _ => ⟨x, rfl⟩) hf.regs
  exact aA h Lw rfl rfl
 have eF : cU p s f = (decide (0 ≤ f.fn ∧ f.fn ≤ (p.fns.length : Int) - 1) && refF s f.self 4 && decide ((s.cells.getD f.self.2.toNat cZ).num = f.fn) && decide ((f.regs.length : Int) = (p.fns.getD f.fn.toNat fn0).regs) &&
  decide (0 ≤ f.pc ∧ f.pc ≤ ((p.fns.getD f.fn.toNat fn0).code.length : Int) - 1) && (bN (p.fns.getD f.fn.toNat fn0)).seen.getD f.pc.toNat false &&
  decide (f.tries = (bN (p.fns.getD f.fn.toNat fn0)).out.getD f.pc.toNat []) && !(f.regs.any fun v => !fitsF s v)) := by unfold cU; rw [Ah f.regs]
 rw [eF]
 generalize hb4 : (f.regs.any fun v => !fitsF s v) = b4 at *
 obtain ⟨fn, pc, tov, gen, ⟨sk, sn⟩, regs, tries⟩ := f
 dsimp only at *
 cases hfn : decide (0 ≤ fn ∧ fn ≤ (p.fns.length : Int) - 1) with
 | false =>
  simp only [Bool.false_and]
  refine aD [eD, kU, fS, ctE 102 [aT regs, .r (.fn 192 [.rp [.rp (lkR p s)]])] (Bv b4) hA] Tryz.func189 Tryz.ntmps189 Tryz.results189 ?_
  refine goR ?_
  refine fzB 2 ?_
  refine fzB 3 ?_
  (any_goals refine go Bl 0 ?_)
  all_goals (try simp only [go_sem])
 | true =>
 have hfn' : 0 ≤ fn ∧ fn ≤ (p.fns.length : Int) - 1 := by simpa using hfn
 obtain ⟨F, hF⟩ : ∃ F, p.fns[fn.toNat]? = some F := ⟨p.fns[fn.toNat]'(by omega), List.getElem?_eq_getElem _⟩
 have gF := aE fnR hF ([] : List RV)
 have gS := aE (fun f => [jZ f]) hF ([] : List RV)
 have gO := aE (fun f => [outR f]) hF ([] : List RV)
 have eFn : p.fns.getD fn.toNat fn0 = F := by simp [List.getD, hF]
 rw [eFn]
 have hcok := hp.cok F (List.mem_of_getElem? hF)
 have iv := zS hcok
 have h600 := hcok.len
 have lc : (F.code.map insR).length = F.code.length := List.length_map ..
 have w2 : IntKind.i64.wrap ((F.code.length : Int) - 1) = (F.code.length : Int) - 1 := by rw [aN] <;> omega
 cases hre : refF s (sk, sn) 4 with
 | false =>
  have hX : mD s (sk, sn) 4 = Lc := by unfold mD; rw [hre]; rfl
  unfold Lc at hX
  simp only [Bool.and_false, Bool.false_and]
  refine aD [eD, kU, fS, ctE 102 [aT regs, .r (.fn 192 [.rp [.rp (lkR p s)]])] (Bv b4) hA] Tryz.func189 Tryz.ntmps189 Tryz.results189 ?_
  refine goR ?_
  refine fzB 2 ?_
  refine fzB 3 ?_
  (any_goals refine go Bl 0 ?_)
  all_goals (try simp only [go_sem])
 | true =>
 have hX : mD s (sk, sn) 4 = gL (s.cells.getD sn.toNat cZ) := by unfold mD; rw [hre]; rfl
 generalize s.cells.getD sn.toNat cZ = c at *
 cases hnum : decide (c.num = fn) with
 | false =>
  simp only [Bool.and_false, Bool.false_and]
  refine aD [eD, kU, fS, ctE 102 [aT regs, .r (.fn 192 [.rp [.rp (lkR p s)]])] (Bv b4) hA] Tryz.func189 Tryz.ntmps189 Tryz.results189 ?_
  refine goR ?_
  refine fzB 2 ?_
  refine fzB 3 ?_
  (any_goals refine go Bl 0 ?_)
  all_goals (try simp only [go_sem])
 | true =>
 cases hre2 : decide ((regs.length : Int) = F.regs) with
 | false =>
  simp only [Bool.and_false, Bool.false_and]
  refine aD [eD, kU, fS, ctE 102 [aT regs, .r (.fn 192 [.rp [.rp (lkR p s)]])] (Bv b4) hA] Tryz.func189 Tryz.ntmps189 Tryz.results189 ?_
  refine goR ?_
  refine fzB 2 ?_
  refine fzB 3 ?_
  (any_goals refine go Bl 0 ?_)
  all_goals (try simp only [go_sem])
 | true =>
 cases hpc : decide (0 ≤ pc ∧ pc ≤ (F.code.length : Int) - 1) with
 | false =>
  simp only [Bool.and_false, Bool.false_and]
  refine aD [eD, kU, fS, ctE 102 [aT regs, .r (.fn 192 [.rp [.rp (lkR p s)]])] (Bv b4) hA] Tryz.func189 Tryz.ntmps189 Tryz.results189 ?_
  refine goR ?_
  refine fzB 2 ?_
  refine fzB 3 ?_
  (any_goals refine go Bl 0 ?_)
  all_goals (try simp only [go_sem])
 | true =>
 have hpc' : 0 ≤ pc ∧ pc ≤ (F.code.length : Int) - 1 := by simpa using hpc
 have q1 : pc.toNat < (bN F).seen.length := by rw [iv.seen]; omega
 have q2 : pc.toNat < (bN F).out.length := by rw [iv.out]; omega
 have ls : ((bN F).seen.map Ew).length = F.code.length := by rw [List.length_map, iv.seen]
 have lo : ((bN F).out.map trsR).length = F.code.length := by rw [List.length_map, iv.out]
 obtain ⟨b, hbi⟩ : ∃ b, (bN F).seen[pc.toNat]? = some b := ⟨_, List.getElem?_eq_getElem q1⟩
 obtain ⟨o, hoi⟩ : ∃ b, (bN F).out[pc.toNat]? = some b := ⟨_, List.getElem?_eq_getElem q2⟩
 have gb := aE Ew hbi ([] : List RV)
 have go' := aE trsR hoi ([] : List RV)
 have eb : (bN F).seen.getD pc.toNat false = b := by simp [List.getD, hbi]
 have eo : (bN F).out.getD pc.toNat [] = o := by simp [List.getD, hoi]
 rw [eb, eo]
 cases b with
 | false =>
  simp only [Bool.and_false, Bool.false_and]
  refine aD [eD, kU, fS, ctE 102 [aT regs, .r (.fn 192 [.rp [.rp (lkR p s)]])] (Bv b4) hA] Tryz.func189 Tryz.ntmps189 Tryz.results189 ?_
  refine goR ?_
  refine fzB 2 ?_
  refine fzB 3 ?_
  (any_goals refine go Bl 0 ?_)
  all_goals (try simp only [go_sem])
 | true =>
  simp only [Bool.and_true, Bool.true_and]
  cases hto : decide (tries = o)
  all_goals
   refine aD [eD, kU, fS, ctE 102 [aT regs, .r (.fn 192 [.rp [.rp (lkR p s)]])] (Bv b4) hA] Tryz.func189 Tryz.ntmps189 Tryz.results189 ?_
   refine goR ?_
   refine fzB 2 ?_
   refine fzB 3 ?_
   (any_goals refine go Bl 0 ?_)
   all_goals (try simp only [go_sem])
theorem Xk (xs ys zs ca sh tx th en sd tr wy : List (List RV)) (aq sq : Int) (f1 f2 f3 f4 f5 f6 : Int) (us vs : List (List RV)) (h : (((xs = (fnsOf xs).map fnR ∧ ys = (valsOf ys).map valR ∧ zs = (strsOf zs).map strR) ∧ ca = (cellsOf ca).map aW ∧ sh = (valsOf sh).map valR ∧ tx = (strsOf tx).map strR ∧ th = (threadsOf th).map aJ ∧ en = (aG en).map endR ∧ sd = (valsOf sd).map valR) ∧ (tr = (fnsOf xs).map fun f => [outR f]) ∧ (wy = (fnsOf xs).map fun f => [jZ f])) ∧ (us = (valsOf us).map valR ∧ vs = (triesOf vs).map tryR) ∧ Pgo ⟨fnsOf xs, valsOf ys, strsOf zs⟩ ∧ Gwf ⟨f1, f2, f3, f4, (f5, f6), valsOf us, triesOf vs⟩) : FC Cx 189 [.r (.rp [.rs 5 xs, .rs 2 ys, .rs 1 zs, .rp [.rs 4 ca, .rs 2 sh, .rs 1 tx, .rs 5 th, .rs 3 en, .rs 2 sd, .v (.int .i64 aq), .v (.int .i64 sq)], .rs 1 tr, .rs 1 wy, .un]), .agg [Iv f1, Iv f2, Iv f3, Iv f4, Iv f5, Iv f6, .r (.rs 2 us), .r (.rs 2 vs)]] [] (Bv (cU ⟨fnsOf xs, valsOf ys, strsOf zs⟩ ⟨cellsOf ca, valsOf sh, strsOf tx, threadsOf th, aG en, valsOf sd, aq, sq⟩ ⟨f1, f2, f3, f4, (f5, f6), valsOf us, triesOf vs⟩)) [] := by
 have := aGe ⟨fnsOf xs, valsOf ys, strsOf zs⟩ ⟨cellsOf ca, valsOf sh, strsOf tx, threadsOf th, aG en, valsOf sd, aq, sq⟩ ⟨f1, f2, f3, f4, (f5, f6), valsOf us, triesOf vs⟩ h.2.2.1 h.2.2.2
 rwa [aAe _ _ _ _ _ _ _ _ _ _ _ _ _ h.1, show fD ⟨f1, f2, f3, f4, (f5, f6), valsOf us, triesOf vs⟩ = .agg [Iv f1, Iv f2, Iv f3, Iv f4, Iv f5, Iv f6, .r (.rs 2 us), .r (.rs 2 vs)] from by
  show AV.agg [Iv f1, Iv f2, Iv f3, Iv f4, Iv f5, Iv f6, aT (valsOf us), cM (triesOf vs)] = _
  rw [fM h.2.1.1, iP h.2.1.2]] at this
def sT (args : List AV) (K : AV → Prop) : Prop := match args with
 | [.r (.rp [.rs 5 xs, .rs 2 ys, .rs 1 zs, .rp [.rs 4 ca, .rs 2 sh, .rs 1 tx, .rs 5 th, .rs 3 en, .rs 2 sd, .v (.int .i64 aq), .v (.int .i64 sq)], .rs 1 tr, .rs 1 wy, .un]), .agg [.r (.v (.int .i64 f1)), .r (.v (.int .i64 f2)), .r (.v (.int .i64 f3)), .r (.v (.int .i64 f4)), .r (.v (.int .i64 f5)), .r (.v (.int .i64 f6)), .r (.rs 2 us), .r (.rs 2 vs)]] => ((((xs = (fnsOf xs).map fnR ∧ ys = (valsOf ys).map valR ∧ zs = (strsOf zs).map strR) ∧ ca = (cellsOf ca).map aW ∧ sh = (valsOf sh).map valR ∧ tx = (strsOf tx).map strR ∧ th = (threadsOf th).map aJ ∧ en = (aG en).map endR ∧ sd = (valsOf sd).map valR) ∧ (tr = (fnsOf xs).map fun f => [outR f]) ∧ (wy = (fnsOf xs).map fun f => [jZ f])) ∧ (us = (valsOf us).map valR ∧ vs = (triesOf vs).map tryR) ∧ Pgo ⟨fnsOf xs, valsOf ys, strsOf zs⟩ ∧ Gwf ⟨f1, f2, f3, f4, (f5, f6), valsOf us, triesOf vs⟩) ∧ K (Bv (cU ⟨fnsOf xs, valsOf ys, strsOf zs⟩ ⟨cellsOf ca, valsOf sh, strsOf tx, threadsOf th, aG en, valsOf sd, aq, sq⟩ ⟨f1, f2, f3, f4, (f5, f6), valsOf us, triesOf vs⟩))
 | _ => False
noncomputable abbrev tG : Ct Cx := .pure 189 sT fun args K h => by
 unfold sT at h; split at h; exact ⟨_, aA (Xk _ _ _ _ _ _ _ _ _ _ _ _ _ _ _ _ _ _ _ _ _ h.1) aXh rfl rfl, h.2⟩; exact h.elim
@[go_sem] theorem aEl : type_of% @sT.eq_def := @sT.eq_def
theorem jC {p : aI} {s : aC} {f : aR} (h : cU p s f = true) : (0 ≤ f.fn ∧ f.fn < (p.fns.length : Int)) ∧ 0 ≤ f.pc ∧ f.pc < ((p.fns.getD f.fn.toNat fn0).code.length : Int) := by
 unfold cU at h
 simp only [Bool.and_eq_true, decide_eq_true_eq] at h
 obtain ⟨⟨⟨⟨⟨⟨⟨h1, _⟩, _⟩, _⟩, h2⟩, _⟩, _⟩, _⟩ := h
 exact ⟨⟨h1.1, by omega⟩, h2.1, by omega⟩
def eU (p : aI) (s : aC) (f : aR) : Bool := cU p s f && decide (f.tov = -1) && decide (f.gen = -1) && (p.fns.getD f.fn.toNat fn0).gen && (decide (f.pc = 0) || decide (((p.fns.getD f.fn.toNat fn0).code.getD (f.pc - 1).toNat ins0).op = 32))
theorem aEa (p : aI) (s : aC) (f : aR) (hp : Pgo p) (hf : Gwf f) : FC Cx 174 [lkP p s, fD f] [] (Bv (eU p s f)) [] := by
 have l0 : (p.fns.map fnR).length = p.fns.length := List.length_map ..
 obtain ⟨fn, pc, tov, gen, ⟨sk, sn⟩, regs, tries⟩ := f
 cases hfr : cU p s ⟨fn, pc, tov, gen, (sk, sn), regs, tries⟩ with
 | false =>
  have e : eU p s ⟨fn, pc, tov, gen, (sk, sn), regs, tries⟩ = false := by unfold eU; rw [hfr]; rfl
  rw [e]
  refine aD [tG] Tryz.func174 Tryz.ntmps174 Tryz.results174 ?_
  refine goR ?_
  refine fzB 3 ?_
  (any_goals refine go Zv 0 ?_)
  all_goals (try simp only [go_sem])
 | true =>
  obtain ⟨⟨h1, h2⟩, h3, h4⟩ := jC hfr
  dsimp only at h1 h2 h3 h4
  obtain ⟨F, hF⟩ : ∃ F, p.fns[fn.toNat]? = some F := ⟨p.fns[fn.toNat]'(by omega), List.getElem?_eq_getElem _⟩
  have gF := aE fnR hF ([] : List RV)
  have gF2 : p.fns.getD fn.toNat fn0 = F := by simp [List.getD, hF]
  have lc : (F.code.map insR).length = F.code.length := List.length_map ..
  rw [gF2] at h4
  have e : eU p s ⟨fn, pc, tov, gen, (sk, sn), regs, tries⟩ = (decide (tov = -1) && decide (gen = -1) && F.gen && (decide (pc = 0) || decide ((F.code.getD (pc - 1).toNat ins0).op = 32))) := by
   unfold eU; rw [hfr, Bool.true_and]; dsimp only; rw [gF2]
  rw [e]
  clear gF2 e
  by_cases hp0 : pc = 0
  ·have d0 : decide (pc = 0) = true := by simpa using hp0
   clear hp0
   rw [d0]
   cases t1 : decide (tov = -1) <;> cases t2 : decide (gen = -1) <;> cases t3 : F.gen
   all_goals
    refine aD [tG] Tryz.func174 Tryz.ntmps174 Tryz.results174 ?_
    refine goR ?_
    refine fzB 3 ?_
    (any_goals refine go Zv 0 ?_)
    all_goals (try simp only [go_sem])
  ·have d0 : decide (pc = 0) = false := by simpa using hp0
   have w1 : IntKind.i64.wrap (pc - 1) = pc - 1 := by have := hp.fns; have := (hp.cok F (List.mem_of_getElem? hF)).len; rw [aN] <;> omega
   obtain ⟨I, hI⟩ : ∃ I, F.code[(pc - 1).toNat]? = some I := ⟨F.code[(pc - 1).toNat]'(by omega), List.getElem?_eq_getElem _⟩
   have gI := aE insR hI ([] : List RV)
   have gI2 : F.code.getD (pc - 1).toNat ins0 = I := by rw [List.getD_eq_getElem?_getD, hI]; rfl
   have hp1 : 1 ≤ pc := by omega
   rw [d0, gI2]
   clear gI2 hp0
   cases t1 : decide (tov = -1) <;> cases t2 : decide (gen = -1) <;> cases t3 : F.gen
   all_goals
    refine aD [tG] Tryz.func174 Tryz.ntmps174 Tryz.results174 ?_
    refine goR ?_
    refine fzB 3 ?_
    (any_goals refine go Zv 0 ?_)
    all_goals (try simp only [go_sem])
theorem Xb (xs ys zs ca sh tx th en sd tr wy : List (List RV)) (aq sq : Int) (f1 f2 f3 f4 f5 f6 : Int) (us vs : List (List RV)) (h : (((xs = (fnsOf xs).map fnR ∧ ys = (valsOf ys).map valR ∧ zs = (strsOf zs).map strR) ∧ ca = (cellsOf ca).map aW ∧ sh = (valsOf sh).map valR ∧ tx = (strsOf tx).map strR ∧ th = (threadsOf th).map aJ ∧ en = (aG en).map endR ∧ sd = (valsOf sd).map valR) ∧ (tr = (fnsOf xs).map fun f => [outR f]) ∧ (wy = (fnsOf xs).map fun f => [jZ f])) ∧ (us = (valsOf us).map valR ∧ vs = (triesOf vs).map tryR) ∧ Pgo ⟨fnsOf xs, valsOf ys, strsOf zs⟩ ∧ Gwf ⟨f1, f2, f3, f4, (f5, f6), valsOf us, triesOf vs⟩) : FC Cx 174 [.r (.rp [.rs 5 xs, .rs 2 ys, .rs 1 zs, .rp [.rs 4 ca, .rs 2 sh, .rs 1 tx, .rs 5 th, .rs 3 en, .rs 2 sd, .v (.int .i64 aq), .v (.int .i64 sq)], .rs 1 tr, .rs 1 wy, .un]), .agg [Iv f1, Iv f2, Iv f3, Iv f4, Iv f5, Iv f6, .r (.rs 2 us), .r (.rs 2 vs)]] [] (Bv (eU ⟨fnsOf xs, valsOf ys, strsOf zs⟩ ⟨cellsOf ca, valsOf sh, strsOf tx, threadsOf th, aG en, valsOf sd, aq, sq⟩ ⟨f1, f2, f3, f4, (f5, f6), valsOf us, triesOf vs⟩)) [] := by
 have := aEa ⟨fnsOf xs, valsOf ys, strsOf zs⟩ ⟨cellsOf ca, valsOf sh, strsOf tx, threadsOf th, aG en, valsOf sd, aq, sq⟩ ⟨f1, f2, f3, f4, (f5, f6), valsOf us, triesOf vs⟩ h.2.2.1 h.2.2.2
 rwa [aAe _ _ _ _ _ _ _ _ _ _ _ _ _ h.1, show fD ⟨f1, f2, f3, f4, (f5, f6), valsOf us, triesOf vs⟩ = .agg [Iv f1, Iv f2, Iv f3, Iv f4, Iv f5, Iv f6, .r (.rs 2 us), .r (.rs 2 vs)] from by
  show AV.agg [Iv f1, Iv f2, Iv f3, Iv f4, Iv f5, Iv f6, aT (valsOf us), cM (triesOf vs)] = _
  rw [fM h.2.1.1, iP h.2.1.2]] at this
def tC (args : List AV) (K : AV → Prop) : Prop := match args with
 | [.r (.rp [.rs 5 xs, .rs 2 ys, .rs 1 zs, .rp [.rs 4 ca, .rs 2 sh, .rs 1 tx, .rs 5 th, .rs 3 en, .rs 2 sd, .v (.int .i64 aq), .v (.int .i64 sq)], .rs 1 tr, .rs 1 wy, .un]), .agg [.r (.v (.int .i64 f1)), .r (.v (.int .i64 f2)), .r (.v (.int .i64 f3)), .r (.v (.int .i64 f4)), .r (.v (.int .i64 f5)), .r (.v (.int .i64 f6)), .r (.rs 2 us), .r (.rs 2 vs)]] => ((((xs = (fnsOf xs).map fnR ∧ ys = (valsOf ys).map valR ∧ zs = (strsOf zs).map strR) ∧ ca = (cellsOf ca).map aW ∧ sh = (valsOf sh).map valR ∧ tx = (strsOf tx).map strR ∧ th = (threadsOf th).map aJ ∧ en = (aG en).map endR ∧ sd = (valsOf sd).map valR) ∧ (tr = (fnsOf xs).map fun f => [outR f]) ∧ (wy = (fnsOf xs).map fun f => [jZ f])) ∧ (us = (valsOf us).map valR ∧ vs = (triesOf vs).map tryR) ∧ Pgo ⟨fnsOf xs, valsOf ys, strsOf zs⟩ ∧ Gwf ⟨f1, f2, f3, f4, (f5, f6), valsOf us, triesOf vs⟩) ∧ K (Bv (eU ⟨fnsOf xs, valsOf ys, strsOf zs⟩ ⟨cellsOf ca, valsOf sh, strsOf tx, threadsOf th, aG en, valsOf sd, aq, sq⟩ ⟨f1, f2, f3, f4, (f5, f6), valsOf us, triesOf vs⟩))
 | _ => False
noncomputable abbrev pJ : Ct Cx := .pure 174 tC fun args K h => by
 unfold tC at h; split at h; exact ⟨_, aA (Xb _ _ _ _ _ _ _ _ _ _ _ _ _ _ _ _ _ _ _ _ _ h.1) aUw rfl rfl, h.2⟩; exact h.elim
@[go_sem] theorem aEn : type_of% @tC.eq_def := @tC.eq_def
def dL (p : aI) (s : aC) (c : bJ) : Bool :=
 if c.kind = 4 then decide (c.num < (p.fns.length : Int)) && decide ((c.vals.length : Int) = ((p.fns.getD c.num.toNat fn0).caught.length : Int)) else if c.kind = 5 then !decide (c.num = 0) || eU p s (c.frames.getD 0 Ny) else true
theorem aK1 (p : aI) (s : aC) (c : bJ) (hp : Pgo p) (hc : Cwf c) (h4 : c.kind = 4 → 0 ≤ c.num) (h5 : c.kind = 5 → c.num = 0 → c.frames.length = 1) : FC Cx 125 [lkP p s, gL c] [] (Bv (dL p s c)) [] := by
 have l0 : (p.fns.map fnR).length = p.fns.length := List.length_map ..
 have lv : (c.vals.map valR).length = c.vals.length := List.length_map ..
 have lf : (c.frames.map bA).length = c.frames.length := List.length_map ..
 obtain ⟨kind, num, vals, frames⟩ := c
 dsimp only at *
 by_cases k4 : kind = 4
 ·subst k4
  have n0 := h4 rfl
  clear h4 h5
  have e : dL p s ⟨4, num, vals, frames⟩ = (decide (num < (p.fns.length : Int)) && decide ((vals.length : Int) = ((p.fns.getD num.toNat fn0).caught.length : Int))) := by unfold dL; rw [if_pos rfl]
  rw [e]
  clear e
  cases hl : decide (num < (p.fns.length : Int)) with
  | false =>
   refine aD [pJ] Tryz.func125 Tryz.ntmps125 Tryz.results125 ?_
   refine goR ?_
   refine fzB 3 ?_
   (any_goals refine go Jr 0 ?_)
   all_goals (try simp only [go_sem])
  | true =>
   have hl' : num < (p.fns.length : Int) := by simpa using hl
   obtain ⟨F, hF⟩ : ∃ F, p.fns[num.toNat]? = some F := ⟨p.fns[num.toNat]'(by omega), List.getElem?_eq_getElem _⟩
   have gF := aE fnR hF ([] : List RV)
   have gF2 : p.fns.getD num.toNat fn0 = F := by simp [List.getD, hF]
   have lc : (F.caught.map intR).length = F.caught.length := List.length_map ..
   rw [gF2]
   clear gF2
   refine aD [pJ] Tryz.func125 Tryz.ntmps125 Tryz.results125 ?_
   refine goR ?_
   refine fzB 3 ?_
   (any_goals refine go Jr 0 ?_)
   all_goals (try simp only [go_sem])
 have d4 : decide (kind = 4) = false := by simpa using k4
 by_cases k5 : kind = 5
 ·subst k5
  by_cases n0 : num = 0
  ·subst n0
   have hl := h5 rfl rfl
   clear h4 h5
   obtain ⟨f0, rfl⟩ : ∃ f0, frames = [f0] := by
    match frames, hl with
    | [f0], _ => exact ⟨f0, rfl⟩
   have hf0 := hc.frame f0 (List.mem_singleton.2 rfl)
   have e : dL p s ⟨5, 0, vals, [f0]⟩ = eU p s f0 := by unfold dL; rw [if_neg (show ¬ (5 : Int) = 4 from by decide), if_pos rfl]; rfl
   rw [e]
   clear e hc
   obtain ⟨fn, pc, tov, gen, ⟨sk, sn⟩, regs, tries⟩ := f0
   refine aD [pJ] Tryz.func125 Tryz.ntmps125 Tryz.results125 ?_
   refine goR ?_
   refine fzB 3 ?_
   (any_goals refine go Jr 0 ?_)
   all_goals (try simp only [go_sem])
  ·have dn : decide (num = 0) = false := by simpa using n0
   have e : dL p s ⟨5, num, vals, frames⟩ = true := by unfold dL; rw [if_neg (show ¬ (5 : Int) = 4 from by decide), if_pos rfl]; dsimp only; rw [dn]; rfl
   rw [e]
   clear e h4 h5
   refine aD [pJ] Tryz.func125 Tryz.ntmps125 Tryz.results125 ?_
   refine goR ?_
   refine fzB 3 ?_
   (any_goals refine go Jr 0 ?_)
   all_goals (try simp only [go_sem])
 have d5 : decide (kind = 5) = false := by simpa using k5
 have e : dL p s ⟨kind, num, vals, frames⟩ = true := by unfold dL; rw [if_neg k4, if_neg k5]
 rw [e]
 clear e h4 h5
 refine aD [pJ] Tryz.func125 Tryz.ntmps125 Tryz.results125 ?_
 refine goR ?_
 refine fzB 3 ?_
 (any_goals refine go Jr 0 ?_)
 all_goals (try simp only [go_sem])
def onF (p : aI) (s : aC) (low : Int) (f : aR) : Bool := cU p s f && decide (-1 ≤ f.tov ∧ f.tov ≤ low - 1) && ((p.fns.getD f.fn.toNat fn0).gen == decide (0 ≤ f.gen)) && !decide (f.gen < -1)
def jB (s : aC) (k : Nat) (f : aR) : Bool := !decide (k = 0) && refF s (5, f.gen) 5 && decide ((s.cells.getD f.gen.toNat cZ).num = 1)
noncomputable def stackG (p : aI) (s : aC) : Nat → Int → List aR → List Int → Bool × List Int
 | _, _, [], S => (true, S)
 | k, low, f :: fs, S =>
  if onF p s low f = true then
   if (p.fns.getD f.fn.toNat fn0).gen = true then
    if jB s k f = true ∧ f.gen ∉ S then stackG p s (k + 1) f.regs.length fs (f.gen :: S) else (false, S)
   else stackG p s (k + 1) f.regs.length fs S
  else (false, S)
def kN (fs : List aR) (i : Nat) : Int := if i = 0 then 0 else ((fs.getD (i - 1) Ny).regs.length : Int)
def wK (p : aI) (s : aC) (t : aP) : Bool :=
 (decide (t.state = 3 ∨ t.state = 4) == decide (t.frames.length = 0)) && (decide (t.state = 3 ∨ t.state = 4) || decide (t.val = (0, 0))) && fitsF s t.val && decide (0 ≤ t.state ∧ t.state ≤ 4) &&
 (if t.state = 1 then refF s (5, t.on) 6 else if t.state = 2 then decide (0 ≤ t.on ∧ t.on ≤ (s.threads.length : Int) - 1) else decide (t.on = 0))
noncomputable def threadG (p : aI) (s : aC) (t : aP) (S : List Int) : Bool × List Int := if wK p s t = true then stackG p s 0 0 t.frames S else (false, S)
noncomputable def threadsG (p : aI) (s : aC) : List aP → List Int → Bool × List Int
 | [], S => (true, S)
 | t :: ts, S => if (threadG p s t S).1 = true then threadsG p s ts (threadG p s t S).2 else (false, (threadG p s t S).2)
def oB (fs : List aR) : List Int := (fs.filter fun f => decide (0 ≤ f.gen)).map (·.gen)
def kW (p : aI) (s : aC) : Nat → Int → List aR → Prop
 | _, _, [] => True
 | k, low, f :: fs => (onF p s low f = true ∧ (0 ≤ f.gen → jB s k f = true)) ∧ kW p s (k + 1) f.regs.length fs
theorem Rh {p : aI} {s : aC} {low : Int} {f : aR} (h : onF p s low f = true) : (p.fns.getD f.fn.toNat fn0).gen = decide (0 ≤ f.gen) := by
 unfold onF at h
 simp only [Bool.and_eq_true, beq_iff_eq] at h
 exact h.1.2
theorem uO (p : aI) (s : aC) : ∀ (fs : List aR) (k : Nat) (low : Int) (S S' : List Int), S.Nodup → (stackG p s k low fs S = (true, S') ↔ kW p s k low fs ∧ S' = (oB fs).reverse ++ S ∧ S'.Nodup)
 | [], k, low, S, S', hS => by
  unfold stackG kW oB
  simp only [Prod.mk.injEq, true_and, List.filter_nil, List.map_nil, List.reverse_nil, List.nil_append]
  exact ⟨fun h => ⟨h.symm, h ▸ hS⟩, fun h => h.1.symm⟩
 | f :: fs, k, low, S, S', hS => by
  unfold stackG kW
  by_cases h1 : onF p s low f = true
  ·rw [if_pos h1, Rh h1]
   by_cases h2 : 0 ≤ f.gen
   ·rw [if_pos (by simpa using h2)]
    have eg : oB (f :: fs) = f.gen :: oB fs := by unfold oB; rw [List.filter_cons_of_pos (by simpa using h2), List.map_cons]
    rw [eg, List.reverse_cons, List.append_assoc, List.singleton_append]
    by_cases h3 : jB s k f = true ∧ f.gen ∉ S
    ·rw [if_pos h3, uO p s fs (k + 1) f.regs.length (f.gen :: S) S' (List.nodup_cons.2 ⟨h3.2, hS⟩)]
     exact ⟨fun h => ⟨⟨⟨h1, fun _ => h3.1⟩, h.1⟩, h.2⟩, fun h => ⟨h.1.2, h.2⟩⟩
    ·rw [if_neg h3]
     refine ⟨fun h => by simp at h, fun ⟨⟨⟨_, h5⟩, _⟩, h6, h7⟩ => absurd ⟨h5 h2, fun h8 => ?_⟩ h3⟩
     rw [h6] at h7
     have := (List.nodup_append.1 h7).2.1
     exact (List.nodup_cons.1 this).1 h8
   ·rw [if_neg (by simpa using h2)]
    have eg : oB (f :: fs) = oB fs := by unfold oB; rw [List.filter_cons_of_neg (by simpa using h2)]
    rw [eg, uO p s fs (k + 1) f.regs.length S S' hS]
    exact ⟨fun h => ⟨⟨⟨h1, fun h => absurd h h2⟩, h.1⟩, h.2⟩, fun h => ⟨h.1.2, h.2⟩⟩
  ·rw [if_neg h1]
   exact ⟨fun h => by simp at h, fun h => absurd h.1.1.1 h1⟩
theorem Fp {α : Type} {l : List α} : l.reverse.Nodup ↔ l.Nodup := by
 unfold List.Nodup
 rw [List.pairwise_reverse]
 exact ⟨fun h => h.imp fun h => h.symm, fun h => h.imp fun h => h.symm⟩
def rH (ts : List aP) : List Int := (ts.map fun t => oB t.frames).flatten
def jY (p : aI) (s : aC) (t : aP) : Prop := wK p s t = true ∧ kW p s 0 0 t.frames
theorem zE (p : aI) (s : aC) (t : aP) (S S' : List Int) (hS : S.Nodup) : threadG p s t S = (true, S') ↔ jY p s t ∧ S' = (oB t.frames).reverse ++ S ∧ S'.Nodup := by
 unfold threadG jY
 by_cases h : wK p s t = true
 ·rw [if_pos h, uO p s _ _ _ _ _ hS]
  exact ⟨fun h1 => ⟨⟨h, h1.1⟩, h1.2⟩, fun h1 => ⟨h1.1.2, h1.2⟩⟩
 ·rw [if_neg h]
  exact ⟨fun h1 => by simp at h1, fun h1 => absurd h1.1.1 h⟩
theorem mP (p : aI) (s : aC) : ∀ (ts : List aP) (S S' : List Int), S.Nodup → (threadsG p s ts S = (true, S') ↔ (∀ t ∈ ts, jY p s t) ∧ S' = (rH ts).reverse ++ S ∧ S'.Nodup)
 | [], S, S', hS => by
  unfold threadsG rH
  simp only [Prod.mk.injEq, true_and, List.map_nil, List.flatten_nil, List.reverse_nil, List.nil_append]
  exact ⟨fun h => ⟨(fun _ h1 => by simp at h1), h.symm, h ▸ hS⟩, fun h => h.2.1.symm⟩
 | t :: ts, S, S', hS => by
  have eg : rH (t :: ts) = oB t.frames ++ rH ts := rfl
  unfold threadsG
  rw [eg, List.reverse_append, List.append_assoc]
  by_cases h : (threadG p s t S).1 = true
  ·obtain ⟨h1, h2, h3⟩ := (zE p s t S (threadG p s t S).2 hS).1 (by rw [← h])
   rw [if_pos h, mP p s ts _ S' h3, h2]
   exact ⟨fun h4 => ⟨fun u hu => (List.mem_cons.1 hu).elim (fun e => e ▸ h1) (h4.1 u), h4.2⟩, fun h4 => ⟨fun u hu => h4.1 u (List.mem_cons_of_mem _ hu), h4.2⟩⟩
  ·rw [if_neg h]
   refine ⟨fun h1 => by simp at h1, fun ⟨h1, h2, h3⟩ => absurd ?_ h⟩
   rw [(zE p s t S _ hS).2 ⟨h1 t (List.mem_cons_self ..), rfl, ?_⟩]
   rw [h2] at h3
   exact (List.nodup_append.1 h3).2.1
theorem lF {p : aI} {s : aC} {ts : List aP} : (threadsG p s ts []).1 = true ↔ (∀ t ∈ ts, jY p s t) ∧ (rH ts).Nodup := by
 constructor
 ·intro h
  have := (mP p s ts [] (threadsG p s ts []).2 List.nodup_nil).1 (by rw [← h])
  refine ⟨this.1, ?_⟩
  have h2 := this.2.2
  rw [this.2.1, List.append_nil] at h2
  exact Fp.1 h2
 ·intro h
  rw [(mP p s ts [] _ List.nodup_nil).2 ⟨h.1, rfl, by rw [List.append_nil]; exact Fp.2 h.2⟩]
theorem mI {p : aI} {s : aC} {ts : List aP} (h : (threadsG p s ts []).1 = true) (g : Int) : g ∈ (threadsG p s ts []).2 ↔ g ∈ rH ts := by
 have := (mP p s ts [] (threadsG p s ts []).2 List.nodup_nil).1 (by rw [← h])
 rw [this.2.1, List.append_nil, List.mem_reverse]
noncomputable def uS (p : aI) (s : aC) : Bool :=
 decide (p.texts.length ≤ s.texts.length) && decide (s.texts.take p.texts.length = p.texts) && decide (0 ≤ s.steps ∧ s.steps ≤ 1000000000) && decide (0 ≤ s.asked ∧ s.asked ≤ 1000000000) && !decide (s.threads.length = 0) &&
 s.cells.all (dL p s) && (threadsG p s s.threads []).1 && (s.cells.zipIdx.all fun x => !(decide (x.1.kind = 5) && decide (x.1.num = 1)) || decide ((x.2 : Int) ∈ (threadsG p s s.threads []).2))
def yS (s : aC) : Bool := decide ((5 : Int) < (s.threads.length : Int)) || s.threads.any fun t => decide ((30 : Int) < (t.frames.length : Int))
noncomputable def eQ (p : aI) (s : aC) : Int :=
 if checkF p ≠ 0 then checkF p else if dE s ≠ 0 then dE s else if yS s = true then 2 else if uS p s = true then 0 else 3
structure Ha (p : aI) (s : aC) : Prop where
 prog : checkF p = 0
 heap : dE s = 0
 few : yS s = false
 texts : s.texts.take p.texts.length = p.texts
 steps : 0 ≤ s.steps ∧ s.steps ≤ 1000000000
 asked : 0 ≤ s.asked ∧ s.asked ≤ 1000000000
 any : s.threads.length ≠ 0
 cells : ∀ c ∈ s.cells, dL p s c = true
 threads : ∀ t ∈ s.threads, jY p s t
 gens : (rH s.threads).Nodup
 runs : ∀ (k : Nat) (c : bJ), s.cells[k]? = some c → c.kind = 5 → c.num = 1 → (k : Int) ∈ rH s.threads
theorem Bu {p : aI} {s : aC} : eQ p s = 0 ↔ Ha p s := by
 unfold eQ
 constructor
 ·intro h
  split at h
  ·rename_i h1; exact absurd h h1
  rename_i h1
  split at h
  ·rename_i h2; exact absurd h h2
  rename_i h2
  split at h
  ·cases h
  rename_i h3
  split at h
  ·rename_i h4
   unfold uS at h4
   simp only [Bool.and_eq_true, decide_eq_true_eq, Bool.not_eq_true', decide_eq_false_iff_not] at h4
   obtain ⟨⟨⟨⟨⟨⟨⟨_, a2⟩, a3⟩, a4⟩, a5⟩, a6⟩, a7⟩, a8⟩ := h4
   have a9 := lF.1 a7
   refine ⟨Classical.not_not.1 h1, Classical.not_not.1 h2, by simpa using h3, a2, a3, a4, a5, List.all_eq_true.1 a6, a9.1, a9.2, fun k c hk k5 n1 => ?_⟩
   have := List.all_eq_true.1 a8 (c, k) (by rw [List.mem_zipIdx_iff_getElem?]; exact hk)
   simp only [k5, n1, decide_true, Bool.and_true, Bool.not_true, Bool.false_or, decide_eq_true_eq] at this
   exact (mI a7 _).1 this
  ·cases h
 ·intro h
  have a7 : (threadsG p s s.threads []).1 = true := lF.2 ⟨h.threads, h.gens⟩
  rw [if_neg (fun h1 => h1 h.prog), if_neg (fun h1 => h1 h.heap), h.few, if_neg (by simp), if_pos]
  unfold uS
  simp only [Bool.and_eq_true, decide_eq_true_eq, Bool.not_eq_true', decide_eq_false_iff_not]
  refine ⟨⟨⟨⟨⟨⟨⟨?_, h.texts⟩, h.steps⟩, h.asked⟩, h.any⟩, List.all_eq_true.2 h.cells⟩, a7⟩, List.all_eq_true.2 fun x hx => ?_⟩
  ·have := congrArg List.length h.texts
   rw [List.length_take] at this; omega
  ·obtain ⟨c, k⟩ := x
   rw [List.mem_zipIdx_iff_getElem?] at hx
   dsimp only
   cases hb : decide (c.kind = 5) && decide (c.num = 1) with
   | false => rfl
   | true =>
    simp only [Bool.and_eq_true, decide_eq_true_eq] at hb
    simp only [Bool.not_true, Bool.false_or, decide_eq_true_eq]
    exact (mI a7 _).2 (h.runs k c hx hb.1 hb.2)
theorem FC.weak {C : Ctx} {f : Nat} {args : List AV} {rs0 rs1 : List (Nat × Nat × Res)} {r r' : AV} (h : FC C f args rs0 r rs1) (hw : ∀ (cur : Nat → Nat) (g : Gh) (w : World) (N : Nat → Prop) (v : Value), AR cur g w N r v → AR cur g w N r' v) : FC C f args rs0 r' rs1 :=
 ⟨fun e g w vs hok hs hvs => (h.run e g w vs hok hs hvs).mono fun _ _ ⟨v, g', h1, h2, h3, h4⟩ => ⟨v, g', h1, h2, hw _ _ _ _ _ h3, h4⟩⟩
inductive Lss : AV → AV → Prop
 | same (x : AV) : Lss x x
 | ln (sz : Nat) (rows : List (List RV)) : Lss (.r (.rs sz rows)) (.r (.ln rows.length))
 | nil : Lss NilS (.r (.ln 0))
 | agg (cs ds : List AV) (hn : ds.length = cs.length) (h : ∀ (j : Nat) (x y : AV), cs[j]? = some x → ds[j]? = some y → Lss x y) : Lss (.agg cs) (.agg ds)
 | tup (cs ds : List AV) (hn : ds.length = cs.length) (h : ∀ (j : Nat) (x y : AV), cs[j]? = some x → ds[j]? = some y → Lss x y) : Lss (.tup cs) (.tup ds)
theorem Lss.ok {x y : AV} (h : Lss x y) {cur : Nat → Nat} {g : Gh} {w : World} {N : Nat → Prop} : ∀ {v : Value}, AR cur g w N x v → AR cur g w N y v := by
 induction h with
 | same x => exact id
 | ln sz rows =>
  intro v hv
  cases hv with | r h => cases h with
   | nil => exact .r (.ln 0 none 0)
   | rs _ _ a cap => exact .r (.ln _ _ _)
 | nil => intro v hv; rw [cC hv]; exact .r (.ln 0 none 0)
 | agg cs ds hn _ ih =>
  intro v hv
  cases hv with
  | agg _ xs hs h =>
   refine .agg ds xs (by omega) fun j y u hy hu => ?_
   ·have hj := (List.getElem?_eq_some_iff.1 hy).1
    have hx : cs[j]? = some (cs[j]'(by omega)) := List.getElem?_eq_getElem (by omega)
    exact ih j _ y hx hy (h j _ u hx hu)
 | tup cs ds hn _ ih =>
  intro v hv
  cases hv with
  | tup _ xs hs h =>
   refine .tup ds xs (by omega) fun j y u hy hu => ?_
   ·have hj := (List.getElem?_eq_some_iff.1 hy).1
    have hx : cs[j]? = some (cs[j]'(by omega)) := List.getElem?_eq_getElem (by omega)
    exact ih j _ y hx hy (h j _ u hx hu)
abbrev Sb (c : bJ) : AV := .agg [Iv c.kind, Iv c.num, .r (.ln c.vals.length), .r (.ln c.frames.length)]
def Ay (s : aC) (v : Int × Int) (q : Int) : bJ := bif refF s v q then s.cells.getD v.2.toNat cZ else ⟨0, 0, [], []⟩
theorem aD9 (s : aC) (v : Int × Int) (q : Int) : Lss (mD s v q) (Sb (Ay s v q)) := by
 unfold mD Ay
 cases refF s v q
 all_goals
  refine .agg _ _ rfl fun j x y hx hy => ?_
  match j with
  | 0 => simp at hx hy; subst hx; subst hy; exact .same _
  | 1 => simp at hx hy; subst hx; subst hy; exact .same _
  | 2 => simp at hx hy; subst hx; subst hy; first | exact .nil | (have := Lss.ln 2 ((s.cells.getD v.2.toNat cZ).vals.map valR); rwa [List.length_map] at this)
  | 3 => simp at hx hy; subst hx; subst hy; first | exact .nil | (have := Lss.ln 8 ((s.cells.getD v.2.toNat cZ).frames.map bA); rwa [List.length_map] at this)
  | j + 4 => simp at hx
theorem Yy (xs ys zs ca sh tx th en sd tr wy : List (List RV)) (aq sq : Int) (k n q : Int) (h : ((xs = (fnsOf xs).map fnR ∧ ys = (valsOf ys).map valR ∧ zs = (strsOf zs).map strR) ∧ ca = (cellsOf ca).map aW ∧ sh = (valsOf sh).map valR ∧ tx = (strsOf tx).map strR ∧ th = (threadsOf th).map aJ ∧ en = (aG en).map endR ∧ sd = (valsOf sd).map valR) ∧ (tr = (fnsOf xs).map fun f => [outR f]) ∧ (wy = (fnsOf xs).map fun f => [jZ f])) : FC Cx 175 [.r (.rp [.rs 5 xs, .rs 2 ys, .rs 1 zs, .rp [.rs 4 ca, .rs 2 sh, .rs 1 tx, .rs 5 th, .rs 3 en, .rs 2 sd, .v (.int .i64 aq), .v (.int .i64 sq)], .rs 1 tr, .rs 1 wy, .un]), VV k n, Iv q] [] (.tup [Sb (Ay ⟨cellsOf ca, valsOf sh, strsOf tx, threadsOf th, aG en, valsOf sd, aq, sq⟩ (k, n) q), Bv (refF ⟨cellsOf ca, valsOf sh, strsOf tx, threadsOf th, aG en, valsOf sd, aq, sq⟩ (k, n) q)]) [] := by
 refine (Lu xs ys zs ca sh tx th en sd tr wy aq sq k n q h).weak fun cur g w N v hv => (Lss.tup [mD ⟨cellsOf ca, valsOf sh, strsOf tx, threadsOf th, aG en, valsOf sd, aq, sq⟩ (k, n) q, Bv (refF ⟨cellsOf ca, valsOf sh, strsOf tx, threadsOf th, aG en, valsOf sd, aq, sq⟩ (k, n) q)] [Sb (Ay ⟨cellsOf ca, valsOf sh, strsOf tx, threadsOf th, aG en, valsOf sd, aq, sq⟩ (k, n) q), Bv (refF ⟨cellsOf ca, valsOf sh, strsOf tx, threadsOf th, aG en, valsOf sd, aq, sq⟩ (k, n) q)] rfl fun j x y hx hy => ?_).ok hv
 match j with
 | 0 => simp at hx hy; subst hx; subst hy; exact aD9 _ _ _
 | 1 => simp at hx hy; subst hx; subst hy; exact .same _
 | j + 2 => simp at hx
def tO (args : List AV) (K : AV → Prop) : Prop := match args with
 | [.r (.rp [.rs 5 xs, .rs 2 ys, .rs 1 zs, .rp [.rs 4 ca, .rs 2 sh, .rs 1 tx, .rs 5 th, .rs 3 en, .rs 2 sd, .v (.int .i64 aq), .v (.int .i64 sq)], .rs 1 tr, .rs 1 wy, .un]), .agg [.r (.v (.int .i64 k)), .r (.v (.int .i64 n))], .r (.v (.int .i64 q))] => (((xs = (fnsOf xs).map fnR ∧ ys = (valsOf ys).map valR ∧ zs = (strsOf zs).map strR) ∧ ca = (cellsOf ca).map aW ∧ sh = (valsOf sh).map valR ∧ tx = (strsOf tx).map strR ∧ th = (threadsOf th).map aJ ∧ en = (aG en).map endR ∧ sd = (valsOf sd).map valR) ∧ (tr = (fnsOf xs).map fun f => [outR f]) ∧ (wy = (fnsOf xs).map fun f => [jZ f])) ∧ K (.tup [Sb (Ay ⟨cellsOf ca, valsOf sh, strsOf tx, threadsOf th, aG en, valsOf sd, aq, sq⟩ (k, n) q), Bv (refF ⟨cellsOf ca, valsOf sh, strsOf tx, threadsOf th, aG en, valsOf sd, aq, sq⟩ (k, n) q)])
 | _ => False
noncomputable abbrev Ek : Ct Cx := .pure 175 tO fun args K h => by
 unfold tO at h; split at h; exact ⟨_, aA (Yy _ _ _ _ _ _ _ _ _ _ _ _ _ _ _ _ h.1) aIr rfl rfl, h.2⟩; exact h.elim
@[go_sem] theorem aD1 : type_of% @tO.eq_def := @tO.eq_def
abbrev lkC (p : aI) (s : aC) : List AV := [.r (.rs 5 (p.fns.map fnR)), .r (.rs 2 (p.consts.map valR)), .r (.rs 1 (p.texts.map strR)), .r (.rp (cN s)), .r (.rs 1 (p.fns.map fun f => [outR f])), .r (.rs 1 (p.fns.map fun f => [jZ f])), .os 1 0]
noncomputable abbrev lkRs (p : aI) (s : aC) (S : List Int) : List (Nat × Nat × Res) := [(0, 0, .bx (lkC p s)), (1, 0, .mp (eP S) S.length)]
theorem aIa (p : aI) (s : aC) (S : List Int) (k : Nat) : bP (domR (lkRs p s S)) (aB k (lkRs p s S)).2 := by
 have e : aB k (lkRs p s S) = if k = 0 then (0, .bx (lkC p s)) else if k = 1 then (0, .mp (eP S) S.length) else (0, .gone) := rfl
 rw [e]
 split
 ·rfl
 ·split <;> trivial
theorem aFp (p : aI) (s : aC) (fs : List aR) (S : List Int) (hp : Pgo p) (hn : 0 < p.fns.length) (hfs : ∀ f ∈ fs, Gwf f) (hl : fs.length ≤ 9223372036854775807) (hS : ∀ g ∈ S, WI g) :
  FC Cx 176 [.os 0 0, bO fs] (lkRs p s S) (Bv (stackG p s 0 0 fs S).1) (lkRs p s (stackG p s 0 0 fs S).2) := by
 have l0 : (p.fns.map fnR).length = p.fns.length := List.length_map ..
 have l1 : (fs.map bA).length = fs.length := List.length_map ..
 refine iZ [tG, eD, Ek]  Tryz.func176 rfl Tryz.ntmps176 (by simp) Tryz.results176 rfl (aIa _ _ _) ?_
 refine rnst ?_
 (any_goals refine go jE 0 ?_)
 refine bY (fun x : Nat × List Int × Nat => x.1 ≤ fs.length ∧ (∀ g ∈ x.2.1, WI g) ∧ stackG p s 0 0 fs S = stackG p s x.1 (kN fs x.1) (fs.drop x.1) x.2.1) (fun x => ⟨108, [(0, .os 0 0), (1, bO fs), (11, bO fs), (12, Iv fs.length), (13, Iv x.1)], [(0, 0, .bx (lkC p s)), (1, 0, .mp (eP x.2.1) x.2.1.length), (6, x.2.2, .gone), (9, x.2.2, .gone)]⟩) (fun x => fs.length - x.1) (0, S, 0) ⟨Nat.zero_le _, hS, rfl⟩ ?_
 rintro ⟨i, S', u⟩ ⟨hi, hS', hG⟩
 dsimp only at hi hS' hG ⊢
 by_cases hlt : i < fs.length
 case neg =>
  obtain rfl : i = fs.length := by omega
  have e1 : decide ((fs.length : Int) < (fs.length : Int)) = false := by rw [decide_eq_false_iff_not]; omega
  rw [List.drop_length] at hG
  have hG' : stackG p s 0 0 fs S = (true, S') := hG
  rw [hG']
  clear hG hG'
  (any_goals refine go jE 0 ?_)
  all_goals (try simp only [go_sem])
 have e1 : decide ((i : Int) < (fs.length : Int)) = true := by rw [decide_eq_true_eq]; omega
 have t1 : Int.toNat (i : Int) = i := by omega
 have w1 : IntKind.i64.wrap ((i : Int) + 1) = ((i + 1 : Nat) : Int) := by rw [aN] <;> omega
 obtain ⟨f, hf⟩ : ∃ v, fs[i]? = some v := ⟨fs[i], List.getElem?_eq_getElem hlt⟩
 have hg := aE bA hf ([] : List RV)
 have hwf := hfs f (List.mem_of_getElem? hf)
 have hd : fs.drop i = f :: fs.drop (i + 1) := by rw [← List.getElem_cons_drop hlt]; congr 1; exact (List.getElem?_eq_some_iff.1 hf).2
 rw [hd] at hG
 have h60 := hp.fns
 have wn : IntKind.i64.wrap ((p.fns.length : Int) - 1) = (p.fns.length : Int) - 1 := by rw [aN] <;> omega
 obtain ⟨fn, pc, tov, gen, ⟨sk, sn⟩, regs, tries⟩ := f
 have lr : (regs.map valR).length = regs.length := List.length_map ..
 obtain ⟨F, hF⟩ : ∃ F, p.fns[(if (if (p.fns.length : Int) - 1 < fn then (p.fns.length : Int) - 1 else fn) > 0 then if (p.fns.length : Int) - 1 < fn then (p.fns.length : Int) - 1 else fn else 0).toNat]? = some F :=
  ⟨p.fns[(if (if (p.fns.length : Int) - 1 < fn then (p.fns.length : Int) - 1 else fn) > 0 then if (p.fns.length : Int) - 1 < fn then (p.fns.length : Int) - 1 else fn else 0).toNat]'(by omega), List.getElem?_eq_getElem _⟩
 have gF := aE fnR hF ([] : List RV)
 have hFf : 0 ≤ fn ∧ fn < (p.fns.length : Int) → p.fns.getD fn.toNat fn0 = F := fun h => by
  have e : (if (if (p.fns.length : Int) - 1 < fn then (p.fns.length : Int) - 1 else fn) > 0 then if (p.fns.length : Int) - 1 < fn then (p.fns.length : Int) - 1 else fn else 0).toNat = fn.toNat := by
   congr 1; omega
  rw [e] at hF
  rw [List.getD_eq_getElem?_getD, hF]; rfl
 have eR : Int.toNat ((i : Int) - 1) = i - 1 := by omega
 cases hfr : cU p s ⟨fn, pc, tov, gen, (sk, sn), regs, tries⟩ with
 | false =>
  have hG' : stackG p s 0 0 fs S = (false, S') := by
   rw [hG]; unfold stackG; rw [if_neg]; unfold onF; rw [hfr]; simp
  rw [hG']
  clear hG hG' hFf hF
  by_cases i0 : i = 0
  ·have e0 : decide ((0 : Int) < (i : Int)) = false := by rw [decide_eq_false_iff_not]; omega
   clear i0
   (any_goals refine go jE 0 ?_)
   all_goals (try simp only [go_sem])
  ·have e0 : decide ((0 : Int) < (i : Int)) = true := by rw [decide_eq_true_eq]; omega
   have w2 : IntKind.i64.wrap ((i : Int) - 1) = (i : Int) - 1 := by rw [aN] <;> omega
   obtain ⟨f0, hf0⟩ : ∃ v, fs[i - 1]? = some v := ⟨fs[i - 1], List.getElem?_eq_getElem (by omega)⟩
   have hg0 := aE bA hf0 ([] : List RV)
   have lr0 : (f0.regs.map valR).length = f0.regs.length := List.length_map ..
   have i1 : 1 ≤ i := by omega
   clear i0
   (any_goals refine go jE 0 ?_)
   all_goals (try simp only [go_sem])
 | true =>
 obtain ⟨⟨f1, f2⟩, _, _⟩ := jC hfr
 dsimp only at f1 f2
 have hFn := hFf ⟨f1, f2⟩
 obtain ⟨b4, h4⟩ : ∃ b, F.gen = b := ⟨_, rfl⟩
 obtain ⟨b1, h1⟩ : ∃ b, decide (-1 ≤ tov ∧ tov ≤ kN fs i - 1) = b := ⟨_, rfl⟩
 obtain ⟨b2, h2⟩ : ∃ b, decide (0 ≤ gen) = b := ⟨_, rfl⟩
 obtain ⟨b3, h3⟩ : ∃ b, decide (gen < -1) = b := ⟨_, rfl⟩
 have hon : onF p s (kN fs i) ⟨fn, pc, tov, gen, (sk, sn), regs, tries⟩ = (b1 && (b4 == b2) && !b3) := by
  unfold onF; dsimp only; rw [hfr, h1, h2, h3, hFn, h4, Bool.true_and]
 have hst : stackG p s i (kN fs i) (⟨fn, pc, tov, gen, (sk, sn), regs, tries⟩ :: fs.drop (i + 1)) S' =
   if (b1 && (b4 == b2) && !b3) = true then
    if b4 = true then
     if jB s i ⟨fn, pc, tov, gen, (sk, sn), regs, tries⟩ = true ∧ gen ∉ S' then stackG p s (i + 1) regs.length (fs.drop (i + 1)) (gen :: S') else (false, S')
    else stackG p s (i + 1) regs.length (fs.drop (i + 1)) S'
   else (false, S') := by
  rw [show stackG p s i (kN fs i) (⟨fn, pc, tov, gen, (sk, sn), regs, tries⟩ :: fs.drop (i + 1)) S' = if onF p s (kN fs i) ⟨fn, pc, tov, gen, (sk, sn), regs, tries⟩ = true then
   if (p.fns.getD fn.toNat fn0).gen = true then
    if jB s i ⟨fn, pc, tov, gen, (sk, sn), regs, tries⟩ = true ∧ gen ∉ S' then stackG p s (i + 1) regs.length (fs.drop (i + 1)) (gen :: S') else (false, S')
   else stackG p s (i + 1) regs.length (fs.drop (i + 1)) S'
   else (false, S') from rfl, hon, hFn, h4]
 have hnx : kN fs (i + 1) = regs.length := by
  unfold kN
  rw [if_neg (by omega), Nat.add_sub_cancel, List.getD_eq_getElem?_getD, hf]; rfl
 rw [hst] at hG
 clear hst hon hFf hF hFn hd
 by_cases i0 : i = 0
 ·have e0 : decide ((0 : Int) < (i : Int)) = false := by rw [decide_eq_false_iff_not]; omega
  have e2 : decide ((i : Int) = 0) = true := by rw [decide_eq_true_eq]; omega
  have hgo : jB s i ⟨fn, pc, tov, gen, (sk, sn), regs, tries⟩ = false := by unfold jB; rw [decide_eq_true i0]; rfl
  have h1' : decide (-1 ≤ tov ∧ tov ≤ -1) = b1 := by rw [← h1]; unfold kN; rw [if_pos i0]; rfl
  clear i0 h1
  cases b1 with
  | false =>
   rw [if_neg (by simp)] at hG
   rw [hG]
   clear hG hnx
   (any_goals refine go jE 0 ?_)
   all_goals (try simp only [go_sem])
  | true =>
  cases b4 <;> cases b2
  ·cases b3
   ·replace hG := (hG.trans (if_pos rfl)).trans (if_neg (by simp))
    (any_goals refine go jE 0 ?_)
    refine ⟨(i + 1, S', u + 9), ⟨by dsimp only; omega, hS', by dsimp only; rw [hG, hnx]⟩, by dsimp only; omega, ?_⟩
    dsimp only
    exact bF
   ·rw [if_neg (by simp)] at hG
    rw [hG]
    clear hG hnx
    (any_goals refine go jE 0 ?_)
    all_goals (try simp only [go_sem])
  ·rw [if_neg (by simp)] at hG
   rw [hG]
   clear hG hnx
   (any_goals refine go jE 0 ?_)
   all_goals (try simp only [go_sem])
  ·rw [if_neg (by simp)] at hG
   rw [hG]
   clear hG hnx
   (any_goals refine go jE 0 ?_)
   all_goals (try simp only [go_sem])
  ·cases b3
   ·replace hG := (hG.trans (if_pos rfl)).trans (if_pos rfl)
    have hM : rI Tryz.prog 109 (eP S') (.int .i64 gen) := xC hS' hwf.gen
    rw [if_neg (fun h => by rw [hgo] at h; cases h.1)] at hG
    clear hgo
    rw [hG]
    clear hG hnx
    (any_goals refine go jE 0 ?_)
    all_goals (try simp only [go_sem])
   ·rw [if_neg (by simp)] at hG
    rw [hG]
    clear hG hnx
    (any_goals refine go jE 0 ?_)
    all_goals (try simp only [go_sem])
 ·have e0 : decide ((0 : Int) < (i : Int)) = true := by rw [decide_eq_true_eq]; omega
  have e2 : decide ((i : Int) = 0) = false := by rw [decide_eq_false_iff_not]; omega
  have w2 : IntKind.i64.wrap ((i : Int) - 1) = (i : Int) - 1 := by rw [aN] <;> omega
  obtain ⟨f0, hf0⟩ : ∃ v, fs[i - 1]? = some v := ⟨fs[i - 1], List.getElem?_eq_getElem (by omega)⟩
  have hg0 := aE bA hf0 ([] : List RV)
  have lr0 : (f0.regs.map valR).length = f0.regs.length := List.length_map ..
  have hwf0 := (hfs f0 (List.mem_of_getElem? hf0)).regs
  have w3 : IntKind.i64.wrap ((f0.regs.length : Int) - 1) = (f0.regs.length : Int) - 1 := by rw [aN] <;> omega
  have i1 : 1 ≤ i := by omega
  have hgo : jB s i ⟨fn, pc, tov, gen, (sk, sn), regs, tries⟩ = (refF s (5, gen) 5 && decide ((s.cells.getD gen.toNat cZ).num = 1)) := by unfold jB; rw [decide_eq_false i0]; rfl
  have h1' : decide (-1 ≤ tov ∧ tov ≤ (f0.regs.length : Int) - 1) = b1 := by rw [← h1]; unfold kN; rw [if_neg i0, List.getD_eq_getElem?_getD, hf0]; rfl
  clear i0 h1
  cases b1 with
  | false =>
   rw [if_neg (by simp)] at hG
   rw [hG]
   clear hG hnx
   (any_goals refine go jE 0 ?_)
   all_goals (try simp only [go_sem])
  | true =>
  cases b4 <;> cases b2
  ·cases b3
   ·replace hG := (hG.trans (if_pos rfl)).trans (if_neg (by simp))
    (any_goals refine go jE 0 ?_)
    refine ⟨(i + 1, S', u + 9), ⟨by dsimp only; omega, hS', by dsimp only; rw [hG, hnx]⟩, by dsimp only; omega, ?_⟩
    dsimp only
    exact bF
   ·rw [if_neg (by simp)] at hG
    rw [hG]
    clear hG hnx
    (any_goals refine go jE 0 ?_)
    all_goals (try simp only [go_sem])
  ·rw [if_neg (by simp)] at hG
   rw [hG]
   clear hG hnx
   (any_goals refine go jE 0 ?_)
   all_goals (try simp only [go_sem])
  ·rw [if_neg (by simp)] at hG
   rw [hG]
   clear hG hnx
   (any_goals refine go jE 0 ?_)
   all_goals (try simp only [go_sem])
  ·cases b3
   ·replace hG := (hG.trans (if_pos rfl)).trans (if_pos rfl)
    have hM : rI Tryz.prog 109 (eP S') (.int .i64 gen) := xC hS' hwf.gen
    cases hr : refF s (5, gen) 5 with
    | false =>
     rw [if_neg (fun h => by rw [hgo, hr] at h; simp at h)] at hG
     clear hgo
     rw [hG]
     clear hG hnx
     (any_goals refine go jE 0 ?_)
     all_goals (try simp only [go_sem])
    | true =>
    have hY : Ay s (5, gen) 5 = s.cells.getD gen.toNat cZ := by unfold Ay; rw [hr]; rfl
    generalize s.cells.getD gen.toNat cZ = c at *
    cases hnum : decide (c.num = 1) with
    | false =>
     rw [if_neg (fun h => by rw [hgo, hnum] at h; simp at h)] at hG
     clear hgo
     rw [hG]
     clear hG hnx
     (any_goals refine go jE 0 ?_)
     all_goals (try simp only [go_sem])
    | true =>
    by_cases hin : gen ∈ S'
    ·have d6 := yH hin
     rw [if_neg (fun h => h.2 hin)] at hG
     clear hgo hin
     rw [hG]
     clear hG hnx
     (any_goals refine go jE 0 ?_)
     all_goals (try simp only [go_sem])
    ·have d6 := Cw hin
     have d7 := Fn S' gen
     have d8 : updN (eP S') (.int .i64 gen) S'.length = S'.length + 1 := by unfold updN; rw [d6]
     have hS2 : ∀ g ∈ gen :: S', WI g := fun g hg => (List.mem_cons.1 hg).elim (fun e => e ▸ hwf.gen) (hS' g)
     rw [if_pos ⟨by rw [hgo, hr, hnum]; rfl, hin⟩] at hG
     clear hgo hin
     (any_goals refine go jE 0 ?_)
     refine ⟨(i + 1, gen :: S', u + 9), ⟨by dsimp only; omega, hS2, by dsimp only; rw [hG, hnx]⟩, by dsimp only; omega, ?_⟩
     dsimp only
     exact bF
   ·rw [if_neg (by simp)] at hG
    rw [hG]
    clear hG hnx
    (any_goals refine go jE 0 ?_)
    all_goals (try simp only [go_sem])
theorem lk_Q {p : aI} {s : aC} {S S2 : List Int} {f : Nat} {args : List AV} {r : AV} (h : FC Cx f args (lkRs p s S) r (lkRs p s S2)) (ha : aX (fun k => k == 0 || k == 1) args = true) (hr : bK bR r = true) (v0 v1 a b : Nat) (hab : (a == b) = false) :
  QOk (C := Cx) f [(0, a, v0), (1, b, v1)] args (lkRs p s S) r (lkRs p s S2) := by
 have hd : ∀ S, domR (lkRs p s S) = fun k => k == 0 || k == 1 := fun S => by
  funext k
  unfold domR
  rw [show aB k (lkRs p s S) = if k = 0 then (0, .bx (lkC p s)) else if k = 1 then (0, .mp (eP S) S.length) else (0, .gone) from rfl]
  by_cases h0 : k = 0
  ·subst h0; rfl
  ·by_cases h1 : k = 1
   ·subst h1; rfl
   ·rw [if_neg h0, if_neg h1]; simp [h0, h1]
 have hab' : a ≠ b := by simpa using hab
 refine ⟨h, rfl, by simp [ndB, memN, hab'], rfl, by rw [hd]; exact ha, oL hr, fun q hq => ?_, fun q hq => ?_⟩
 ·rw [hd]
  rcases List.mem_cons.1 hq with rfl | hq
  ·rfl
  ·obtain rfl := List.mem_singleton.1 hq; trivial
 ·rw [hd]
  rcases List.mem_cons.1 hq with rfl | hq
  ·rfl
  ·obtain rfl := List.mem_singleton.1 hq; trivial
theorem Aw (p : aI) (s : aC) (frames : List aR) (state on vk vn : Int) : wK p s ⟨frames, state, on, (vk, vn)⟩ = (((decide (state = 3) || decide (state = 4)) == decide ((frames.length : Int) = 0)) && ((decide (state = 3) || decide (state = 4)) || (decide (vk = 0) && decide (vn = 0))) && fitsF s (vk, vn) && decide (0 ≤ state ∧ state ≤ 4) &&
 (if state = 1 then refF s (5, on) 6 else if state = 2 then decide (0 ≤ on ∧ on ≤ (s.threads.length : Int) - 1) else decide (on = 0))) := by
 unfold wK
 dsimp only
 rw [Bool.decide_or, show decide (frames.length = 0) = decide ((frames.length : Int) = 0) by rw [decide_eq_decide]; omega, show decide ((vk, vn) = ((0, 0) : Int × Int)) = (decide (vk = 0) && decide (vn = 0)) by rw [← Bool.decide_and, decide_eq_decide, Prod.mk.injEq]]
theorem aAw (p : aI) (s : aC) (t : aP) (S : List Int) (hp : Pgo p) (hn : 0 < p.fns.length) (hfs : ∀ f ∈ t.frames, Gwf f) (hl : t.frames.length ≤ 9223372036854775807) (hl2 : s.threads.length ≤ 9223372036854775807) (hS : ∀ g ∈ S, WI g) :
    FC Cx 127 [.os 0 0, dU t] (lkRs p s S) (Bv (threadG p s t S).1) (lkRs p s (threadG p s t S).2) := by
  have l0 : (t.frames.map bA).length = t.frames.length := List.length_map ..
  have l1 : (s.threads.map aJ).length = s.threads.length := List.length_map ..
  have hq := lk_Q (aFp p s t.frames S hp hn hfs hl hS) rfl rfl 0 0 0 1 rfl
  have en : aF Cx.P 176 := aVs
  obtain ⟨frames, state, on, ⟨vk, vn⟩⟩ := t
  dsimp only at *
  have w1 : IntKind.i64.wrap ((s.threads.length : Int) - 1) = (s.threads.length : Int) - 1 := by rw [aN] <;> omega
  refine iZ [gK, eD, Ek, ctQ 176 [(0, 0, 0), (1, 1, 0)] [.os 0 0, bO frames] (lkRs p s S) (Bv (stackG p s 0 0 frames S).1) (lkRs p s (stackG p s 0 0 frames S).2) en hq]  Tryz.func127 rfl Tryz.ntmps127 (by simp) Tryz.results127 rfl (aIa _ _ _) ?_
  refine rnst ?_
  (any_goals refine go aVl 0 ?_)
  repeat' (first | (refine Br.go (fun h h' => ?_) (fun h h' => ?_)) | (refine Br.mk (fun h => ?_) (fun h => ?_)))
  all_goals (try simp only [go_sem])
  all_goals clear hq en hS hl hfs l0 l1 w1 hl2 hp hn
  all_goals
    first
    | (have hH : wK p s ⟨frames, state, on, (vk, vn)⟩ = false := by
        rw [Aw]
        generalize (decide (state = 3) || decide (state = 4)) = o at *
        generalize decide ((frames.length : Int) = 0) = e at *
        generalize (decide (vk = 0) && decide (vn = 0)) = v at *
        generalize fitsF s (vk, vn) = f at *
        generalize decide (0 ≤ state ∧ state ≤ 4) = w at *
        cases o <;> cases e <;> cases v <;> cases f <;> cases w <;> (first | (refine False.elim ?_; simp at *; done) | (simp [*]; done))
       have hT : threadG p s ⟨frames, state, on, (vk, vn)⟩ S = (false, S) := by unfold threadG; rw [hH]; rfl
       rw [hT]
       exact ⟨rfl, rfl⟩)
    | (have hH : wK p s ⟨frames, state, on, (vk, vn)⟩ = true := by
        rw [Aw]
        generalize (decide (state = 3) || decide (state = 4)) = o at *
        generalize decide ((frames.length : Int) = 0) = e at *
        generalize (decide (vk = 0) && decide (vn = 0)) = v at *
        generalize fitsF s (vk, vn) = f at *
        generalize decide (0 ≤ state ∧ state ≤ 4) = w at *
        cases o <;> cases e <;> cases v <;> cases f <;> cases w <;> (first | (refine False.elim ?_; simp at *; done) | (simp [*]; done))
       have hT : threadG p s ⟨frames, state, on, (vk, vn)⟩ S = stackG p s 0 0 frames S := by unfold threadG; rw [if_pos hH]
       rw [hT]
       exact ⟨rfl, rfl⟩)
    | skip
theorem xP {p : aI} {s : aC} : ∀ {fs : List aR} {k : Nat} {low : Int} {S : List Int}, (∀ f ∈ fs, Gwf f) → (∀ g ∈ S, WI g) → ∀ g ∈ (stackG p s k low fs S).2, WI g
 | [], _, _, _, _, hS => hS
 | f :: fs, k, low, S, hf, hS => by
  have h1 := fun g hg => hf g (List.mem_cons_of_mem f hg)
  unfold stackG
  split
  ·split
   ·split
    ·exact xP h1 fun g hg => (List.mem_cons.1 hg).elim (fun e => e ▸ (hf f (List.mem_cons_self ..)).gen) (hS g)
    ·exact hS
   ·exact xP h1 hS
  ·exact hS
theorem uF {p : aI} {s : aC} {t : aP} {S : List Int} (hf : ∀ f ∈ t.frames, Gwf f) (hS : ∀ g ∈ S, WI g) : ∀ g ∈ (threadG p s t S).2, WI g := by
 unfold threadG
 split
 ·exact xP hf hS
 ·exact hS
noncomputable def thrI (p : aI) (s : aC) : Nat → List aP → List Int → Int × List Int
 | _, [], S => (-1, S)
 | k, t :: ts, S => if (threadG p s t S).1 = true then thrI p s (k + 1) ts (threadG p s t S).2 else ((k : Int), (threadG p s t S).2)
theorem aBg (p : aI) (s : aC) : ∀ (ts : List aP) (k : Nat) (S : List Int), decide (0 ≤ (thrI p s k ts S).1) = !(threadsG p s ts S).1 ∧ (thrI p s k ts S).2 = (threadsG p s ts S).2
 | [], _, _ => ⟨rfl, rfl⟩
 | t :: ts, k, S => by
  unfold thrI threadsG
  by_cases h : (threadG p s t S).1 = true
  ·rw [if_pos h, if_pos h]; exact aBg p s ts _ _
  ·rw [if_neg h, if_neg h]
   exact ⟨by simp, rfl⟩
noncomputable abbrev lkRb (p : aI) (s : aC) (S : List Int) : List (Nat × Nat × Res) := [(0, 0, .bx (lkC p s)), (1, 0, .mp (eP S) S.length), (10, 0, .bx [.os 0 0])]
theorem Sp (p : aI) (s : aC) (S : List Int) (k : Nat) : aB k (lkRb p s S) = if k = 0 then (0, .bx (lkC p s)) else if k = 1 then (0, .mp (eP S) S.length) else if k = 10 then (0, .bx [.os 0 0]) else (0, .gone) := rfl
theorem Ox (p : aI) (s : aC) (S : List Int) (k : Nat) : bP (domR (lkRb p s S)) (aB k (lkRb p s S)).2 := by
 rw [Sp]
 split
 ·rfl
 ·split
  ·trivial
  ·split
   ·rfl
   ·trivial
theorem aCf {p : aI} {s : aC} {S S2 : List Int} {f : Nat} {args : List AV} {r : AV} (h : FC Cx f args (lkRb p s S) r (lkRb p s S2)) (ha : aX (fun k => k == 0 || k == 1 || k == 10) args = true) (hr : bK bR r = true) (v0 v1 v2 a b c : Nat) (hab : (a == b || a == c || b == c) = false) :
  QOk (C := Cx) f [(0, a, v0), (1, b, v1), (10, c, v2)] args (lkRb p s S) r (lkRb p s S2) := by
 have hd : ∀ S, domR (lkRb p s S) = fun k => k == 0 || k == 1 || k == 10 := fun S => by
  funext k
  unfold domR
  rw [Sp]
  by_cases h0 : k = 0
  ·subst h0; rfl
  ·by_cases h1 : k = 1
   ·subst h1; rfl
   ·by_cases h2 : k = 10
    ·subst h2; rfl
    ·rw [if_neg h0, if_neg h1, if_neg h2]; simp [h0, h1, h2]
 have hab' : (a ≠ b ∧ a ≠ c) ∧ b ≠ c := by simpa using hab
 have hi : ∀ S, ∀ q ∈ lkRb p s S, bP (fun k => k == 0 || k == 1 || k == 10) q.2.2 := fun S q hq => by
  rcases List.mem_cons.1 hq with rfl | hq
  ·rfl
  ·rcases List.mem_cons.1 hq with rfl | hq
   ·trivial
   ·obtain rfl := List.mem_singleton.1 hq; rfl
 exact ⟨h, rfl, by simp [ndB, memN, hab'], rfl, by rw [hd]; exact ha, oL hr, by rw [hd]; exact hi S, by rw [hd]; exact hi S2⟩
theorem Zy (p : aI) (s : aC) (t : aP) (S : List Int) (hp : Pgo p) (hn : 0 < p.fns.length) (hfs : ∀ f ∈ t.frames, Gwf f) (hl : t.frames.length ≤ 9223372036854775807) (hl2 : s.threads.length ≤ 9223372036854775807) (hS : ∀ g ∈ S, WI g) :
  FC Cx 126 [dU t, .os 10 0] (lkRb p s S) (Bv (!(threadG p s t S).1)) (lkRb p s (threadG p s t S).2) := by
 have hq := lk_Q (aAw p s t S hp hn hfs hl hl2 hS) rfl rfl 0 0 0 1 rfl
 have en : aF Cx.P 127 := aTz
 refine iZ [ctQ 127 [(0, 0, 0), (1, 1, 0)] [.os 0 0, dU t] (lkRs p s S) (Bv (threadG p s t S).1) (lkRs p s (threadG p s t S).2) en hq]  Tryz.func126 rfl Tryz.ntmps126 (by simp) Tryz.results126 rfl (Ox _ _ _) ?_
 refine rnst ?_
 (any_goals refine go aR1 0 ?_)
 all_goals (try simp only [go_sem])
theorem Yi (p : aI) (s : aC) (ts : List aP) (S : List Int) (hp : Pgo p) (hn : 0 < p.fns.length) (hfs : ∀ t ∈ ts, t.frames.length ≤ 9223372036854775807 ∧ ∀ f ∈ t.frames, Gwf f) (hl : ts.length ≤ 9223372036854775807) (hl2 : s.threads.length ≤ 9223372036854775807) (hS : ∀ g ∈ S, WI g) :
  FC Cx 122 [cI ts, .cl 126 [.os 10 0]] (lkRb p s S) (Iv (thrI p s 0 ts S).1) (lkRb p s (thrI p s 0 ts S).2) := by
 have l1 : (ts.map aJ).length = ts.length := List.length_map ..
 have en : aF Cx.P 126 := aVt
 refine iZ []  Tryz.func122 rfl Tryz.ntmps122 (by simp) Tryz.results122 rfl (Ox _ _ _) ?_
 refine rnst ?_
 (any_goals refine go yY 0 ?_)
 refine bY (fun x : Nat × List Int => x.1 ≤ ts.length ∧ (∀ g ∈ x.2, WI g) ∧ thrI p s 0 ts S = thrI p s x.1 (ts.drop x.1) x.2) (fun x => ⟨19, [(0, cI ts), (1, .cl 126 [.os 10 0]), (7, Iv ts.length), (8, Iv x.1)], lkRb p s x.2⟩) (fun x => ts.length - x.1) (0, S) ⟨Nat.zero_le _, hS, rfl⟩ ?_
 rintro ⟨i, S'⟩ ⟨hi, hS', hG⟩
 dsimp only at hi hS' hG ⊢
 by_cases hlt : i < ts.length
 case neg =>
  obtain rfl : i = ts.length := by omega
  have e1 : decide ((ts.length : Int) < (ts.length : Int)) = false := by rw [decide_eq_false_iff_not]; omega
  rw [List.drop_length] at hG
  have hG' : thrI p s 0 ts S = (-1, S') := hG
  rw [hG']
  clear hG hG'
  (any_goals refine go yY 0 ?_)
  all_goals (try simp only [go_sem])
 have e1 : decide ((i : Int) < (ts.length : Int)) = true := by rw [decide_eq_true_eq]; omega
 have t1 : Int.toNat (i : Int) = i := by omega
 have w1 : IntKind.i64.wrap ((i : Int) + 1) = ((i + 1 : Nat) : Int) := by rw [aN] <;> omega
 obtain ⟨t, ht⟩ : ∃ v, ts[i]? = some v := ⟨ts[i], List.getElem?_eq_getElem hlt⟩
 have hg := aE aJ ht ([] : List RV)
 have hwf := hfs t (List.mem_of_getElem? ht)
 have hd : ts.drop i = t :: ts.drop (i + 1) := by rw [← List.getElem_cons_drop hlt]; congr 1; exact (List.getElem?_eq_some_iff.1 ht).2
 rw [hd] at hG
 have hq := aCf (Zy p s t S' hp hn hwf.2 hwf.1 hl2 hS') rfl rfl 0 0 0 0 1 10 rfl
 have hS2 := uF (p := p) (s := s) hwf.2 hS'
 refine Rn_T [ctQ 126 [(0, 0, 0), (1, 1, 0), (10, 10, 0)] [dU t, .os 10 0] (lkRb p s S') (Bv (!(threadG p s t S').1)) (lkRb p s (threadG p s t S').2) en hq] ?_
 have hT : thrI p s i (t :: ts.drop (i + 1)) S' = if (threadG p s t S').1 = true then thrI p s (i + 1) (ts.drop (i + 1)) (threadG p s t S').2 else ((i : Int), (threadG p s t S').2) := rfl
 rw [hT] at hG
 clear hT hd
 rcases Bool.eq_false_or_eq_true (threadG p s t S').1 with hb | hb
 ·rw [if_pos hb] at hG
  (any_goals refine go yY 0 ?_)
  refine ⟨(i + 1, (threadG p s t S').2), ⟨by dsimp only; omega, hS2, hG⟩, by dsimp only; omega, ?_⟩
  dsimp only
  exact bF
 ·rw [if_neg (by rw [hb]; simp)] at hG
  rw [hG]
  clear hG
  (any_goals refine go yY 0 ?_)
  all_goals (try simp only [go_sem])
theorem Za (p : aI) (s : aC) (ts : List aP) (S : List Int) (hp : Pgo p) (hn : 0 < p.fns.length) (hfs : ∀ t ∈ ts, t.frames.length ≤ 9223372036854775807 ∧ ∀ f ∈ t.frames, Gwf f) (hl : ts.length ≤ 9223372036854775807) (hl2 : s.threads.length ≤ 9223372036854775807) (hS : ∀ g ∈ S, WI g) :
  FC Cx 58 [cI ts, .cl 126 [.os 10 0]] (lkRb p s S) (Bv (!(threadsG p s ts S).1)) (lkRb p s (threadsG p s ts S).2) := by
 have hq := aCf (Yi p s ts S hp hn hfs hl hl2 hS) rfl rfl 0 0 0 0 1 10 rfl
 have en : aF Cx.P 122 := aIu
 obtain ⟨h1, h2⟩ := aBg p s ts 0 S
 rw [← h1, ← h2]
 clear h1 h2
 refine iZ [ctQ 122 [(0, 0, 0), (1, 1, 0), (10, 10, 0)] [cI ts, .cl 126 [.os 10 0]] (lkRb p s S) (Iv (thrI p s 0 ts S).1) (lkRb p s (thrI p s 0 ts S).2) en hq]  Tryz.func58 rfl Tryz.ntmps58 (by simp) Tryz.results58 rfl (Ox _ _ _) ?_
 refine rnst ?_
 (any_goals refine go lv58 0 ?_)
 all_goals (try simp only [go_sem])
theorem aB8 (p : aI) (s : aC) (c : bJ) (hp : Pgo p) (hc : Cwf c) (h4 : c.kind = 4 → 0 ≤ c.num) (h5 : c.kind = 5 → c.num = 0 → c.frames.length = 1) : FC Cx 124 [gL c, .r (.rp [.rp (lkR p s)])] [] (Bv (!dL p s c)) [] := by
 have hA : ∀ y, y = [lkP p s, gL c] → aQ Cx 125 y (Bv (dL p s c)) := fun y hy => by
  subst hy; exact aA (aK1 p s c hp hc h4 h5) aTq rfl rfl
 refine aD [ctE 125 [lkP p s, gL c] (Bv (dL p s c)) hA] Tryz.func124 Tryz.ntmps124 Tryz.results124 ?_
 refine goR ?_
 refine fzB 2 ?_
 (any_goals refine go aTv 0 ?_)
 all_goals (try simp only [go_sem])
theorem Kx {s : aC} {c : bJ} (h : eO s c = true) : (c.kind = 4 → 0 ≤ c.num) ∧ (c.kind = 5 → c.num = 0 → c.frames.length = 1) := by
 unfold eO at h
 simp only [Bool.and_eq_true, decide_eq_true_eq] at h
 obtain ⟨⟨⟨⟨⟨_, h1⟩, _⟩, h2⟩, _⟩, _⟩ := h
 refine ⟨fun k4 => ?_, fun k5 n0 => ?_⟩
 ·unfold numF at h1
  rw [if_neg (by omega), if_pos k4] at h1
  simpa using h1
 ·unfold dM at h2
  rw [if_pos ⟨k5, n0⟩] at h2
  omega
theorem Hs {s : aC} (h : dE s = 0) : Sok s ∧ ∀ c ∈ s.cells, eO s c = true := by
 unfold dE at h
 split at h
 ·cases h
 rename_i h0
 split at h
 ·rename_i h1; exact absurd h h1
 split at h
 ·cases h
 rename_i h2
 refine ⟨Db (by simpa using h0), fun c hc => ?_⟩
 simp only [Bool.or_eq_true, not_or] at h2
 have := h2.2
 simp only [List.any_eq_true, not_exists, not_and] at this
 simpa using this c hc
def preS (p : aI) (s : aC) : Bool := decide (p.texts.length ≤ s.texts.length) && decide (s.texts.take p.texts.length = p.texts) && decide (0 ≤ s.steps ∧ s.steps ≤ 1000000000) && decide (0 ≤ s.asked ∧ s.asked ≤ 1000000000) && !decide (s.threads.length = 0)
noncomputable def Bg (s : aC) (S : List Int) : Bool := s.cells.zipIdx.all fun x => !(decide (x.1.kind = 5) && decide (x.1.num = 1)) || decide ((x.2 : Int) ∈ S)
noncomputable def iX (p : aI) (s : aC) : Bool × List Int := if (preS p s && s.cells.all (dL p s)) = true then ((threadsG p s s.threads []).1 && Bg s (threadsG p s s.threads []).2, (threadsG p s s.threads []).2) else (false, [])
theorem aBn (p : aI) (s : aC) : (iX p s).1 = uS p s := by
 unfold iX uS
 rw [show (decide (p.texts.length ≤ s.texts.length) && decide (s.texts.take p.texts.length = p.texts) && decide (0 ≤ s.steps ∧ s.steps ≤ 1000000000) && decide (0 ≤ s.asked ∧ s.asked ≤ 1000000000) && !decide (s.threads.length = 0)) = preS p s from rfl]
 cases hb : (preS p s && s.cells.all (dL p s)) with
 | false => simp
 | true => simp [Bg]
theorem Tw {s : aC} {S : List Int} (h : ∀ (j : Nat) (c : bJ), s.cells[j]? = some c → (decide (c.kind = 5) && decide (c.num = 1)) = true → (j : Int) ∈ S) : Bg s S = true := by
 unfold Bg
 refine List.all_eq_true.2 fun x hx => ?_
 obtain ⟨c, k⟩ := x
 rw [List.mem_zipIdx_iff_getElem?] at hx
 dsimp only
 cases hb : decide (c.kind = 5) && decide (c.num = 1) with
 | false => rfl
 | true => simp [h k c hx hb]
theorem aBm {s : aC} {S : List Int} {j : Nat} {c : bJ} (hj : s.cells[j]? = some c) (hb : (decide (c.kind = 5) && decide (c.num = 1)) = true) (h : (j : Int) ∉ S) : Bg s S = false := by
 unfold Bg
 rw [Bool.eq_false_iff]
 intro hall
 have := List.all_eq_true.1 hall (c, j) (by rw [List.mem_zipIdx_iff_getElem?]; exact hj)
 dsimp only at this
 rw [hb] at this
 simp at this
 exact h this
theorem yT {p : aI} {s : aC} : ∀ {ts : List aP} {S : List Int}, (∀ t ∈ ts, ∀ f ∈ t.frames, Gwf f) → (∀ g ∈ S, WI g) → ∀ g ∈ (threadsG p s ts S).2, WI g
 | [], _, _, hS => hS
 | t :: ts, S, hf, hS => by
  unfold threadsG
  split
  ·exact yT (fun u hu => hf u (List.mem_cons_of_mem _ hu)) (uF (hf t (List.mem_cons_self ..)) hS)
  ·exact uF (hf t (List.mem_cons_self ..)) hS
theorem aMy {k : Nat} (h : k ≤ 300) : WI (k : Int) := by
 have h1 : IntKind.i64.min = -9223372036854775808 := rfl
 have h2 : IntKind.i64.max = 9223372036854775807 := rfl
 show (decide (IntKind.i64.min ≤ (k : Int)) && decide ((k : Int) ≤ IntKind.i64.max)) = true
 rw [h1, h2]
 simp only [Bool.and_eq_true, decide_eq_true_eq]
 omega
abbrev lkD (p : aI) (s : aC) : List AV := [.r (.rs 5 (p.fns.map fnR)), .r (.rs 2 (p.consts.map valR)), .r (.rs 1 (p.texts.map strR)), .r (.rp (cN s)), .r (.rs 1 (p.fns.map fun f => [outR f])), .r (.rs 1 (p.fns.map fun f => [jZ f])), .os 2001 0]
noncomputable abbrev lkRd (p : aI) (s : aC) (S : List Int) : List (Nat × Nat × Res) := [(2000, 0, .bx (lkD p s)), (2001, 0, .mp (eP S) S.length)]
theorem Qw (p : aI) (s : aC) (S : List Int) (k : Nat) : aB k (lkRd p s S) = if k = 2000 then (0, .bx (lkD p s)) else if k = 2001 then (0, .mp (eP S) S.length) else (0, .gone) := rfl
theorem aA8 (p : aI) (s : aC) (S : List Int) (k : Nat) : bP (domR (lkRd p s S)) (aB k (lkRd p s S)).2 := by
 rw [Qw]
 split
 ·rfl
 ·split <;> trivial
theorem aBc (p : aI) (s : aC) (hp : Pgo p) (hn : 0 < p.fns.length) (hs : Swf s) (hck : dE s = 0) :
  FC Cx 61 [.os 2000 0] (lkRd p s []) (Bv (iX p s).1) (lkRd p s (iX p s).2) := by
 obtain ⟨hok, hcs⟩ := Hs hck
 have hl := hs.len
 have hl1 := hl.threads
 have hlt := hl.texts
 have l0 : (s.cells.map aW).length = s.cells.length := List.length_map ..
 have l1 : (s.threads.map aJ).length = s.threads.length := List.length_map ..
 have l2 : (s.texts.map strR).length = s.texts.length := List.length_map ..
 have l3 : (p.texts.map strR).length = p.texts.length := List.length_map ..
 have hA : ∀ y, y = [dO s.cells, .r (.fn 124 [.rp [.rp (lkR p s)]])] → aQ Cx 113 y (Bv (!(s.cells.all (dL p s)))) := fun y hy => by
  subst hy
  have h := yE s.cells 124 [.rp [.rp (lkR p s)]] (fun y => ∃ c ∈ s.cells, y = gL c) (fun y => !dL p s (Qp y)) (by
   rintro _ ⟨c, hc, rfl⟩
   rw [tK]
   exact aA (aB8 p s c hp (hs.cell c hc) (Kx (hcs c hc)).1 (Kx (hcs c hc)).2) aWp rfl rfl) (fun x hx => ⟨x, hx, rfl⟩) hl.cells
  simp only [tK] at h
  rw [Ah s.cells, Bool.not_not]
  exact aA h Zs rfl rfl
 have hq := aCf (Za p s s.threads [] hp hn hs.thread hl1 hl1 (fun _ h => by simp at h)) rfl rfl 0 0 1 2000 2001 1 rfl
 have en : aF Cx.P 58 := en58
 have hWI := yT (p := p) (s := s) (S := []) (fun t ht => (hs.thread t ht).2) (fun _ h => by simp at h)
 by_cases hx : p.texts.length ≤ s.texts.length
 case neg =>
  have d0 : decide ((s.texts.length : Int) < (p.texts.length : Int)) = true := by rw [decide_eq_true_eq]; omega
  have hG : iX p s = (false, []) := by unfold iX preS; rw [decide_eq_false hx]; rfl
  rw [hG]
  refine iZ [pR, eD, ctE 113 [dO s.cells, .r (.fn 124 [.rp [.rp (lkR p s)]])] (Bv (!(s.cells.all (dL p s)))) hA, ctQ 58 [(0, 2000, 0), (1, 2001, 0), (10, 1, 1)] [cI s.threads, .cl 126 [.os 10 0]] (lkRb p s []) (Bv (!(threadsG p s s.threads []).1)) (lkRb p s (threadsG p s s.threads []).2) en hq]  Tryz.func61 rfl Tryz.ntmps61 (by simp) Tryz.results61 rfl (aA8 _ _ _) ?_
  refine rnst ?_
  (any_goals refine go lv61 0 ?_)
  all_goals (try simp only [go_sem])
 have d0 : decide ((s.texts.length : Int) < (p.texts.length : Int)) = false := by rw [decide_eq_false_iff_not]; omega
 have hx' : (p.texts.length : Int) ≤ (s.texts.length : Int) := by omega
 have tn : Int.toNat (p.texts.length : Int) = p.texts.length := by omega
 have k1 : List.drop 0 (List.take p.texts.length (s.texts.map strR)) = (s.texts.take p.texts.length).map strR := by rw [List.map_take]; rfl
 have l4 : ((s.texts.take p.texts.length).map strR).length = p.texts.length := by simp; omega
 have l5 : (s.texts.take p.texts.length).length = p.texts.length := by simp; omega
 refine iZ [pR, eD, ctE 113 [dO s.cells, .r (.fn 124 [.rp [.rp (lkR p s)]])] (Bv (!(s.cells.all (dL p s)))) hA, ctQ 58 [(0, 2000, 0), (1, 2001, 0), (10, 1, 1)] [cI s.threads, .cl 126 [.os 10 0]] (lkRb p s []) (Bv (!(threadsG p s s.threads []).1)) (lkRb p s (threadsG p s s.threads []).2) en hq]  Tryz.func61 rfl Tryz.ntmps61 (by simp) Tryz.results61 rfl (aA8 _ _ _) ?_
 refine rnst ?_
 (any_goals refine go (eM 4 lv61) 0 ?_)
 repeat' (first | (refine Br.go (fun h h' => ?_) (fun h h' => ?_)) | (refine Br.mk (fun h => ?_) (fun h => ?_)))
 all_goals (try simp only [go_sem])
 rotate_right
 ·have hP : preS p s = true := by
   have g4 : ¬ s.threads.length = 0 := by omega
   unfold preS
   rw [decide_eq_true hx, Bool.true_and]
   simp only [*]
   simp [g4]
  clear h h' 
  rcases Bool.eq_false_or_eq_true (s.cells.all (dL p s)) with ha | ha
  ·rcases Bool.eq_false_or_eq_true (threadsG p s s.threads []).1 with hb | hb
   ·have hG : iX p s = (Bg s (threadsG p s s.threads []).2, (threadsG p s s.threads []).2) := by
     unfold iX; rw [hP, ha, hb]; rfl
    rw [hG]
    clear hG hP
    generalize (threadsG p s s.threads []).2 = S at *
    (any_goals refine go lv61 0 ?_)
    refine bY (fun x : Nat × Nat => x.1 ≤ s.cells.length ∧ ∀ (j : Nat) (c : bJ), j < x.1 → s.cells[j]? = some c → (decide (c.kind = 5) && decide (c.num = 1)) = true → (j : Int) ∈ S)
     (fun x => ⟨124, [(1, .os 1 1), (99, dO s.cells), (100, Iv s.cells.length), (101, Iv x.1)], [(2000, 0, .bx (lkD p s)), (2001, 0, .mp (eP S) S.length), (1, 1, .bx [.os 2000 0]), (5, x.2, .gone)]⟩) (fun x => s.cells.length - x.1) (0, 0) ⟨Nat.zero_le _, fun j c hj => by omega⟩ ?_
    rintro ⟨i, u⟩ ⟨hi, hno⟩
    dsimp only at hi hno ⊢
    have h300 := hok.cells
    by_cases hlt2 : i < s.cells.length
    case neg =>
     obtain rfl : i = s.cells.length := by omega
     have e1 : decide ((s.cells.length : Int) < (s.cells.length : Int)) = false := by rw [decide_eq_false_iff_not]; omega
     have hR := Tw (s := s) (S := S) fun j c hj => hno j c (List.getElem?_eq_some_iff.1 hj).1 hj
     rw [hR]
     clear hno
     (any_goals refine go lv61 0 ?_)
     all_goals (try simp only [go_sem])
    have e1 : decide ((i : Int) < (s.cells.length : Int)) = true := by rw [decide_eq_true_eq]; omega
    have t1 : Int.toNat (i : Int) = i := by omega
    have w1 : IntKind.i64.wrap ((i : Int) + 1) = ((i + 1 : Nat) : Int) := by rw [aN] <;> omega
    obtain ⟨c, hc⟩ : ∃ v, s.cells[i]? = some v := ⟨s.cells[i], List.getElem?_eq_getElem hlt2⟩
    have hg := aE aW hc ([] : List RV)
    have hM : rI Tryz.prog 109 (eP S) (.int .i64 (i : Int)) := xC hWI (aMy (by omega))
    have nx : ((decide (c.kind = 5) && decide (c.num = 1)) = true → (i : Int) ∈ S) → ∀ (j : Nat) (c : bJ), j < i + 1 → s.cells[j]? = some c → (decide (c.kind = 5) && decide (c.num = 1)) = true → (j : Int) ∈ S := fun hin j c' hj hc' hb' => by
     rcases Nat.lt_succ_iff_lt_or_eq.1 hj with h3 | h3
     ·exact hno j c' h3 hc' hb'
     ·subst h3
      rw [hc] at hc'; cases hc'; exact hin hb'
    rcases Bool.eq_false_or_eq_true (decide (c.kind = 5) && decide (c.num = 1)) with hr | hr
    ·by_cases hin : (i : Int) ∈ S
     ·have d6 := yH hin
      replace nx := nx fun _ => hin
      simp only [Bool.and_eq_true] at hr
      obtain ⟨r1, r2⟩ := hr
      clear hin hno
      (any_goals refine go lv61 0 ?_)
      refine ⟨(i + 1, u + 9), ⟨by dsimp only; omega, nx⟩, by dsimp only; omega, ?_⟩
      dsimp only
      exact bF
     ·have d6 := Cw hin
      have hR := aBm hc hr hin
      rw [hR]
      simp only [Bool.and_eq_true] at hr
      obtain ⟨r1, r2⟩ := hr
      clear hin hno nx
      (any_goals refine go lv61 0 ?_)
      all_goals (try simp only [go_sem])
    ·replace nx := nx fun h => by rw [hr] at h; cases h
     rcases Bool.eq_false_or_eq_true (decide (c.kind = 5)) with r1 | r1
     ·have r2 : decide (c.num = 1) = false := by rw [r1] at hr; exact hr
      clear hno hr
      (any_goals refine go lv61 0 ?_)
      refine ⟨(i + 1, u + 9), ⟨by dsimp only; omega, nx⟩, by dsimp only; omega, ?_⟩
      dsimp only
      exact bF
     ·clear hno hr
      (any_goals refine go lv61 0 ?_)
      refine ⟨(i + 1, u + 9), ⟨by dsimp only; omega, nx⟩, by dsimp only; omega, ?_⟩
      dsimp only
      exact bF
   ·have hG : iX p s = (false, (threadsG p s s.threads []).2) := by
     unfold iX; rw [hP, ha, hb]; rfl
    rw [hG]
    clear hG hP
    (any_goals refine go lv61 0 ?_)
    all_goals (try simp only [go_sem])
  ·have hG : iX p s = (false, []) := by
    unfold iX; rw [hP, ha]; rfl
   rw [hG]
   clear hG hP
   (any_goals refine go lv61 0 ?_)
   all_goals (try simp only [go_sem])
 all_goals
  have hG : iX p s = (false, []) := by
   unfold iX
   rw [show preS p s = false from by unfold preS; first | (simp [*]; done) | (rw [decide_eq_true (show s.threads.length = 0 by omega)]; simp; done)]
   rfl
  rw [hG]
  exact ⟨rfl, rfl⟩
theorem Hd (l : List aP) (f : Nat) (caps : List RV) (dom : AV → Prop) (pv : AV → Bool) (h : ∀ y, dom y → aQ Cx f (y :: caps.map AV.r) (Bv (pv y))) (hd : ∀ x ∈ l, dom (dU x)) (hl : l.length ≤ 9223372036854775807) :
  FC Cx 122 [cI l, .r (.fn f caps)] [] (Iv (fidx (fun x => pv (dU x)) l)) [] := by
 have hlen : (l.map aJ).length = l.length := List.length_map ..
 refine aD [ctF f caps dom pv h] Tryz.func122 Tryz.ntmps122 Tryz.results122 ?_
 (any_goals refine go yY 0 ?_)
 refine eB [0, 1, 7, 8] (fun i => i ≤ l.length ∧ ∀ j x, j < i → l[j]? = some x → pv (dU x) = false) (fun (i : Nat) => ⟨19, [(0, cI l), (1, .r (.fn f caps)), (7, Iv l.length), (8, Iv i)], []⟩) (fun i => l.length - i) 0 rfl (by rw [← hlen]; rfl) rfl ⟨Nat.zero_le _, fun j x hj => by omega⟩ ?_
 rintro i ⟨hi, hno⟩
 by_cases hlt : i < l.length
 ·obtain ⟨x, hx⟩ : ∃ x, l[i]? = some x := ⟨l[i], List.getElem?_eq_getElem hlt⟩
  have hg := aE aJ hx ([] : List RV)
  have hdx := hd x (List.mem_of_getElem? hx)
  have hw : IntKind.i64.wrap ((i : Int) + 1) = ((i + 1 : Nat) : Int) := by rw [aN] <;> omega
  have h1 : decide ((i : Int) < (l.length : Int)) = true := by rw [decide_eq_true_eq]; omega
  have h2 : Int.toNat (i : Int) = i := by omega
  cases hp : pv (dU x) with
  | true =>
   (any_goals refine go yY 0 ?_)
   all_goals (try simp only [go_sem])
   rw [jH hx hp fun j y hj hy => hno j y hj hy]
  | false =>
   (any_goals refine go yY 0 ?_)
   refine ⟨i + 1, ⟨by omega, fun j y hj hy => ?_⟩, by omega, fI [0, 1, 7, 8] rfl rfl rfl⟩
   rcases Nat.lt_succ_iff_lt_or_eq.1 hj with h3 | h3
   ·exact hno j y h3 hy
   ·subst h3; rw [hx] at hy; cases hy; exact hp
 ·have h1 : decide ((i : Int) < (l.length : Int)) = false := by rw [decide_eq_false_iff_not]; omega
  (any_goals refine go yY 0 ?_)
  all_goals (try simp only [go_sem])
  rw [gR fun j y hy => hno j y (by have := (List.getElem?_eq_some_iff.1 hy).1; omega) hy]
theorem Ka (l : List aP) (f : Nat) (caps : List RV) (dom : AV → Prop) (pv : AV → Bool) (h : ∀ y, dom y → aQ Cx f (y :: caps.map AV.r) (Bv (pv y))) (hd : ∀ x ∈ l, dom (dU x)) (hl : l.length ≤ 9223372036854775807) :
  FC Cx 58 [cI l, .r (.fn f caps)] [] (Bv (l.any fun x => pv (dU x))) [] := by
 have hA : ∀ y, y = [cI l, .r (.fn f caps)] → aQ Cx 122 y (Iv (fidx (fun x => pv (dU x)) l)) := fun y hy => by
  subst hy; exact aA (Hd l f caps dom pv h hd hl) aIu rfl rfl
 refine aD [ctE 122 [cI l, .r (.fn f caps)] (Iv (fidx (fun x => pv (dU x)) l)) hA] Tryz.func58 Tryz.ntmps58 Tryz.results58 ?_
 (any_goals refine go lv58 0 ?_)
 all_goals (try simp only [go_sem])
 all_goals (try rw [iN])
def Lp : AV → aP
 | .agg [.r (.rs _ fs), .r (.v (.int _ a)), .r (.v (.int _ b)), .r (.v (.int _ k)), .r (.v (.int _ n))] => ⟨framesOf fs, a, b, (k, n)⟩
 | _ => wQ
theorem Ff (t : aP) : Lp (dU t) = t := by
 show (⟨framesOf (t.frames.map bA), t.state, t.on, (t.val.1, t.val.2)⟩ : aP) = t
 rw [mG]
theorem aHx (t : aP) : FC Cx 59 [dU t] [] (Bv (decide ((30 : Int) < (t.frames.length : Int)))) [] := by
 have l1 : (t.frames.map bA).length = t.frames.length := List.length_map ..
 refine aD [] Tryz.func59 Tryz.ntmps59 Tryz.results59 ?_
 refine goR ?_
 refine fzB 1 ?_
 (any_goals refine go lv59 0 ?_)
 all_goals (try simp only [go_sem])
theorem aVm {p : aI} {s : aC} {S S2 : List Int} {f : Nat} {args : List AV} {r : AV} (h : FC Cx f args (lkRd p s S) r (lkRd p s S2)) (ha : aX (fun k => k == 2000 || k == 2001) args = true) (hr : bK bR r = true) (v0 v1 a b : Nat) (hab : (a == b) = false) :
  QOk (C := Cx) f [(2000, a, v0), (2001, b, v1)] args (lkRd p s S) r (lkRd p s S2) := by
 have hd : ∀ S, domR (lkRd p s S) = fun k => k == 2000 || k == 2001 := fun S => by
  funext k
  unfold domR
  rw [Qw]
  by_cases h0 : k = 2000
  ·subst h0; rfl
  ·by_cases h1 : k = 2001
   ·subst h1; rfl
   ·rw [if_neg h0, if_neg h1]; simp [h0, h1]
 have hab' : a ≠ b := by simpa using hab
 have hi : ∀ S, ∀ q ∈ lkRd p s S, bP (fun k => k == 2000 || k == 2001) q.2.2 := fun S q hq => by
  rcases List.mem_cons.1 hq with rfl | hq
  ·rfl
  ·obtain rfl := List.mem_singleton.1 hq; trivial
 exact ⟨h, rfl, by simp [ndB, memN, hab'], rfl, by rw [hd]; exact ha, oL hr, by rw [hd]; exact hi S, by rw [hd]; exact hi S2⟩
theorem uL {p : aI} (h : checkF p = 0) : 0 < p.fns.length := by
 unfold checkF at h
 split at h
 ·cases h
 split at h
 ·cases h
 split at h
 ·cases h
 rename_i h1
 cases hp : p.fns with
 | nil => unfold eJ at h1; rw [hp] at h1; exact absurd rfl h1
 | cons f l => simp
theorem Up (p : aI) (s : aC) (hw : Pwf p) (hs : Swf s) : FC Cx 19 [bC p, aH s] [] (Iv (eQ p s)) [] := by
 have hl := hs.len
 have hl1 := hl.threads
 have l1 : (s.threads.map aJ).length = s.threads.length := List.length_map ..
 have hA : ∀ y, y = [cI s.threads, .r (.fn 59 [])] → aQ Cx 58 y (Bv (s.threads.any fun t => decide ((30 : Int) < (t.frames.length : Int)))) := fun y hy => by
  subst hy
  have h := Ka s.threads 59 [] (fun y => ∃ t, y = dU t) (fun y => decide ((30 : Int) < ((Lp y).frames.length : Int))) (by
   rintro _ ⟨t, rfl⟩
   rw [Ff]
   exact aA (aHx t) en59 rfl rfl) (fun x _ => ⟨x, rfl⟩) hl1
  simp only [Ff] at h
  exact aA h en58 rfl rfl
 unfold eQ
 by_cases hp : checkF p = 0
 case neg =>
  rw [if_pos hp]
  have d0 : decide (checkF p = 0) = false := by simpa using hp
  clear hp
  refine aD [ct_check'] Tryz.func19 Tryz.ntmps19 Tryz.results19 ?_
  refine goR ?_
  refine fzB 2 ?_
  refine fzB 3 ?_
  (any_goals refine go lv19 0 ?_)
  all_goals (try simp only [go_sem])
 rw [if_neg (fun h => h hp)]
 have d0 : decide (checkF p = 0) = true := by simpa using hp
 by_cases hc : dE s = 0
 case neg =>
  rw [if_pos hc]
  have d1 : decide (dE s = 0) = false := by simpa using hc
  clear hc hp
  refine aD [ct_check', Bx] Tryz.func19 Tryz.ntmps19 Tryz.results19 ?_
  refine goR ?_
  refine fzB 2 ?_
  refine fzB 3 ?_
  (any_goals refine go lv19 0 ?_)
  all_goals (try simp only [go_sem])
 rw [if_neg (fun h => h hc)]
 have d1 : decide (dE s = 0) = true := by simpa using hc
 have hgo := Cg hw hp
 have hq := aVm (aBc p s hgo (uL hp) hs hc) rfl rfl 1 1 30 28 rfl
 have en : aF Cx.P 61 := en61
 have hf60 := hgo.fns
 have hcok := hgo.cok
 have hsn := Ec
 have hr1 := aBn p s
 unfold yS
 generalize hb2 : (s.threads.any fun t => decide ((30 : Int) < (t.frames.length : Int))) = b2 at *
 clear hc hp
 refine aD [ct_check', Bx, aGz, ctE 58 [cI s.threads, .r (.fn 59 [])] (Bv b2) hA, ctQ 61 [(2000, 30, 1), (2001, 28, 1)] [.os 2000 0] (lkRd p s []) (Bv (iX p s).1) (lkRd p s (iX p s).2) en hq] Tryz.func19 Tryz.ntmps19 Tryz.results19 ?_
 refine goR ?_
 refine fzB 2 ?_
 refine fzB 3 ?_
 (any_goals refine go lv19 0 ?_)
 repeat' (first | (refine Br.go (fun h h' => ?_) (fun h h' => ?_)) | (refine Br.mk (fun h => ?_) (fun h => ?_)))
 all_goals (try simp only [go_sem])
 ·rw [if_pos (by assumption)]
 ·rename_i h1 _
  rw [h1, h']; rfl
 ·rename_i h1 _
  rw [h1, h']; rfl
theorem Nd (xs ys zs : List (List RV)) (ca sh tx th en sd : List (List RV)) (aq sq : Int) (h : ((xs = (fnsOf xs).map fnR ∧ ys = (valsOf ys).map valR ∧ zs = (strsOf zs).map strR) ∧ ca = (cellsOf ca).map aW ∧ sh = (valsOf sh).map valR ∧ tx = (strsOf tx).map strR ∧ th = (threadsOf th).map aJ ∧ en = (aG en).map endR ∧ sd = (valsOf sd).map valR) ∧ Pwf ⟨fnsOf xs, valsOf ys, strsOf zs⟩ ∧ Swf ⟨cellsOf ca, valsOf sh, strsOf tx, threadsOf th, aG en, valsOf sd, aq, sq⟩) : FC Cx 19 [.agg [.r (.rs 5 xs), .r (.rs 2 ys), .r (.rs 1 zs)], .agg [.r (.rs 4 ca), .r (.rs 2 sh), .r (.rs 1 tx), .r (.rs 5 th), .r (.rs 3 en), .r (.rs 2 sd), Iv aq, Iv sq]] [] (Iv (eQ ⟨fnsOf xs, valsOf ys, strsOf zs⟩ ⟨cellsOf ca, valsOf sh, strsOf tx, threadsOf th, aG en, valsOf sd, aq, sq⟩)) [] := by
 have := Up ⟨fnsOf xs, valsOf ys, strsOf zs⟩ ⟨cellsOf ca, valsOf sh, strsOf tx, threadsOf th, aG en, valsOf sd, aq, sq⟩ h.2.1 h.2.2
 rwa [kA h.1.1, iJ _ _ _ _ _ _ _ _ h.1.2] at this
def oF (args : List AV) (K : AV → Prop) : Prop := match args with
 | [.agg [.r (.rs 5 xs), .r (.rs 2 ys), .r (.rs 1 zs)], .agg [.r (.rs 4 ca), .r (.rs 2 sh), .r (.rs 1 tx), .r (.rs 5 th), .r (.rs 3 en), .r (.rs 2 sd), .r (.v (.int .i64 aq)), .r (.v (.int .i64 sq))]] => (((xs = (fnsOf xs).map fnR ∧ ys = (valsOf ys).map valR ∧ zs = (strsOf zs).map strR) ∧ ca = (cellsOf ca).map aW ∧ sh = (valsOf sh).map valR ∧ tx = (strsOf tx).map strR ∧ th = (threadsOf th).map aJ ∧ en = (aG en).map endR ∧ sd = (valsOf sd).map valR) ∧ Pwf ⟨fnsOf xs, valsOf ys, strsOf zs⟩ ∧ Swf ⟨cellsOf ca, valsOf sh, strsOf tx, threadsOf th, aG en, valsOf sd, aq, sq⟩) ∧ K (Iv (eQ ⟨fnsOf xs, valsOf ys, strsOf zs⟩ ⟨cellsOf ca, valsOf sh, strsOf tx, threadsOf th, aG en, valsOf sd, aq, sq⟩))
 | _ => False
noncomputable abbrev lR : Ct Cx := .pure 19 oF fun args K h => by
 unfold oF at h; split at h; exact ⟨_, aA (Nd _ _ _ _ _ _ _ _ _ _ _ h.1) en19 rfl rfl, h.2⟩; exact h.elim
@[go_sem] theorem Xj : type_of% @oF.eq_def := @oF.eq_def
theorem Pm (x y : aC) : decide (x = y) = (decide (x.cells = y.cells) && decide (x.shapes = y.shapes) && decide (x.texts = y.texts) && decide (x.threads = y.threads) && decide (x.ends = y.ends) && decide (x.said = y.said) && decide (x.asked = y.asked) && decide (x.steps = y.steps)) := by
 obtain ⟨a1, a2, a3, a4, a5, a6, a7, a8⟩ := x
 obtain ⟨b1, b2, b3, b4, b5, b6, b7, b8⟩ := y
 simp only [← Bool.decide_and, aC.mk.injEq, and_assoc]
theorem cE {α : Type} (f : α → List RV) (l : List α) {i : Nat} (h : i < l.length) (hl : l.length ≤ 9223372036854775807) : ∃ x, l[i]? = some x ∧ (l.map f).getD i [] = f x ∧ decide ((i : Int) < (l.length : Int)) = true ∧ Int.toNat (i : Int) = i ∧ IntKind.i64.wrap ((i : Int) + 1) = ((i + 1 : Nat) : Int) := by
 have hx : l[i]? = some l[i] := List.getElem?_eq_getElem h
 refine ⟨l[i], hx, aE f hx _, by rw [decide_eq_true_eq]; omega, by omega, by rw [aN] <;> omega⟩
theorem bS {α : Type} (l : List α) : decide ((l.length : Int) < (l.length : Int)) = false := by rw [decide_eq_false_iff_not]; omega
theorem kQ (l m : List (Int × Int)) (hl : l.length ≤ 9223372036854775807) : FC Cx 136 [aT l, aT m] [] (Bv (decide (l = m))) [] := by
 have hlen : (l.map valR).length = l.length := List.length_map ..
 have hlen' : (m.map valR).length = m.length := List.length_map ..
 refine aD [] Tryz.func136 Tryz.ntmps136 Tryz.results136 ?_
 (any_goals refine go aAf 0 ?_)
 repeat' (first | (refine Br.go (fun h h' => ?_) (fun h h' => ?_)) | (refine Br.mk (fun h => ?_) (fun h => ?_)))
 ·simp only [go_sem]
  have : l ≠ m := fun he => h' (by rw [he])
  simp [this]
 have hlm : l.length = m.length := by omega
 refine eB [0, 1, 12, 13] (fun i => i ≤ l.length ∧ ∀ j, j < i → l[j]? = m[j]?) (fun (i : Nat) => ⟨26, [(0, aT l), (1, aT m), (12, Iv m.length), (13, Iv i)], []⟩) (fun i => l.length - i) 0 rfl rfl rfl ⟨Nat.zero_le _, fun j hj => by omega⟩ ?_
 rintro i ⟨hi, hno⟩
 by_cases hlt : i < l.length
 ·obtain ⟨x, hx⟩ : ∃ x, l[i]? = some x := ⟨l[i], List.getElem?_eq_getElem hlt⟩
  obtain ⟨y, hy⟩ : ∃ y, m[i]? = some y := ⟨m[i], List.getElem?_eq_getElem (by omega)⟩
  have hg := aE valR hx ([] : List RV)
  have hg' := aE valR hy ([] : List RV)
  have hw : IntKind.i64.wrap ((i : Int) + 1) = ((i + 1 : Nat) : Int) := by rw [aN] <;> omega
  have h1 : decide ((i : Int) < (m.length : Int)) = true := by rw [decide_eq_true_eq]; omega
  have h2 : Int.toNat (i : Int) = i := by omega
  (any_goals refine go aAf 0 ?_)
  repeat' (first | (refine Br.go (fun h h' => ?_) (fun h h' => ?_)) | (refine Br.mk (fun h => ?_) (fun h => ?_)))
  all_goals (try simp only [go_sem])
  ·have h9 := h
   have : l ≠ m := fun he => by
    rw [he] at hx; rw [hx] at hy
    have := Option.some.inj hy
    subst this
    simp at h9
   simp [this]
  ·refine ⟨i + 1, ⟨by omega, fun j hj => ?_⟩, by omega, fI [0, 1, 12, 13] rfl rfl rfl⟩
   rcases Nat.lt_succ_iff_lt_or_eq.1 hj with h3 | h3
   ·exact hno j h3
   ·rw [h3, hx, hy]; exact congrArg some (by first | exact h' | exact Prod.ext h'.1 h'.2 | (cases x; cases y; simp_all))
 ·have h1 : decide ((i : Int) < (m.length : Int)) = false := by rw [decide_eq_false_iff_not]; omega
  (any_goals refine go aAf 0 ?_)
  all_goals (try simp only [go_sem])
  have : l = m := List.ext_getElem? fun j => by
   by_cases hj : j < i
   ·exact hno j hj
   ·rw [List.getElem?_eq_none (by omega), List.getElem?_eq_none (by omega)]
  simp [this]
theorem Kh (xs ys : List (List RV)) (h : xs = (valsOf xs).map valR ∧ ys = (valsOf ys).map valR ∧ xs.length ≤ 9223372036854775807) : FC Cx 136 [.r (.rs 2 xs), .r (.rs 2 ys)] [] (Bv (decide (valsOf xs = valsOf ys))) [] := by
 have := kQ (valsOf xs) (valsOf ys) (by simpa [valsOf] using h.2.2)
 rwa [fM h.1, fM h.2.1] at this
def mJ (args : List AV) (K : AV → Prop) : Prop := match args with
 | [.r (.rs 2 xs), .r (.rs 2 ys)] => (xs = (valsOf xs).map valR ∧ ys = (valsOf ys).map valR ∧ xs.length ≤ 9223372036854775807) ∧ K (Bv (decide (valsOf xs = valsOf ys)))
 | _ => False
noncomputable abbrev Fz : Ct Cx := .pure 136 mJ fun args K h => by
 unfold mJ at h; split at h; exact ⟨_, aA (Kh _ _ h.1) En rfl rfl, h.2⟩; exact h.elim
@[go_sem] theorem Vy : type_of% @mJ.eq_def := @mJ.eq_def
theorem aGk (s : aC) (k n : Int) : FC Cx 35 [aH s, VV k n] [] (Bv (fitsF s (k, n))) [] := by
 have l1 : (s.cells.map aW).length = s.cells.length := List.length_map ..
 have l2 : (s.texts.map strR).length = s.texts.length := List.length_map ..
 unfold fitsF
 dsimp only
 cases hr : fV k n with
 | false =>
  rw [Bool.false_and]
  refine aD [mX] Tryz.func35 Tryz.ntmps35 Tryz.results35 ?_
  refine goR ?_
  refine fzB 2 ?_
  refine fzB 3 ?_
  (any_goals refine go lv35 0 ?_)
  all_goals (try simp only [go_sem])
 | true =>
 rw [Bool.true_and]
 by_cases k4 : k = 4
 ·subst k4
  rw [if_pos rfl]
  refine aD [mX] Tryz.func35 Tryz.ntmps35 Tryz.results35 ?_
  refine goR ?_
  refine fzB 2 ?_
  refine fzB 3 ?_
  (any_goals refine go lv35 0 ?_)
  all_goals (try simp only [go_sem])
 rw [if_neg k4]
 have d4 : decide (k = 4) = false := by simpa using k4
 by_cases k5 : k = 5
 ·subst k5
  rw [if_pos rfl]
  have h0 := vM hr (.inr rfl)
  by_cases hn : n < (s.cells.length : Int)
  ·have d1 : decide (n < (s.cells.length : Int)) = true := by simpa using hn
   obtain ⟨c, hc⟩ : ∃ c, s.cells[n.toNat]? = some c := ⟨s.cells[n.toNat]'(by omega), List.getElem?_eq_getElem _⟩
   have hg := aE aW hc ([] : List RV)
   rw [mE hc, d1, Bool.true_and]
   refine aD [mX] Tryz.func35 Tryz.ntmps35 Tryz.results35 ?_
   refine goR ?_
   refine fzB 2 ?_
   refine fzB 3 ?_
   (any_goals refine go lv35 0 ?_)
   all_goals (try simp only [go_sem])
  ·have d1 : decide (n < (s.cells.length : Int)) = false := by simpa using hn
   rw [d1, Bool.false_and]
   refine aD [mX] Tryz.func35 Tryz.ntmps35 Tryz.results35 ?_
   refine goR ?_
   refine fzB 2 ?_
   refine fzB 3 ?_
   (any_goals refine go lv35 0 ?_)
   all_goals (try simp only [go_sem])
 rw [if_neg k5]
 have d5 : decide (k = 5) = false := by simpa using k5
 refine aD [mX] Tryz.func35 Tryz.ntmps35 Tryz.results35 ?_
 refine goR ?_
 refine fzB 2 ?_
 refine fzB 3 ?_
 (any_goals refine go lv35 0 ?_)
 all_goals (try simp only [go_sem])
theorem Zl (ca sh tx th en sd : List (List RV)) (aq sq : Int) (k n : Int) (h : ca = (cellsOf ca).map aW ∧ sh = (valsOf sh).map valR ∧ tx = (strsOf tx).map strR ∧ th = (threadsOf th).map aJ ∧ en = (aG en).map endR ∧ sd = (valsOf sd).map valR) : FC Cx 35 [.agg [.r (.rs 4 ca), .r (.rs 2 sh), .r (.rs 1 tx), .r (.rs 5 th), .r (.rs 3 en), .r (.rs 2 sd), Iv aq, Iv sq], VV k n] [] (Bv (fitsF ⟨cellsOf ca, valsOf sh, strsOf tx, threadsOf th, aG en, valsOf sd, aq, sq⟩ (k, n))) [] := by
 have := aGk ⟨cellsOf ca, valsOf sh, strsOf tx, threadsOf th, aG en, valsOf sd, aq, sq⟩ k n
 rwa [iJ _ _ _ _ _ _ _ _ h] at this
def sS (args : List AV) (K : AV → Prop) : Prop := match args with
 | [.agg [.r (.rs 4 ca), .r (.rs 2 sh), .r (.rs 1 tx), .r (.rs 5 th), .r (.rs 3 en), .r (.rs 2 sd), .r (.v (.int .i64 aq)), .r (.v (.int .i64 sq))], .agg [.r (.v (.int .i64 k)), .r (.v (.int .i64 n))]] => (ca = (cellsOf ca).map aW ∧ sh = (valsOf sh).map valR ∧ tx = (strsOf tx).map strR ∧ th = (threadsOf th).map aJ ∧ en = (aG en).map endR ∧ sd = (valsOf sd).map valR) ∧ K (Bv (fitsF ⟨cellsOf ca, valsOf sh, strsOf tx, threadsOf th, aG en, valsOf sd, aq, sq⟩ (k, n)))
 | _ => False
noncomputable abbrev cY : Ct Cx := .pure 35 sS fun args K h => by
 unfold sS at h; split at h; exact ⟨_, aA (Zl _ _ _ _ _ _ _ _ _ _ h.1) en35 rfl rfl, h.2⟩; exact h.elim
@[go_sem] theorem aHi : type_of% @sS.eq_def := @sS.eq_def
theorem aGc (s : aC) (k n q : Int) (hl : s.cells.length ≤ 9223372036854775807) : FC Cx 44 [aH s, VV k n, Iv q] [] (Bv (refF s (k, n) q)) [] := by
 have l1 : (s.cells.map aW).length = s.cells.length := List.length_map ..
 have w1 : IntKind.i64.wrap ((s.cells.length : Int) - 1) = (s.cells.length : Int) - 1 := by rw [aN] <;> omega
 unfold refF
 dsimp only
 by_cases hn : 0 ≤ n ∧ n ≤ (s.cells.length : Int) - 1
 ·have d1 : decide (0 ≤ n ∧ n ≤ (s.cells.length : Int) - 1) = true := by simpa using hn
  obtain ⟨h0, h1⟩ := hn
  have h2 : n < (s.cells.length : Int) := by omega
  obtain ⟨c, hc⟩ : ∃ c, s.cells[n.toNat]? = some c := ⟨s.cells[n.toNat]'(by omega), List.getElem?_eq_getElem _⟩
  have hg := aE aW hc ([] : List RV)
  rw [mE hc, decide_eq_true h0, decide_eq_true h2]
  refine aD [aU] Tryz.func44 Tryz.ntmps44 Tryz.results44 ?_
  refine goR ?_
  refine fzB 3 ?_
  refine fzB 4 ?_
  (any_goals refine go lv44 0 ?_)
  all_goals (try simp only [go_sem])
  all_goals simp
 ·have d1 : decide (0 ≤ n ∧ n ≤ (s.cells.length : Int) - 1) = false := by simpa using hn
  have e : (decide (k = 5) && decide (0 ≤ n) && decide (n < (s.cells.length : Int)) && decide ((s.cells.getD n.toNat cZ).kind = q)) = false := by
   rw [Bool.eq_false_iff]
   simp only [ne_eq, Bool.and_eq_true, decide_eq_true_eq]
   rintro ⟨⟨⟨_, a⟩, b⟩, _⟩
   omega
  rw [e]
  clear e hn
  refine aD [aU] Tryz.func44 Tryz.ntmps44 Tryz.results44 ?_
  refine goR ?_
  refine fzB 3 ?_
  refine fzB 4 ?_
  (any_goals refine go lv44 0 ?_)
  all_goals (try simp only [go_sem])
theorem Wk (ca sh tx th en sd : List (List RV)) (aq sq : Int) (k n q : Int) (h : (ca = (cellsOf ca).map aW ∧ sh = (valsOf sh).map valR ∧ tx = (strsOf tx).map strR ∧ th = (threadsOf th).map aJ ∧ en = (aG en).map endR ∧ sd = (valsOf sd).map valR) ∧ (cellsOf ca).length ≤ 9223372036854775807) : FC Cx 44 [.agg [.r (.rs 4 ca), .r (.rs 2 sh), .r (.rs 1 tx), .r (.rs 5 th), .r (.rs 3 en), .r (.rs 2 sd), Iv aq, Iv sq], VV k n, Iv q] [] (Bv (refF ⟨cellsOf ca, valsOf sh, strsOf tx, threadsOf th, aG en, valsOf sd, aq, sq⟩ (k, n) q)) [] := by
 have := aGc ⟨cellsOf ca, valsOf sh, strsOf tx, threadsOf th, aG en, valsOf sd, aq, sq⟩ k n q h.2
 rwa [iJ _ _ _ _ _ _ _ _ h.1] at this
def tQ (args : List AV) (K : AV → Prop) : Prop := match args with
 | [.agg [.r (.rs 4 ca), .r (.rs 2 sh), .r (.rs 1 tx), .r (.rs 5 th), .r (.rs 3 en), .r (.rs 2 sd), .r (.v (.int .i64 aq)), .r (.v (.int .i64 sq))], .agg [.r (.v (.int .i64 k)), .r (.v (.int .i64 n))], .r (.v (.int .i64 q))] => ((ca = (cellsOf ca).map aW ∧ sh = (valsOf sh).map valR ∧ tx = (strsOf tx).map strR ∧ th = (threadsOf th).map aJ ∧ en = (aG en).map endR ∧ sd = (valsOf sd).map valR) ∧ (cellsOf ca).length ≤ 9223372036854775807) ∧ K (Bv (refF ⟨cellsOf ca, valsOf sh, strsOf tx, threadsOf th, aG en, valsOf sd, aq, sq⟩ (k, n) q))
 | _ => False
noncomputable abbrev cD : Ct Cx := .pure 44 tQ fun args K h => by
 unfold tQ at h; split at h; exact ⟨_, aA (Wk _ _ _ _ _ _ _ _ _ _ _ h.1) en44 rfl rfl, h.2⟩; exact h.elim
@[go_sem] theorem aGm : type_of% @tQ.eq_def := @tQ.eq_def
theorem qF (a b : List aR) (hl : a.length ≤ 9223372036854775807) (ha : ∀ f ∈ a, Gwf f) : FC Cx 77 [bO a, bO b] [] (Bv (decide (a = b))) [] := by
 have hlen : (a.map bA).length = a.length := List.length_map ..
 have hlen' : (b.map bA).length = b.length := List.length_map ..
 refine aD [Fz] Tryz.func77 Tryz.ntmps77 Tryz.results77 ?_
 (any_goals refine go lv77 0 ?_)
 repeat' (first | (refine Br.go (fun h h' => ?_) (fun h h' => ?_)) | (refine Br.mk (fun h => ?_) (fun h => ?_)))
 ·simp only [go_sem]
  have : a ≠ b := fun he => h' (by rw [he])
  simp [this]
 have hlm : b.length = a.length := by omega
 clear h h'
 refine bY (fun x : Nat × Nat => x.1 ≤ a.length ∧ ∀ j, j < x.1 → a[j]? = b[j]?) (fun x => ⟨94, [(1, bO b), (14, bO a), (15, Iv a.length), (16, Iv x.1)], [(6, x.2, .gone), (7, x.2, .gone)]⟩) (fun x => a.length - x.1) (0, 0) ⟨Nat.zero_le _, fun j hj => by omega⟩ ?_
 rintro ⟨i, u⟩ ⟨hi, hno⟩
 dsimp only at hi hno ⊢
 by_cases hlt : i < a.length
 case neg =>
  obtain rfl : i = a.length := by omega
  have e1 := bS a
  have : a = b := List.ext_getElem? fun j => by
   by_cases hj : j < a.length
   ·exact hno j hj
   ·rw [List.getElem?_eq_none (by omega), List.getElem?_eq_none (by omega)]
  rw [decide_eq_true this]
  clear this hno
  (any_goals refine go lv77 0 ?_)
  all_goals (try simp only [go_sem])
 obtain ⟨x, hx, hg, h1, h2, hw⟩ := cE bA a hlt hl
 obtain ⟨y, hy⟩ : ∃ y, b[i]? = some y := ⟨b[i], List.getElem?_eq_getElem (by omega)⟩
 have hg' := aE bA hy ([] : List RV)
 have hfx := ha x (List.mem_of_getElem? hx)
 have hreg := hfx.regs
 have htr := hfx.tries
 have lx1 : (x.regs.map valR).length = x.regs.length := List.length_map ..
 have lx2 : (x.tries.map tryR).length = x.tries.length := List.length_map ..
 have ly2 : (y.tries.map tryR).length = y.tries.length := List.length_map ..
 have hne : x ≠ y → decide (a = b) = false := fun hxy => by
  rw [decide_eq_false_iff_not]
  intro he
  rw [he, hy] at hx
  exact hxy (Option.some.inj hx).symm
 obtain ⟨f1, f2, f3, f4, ⟨f5, f6⟩, f7, f8⟩ := x
 obtain ⟨g1, g2, g3, g4, ⟨g5, g6⟩, g7, g8⟩ := y
 dsimp only at *
 by_cases hH : f1 = g1 ∧ f2 = g2 ∧ f3 = g3 ∧ f4 = g4 ∧ (f5 = g5 ∧ f6 = g6) ∧ f8.length = g8.length ∧ f7 = g7
 case neg =>
  clear hno
  (any_goals refine go lv77 0 ?_)
  repeat' (first | (refine Br.go (fun h h' => ?_) (fun h h' => ?_)) | (refine Br.mk (fun h => ?_) (fun h => ?_)))
  all_goals (try simp only [go_sem])
  all_goals first
   | (rw [hne]; intro he; cases he; first | (simp at h; done) | exact h' rfl | exact h' ⟨rfl, rfl⟩)
   | (refine absurd ?_ hH; clear hH hne hx hy hg hg' hfx; first | (simp_all; done) | (simp_all; omega))
   | (rw [hne]; intro he; simp only [aR.mk.injEq] at he; exact h' he.2.2.2.2.2.1)
 obtain ⟨rfl, rfl, rfl, rfl, ⟨rfl, rfl⟩, hlt8, rfl⟩ := hH
 have d8 : decide ((f8.length : Int) = (g8.length : Int)) = true := by rw [decide_eq_true_eq]; omega
 replace hlt8 := hlt8.symm
 have hE : ∀ z, z = [aT f7, aT f7] → aQ Cx 136 z (Bv true) := fun z hz => by
  have := kQ f7 f7 hreg
  rw [decide_eq_true rfl] at this
  rw [hz]; exact aA this En rfl rfl
 refine Rn_T [ctE 136 [aT f7, aT f7] (Bv true) hE] ?_
 (any_goals refine go lv77 0 ?_)
 refine bY (fun j : Nat => j ≤ f8.length ∧ ∀ k, k < j → f8[k]? = g8[k]?) (fun j => ⟨94, [(1, bO b), (6, .os 6 (u + 1)), (7, .os 7 (u + 1)), (14, bO a), (15, Iv a.length), (16, Iv i), (77, Iv f8.length), (78, Iv j)], [(6, u + 1, .bx [Iv f1, Iv f2, Iv f3, Iv f4, Iv f5, Iv f6, aT f7, cM f8]), (7, u + 1, .bx [Iv f1, Iv f2, Iv f3, Iv f4, Iv f5, Iv f6, aT f7, cM g8])]⟩) (fun j => f8.length - j) 0 ⟨Nat.zero_le _, fun j hj => by omega⟩ ?_
 rintro j ⟨hj, hjno⟩
 by_cases hjl : j < f8.length
 ·obtain ⟨v, hv, hgv, j1, j2, jw⟩ := cE tryR f8 hjl htr
  obtain ⟨v', hv'⟩ : ∃ y, g8[j]? = some y := ⟨g8[j], List.getElem?_eq_getElem (by omega)⟩
  have hgv' := aE tryR hv' ([] : List RV)
  (any_goals refine go lv77 0 ?_)
  repeat' (first | (refine Br.go (fun h h' => ?_) (fun h h' => ?_)) | (refine Br.mk (fun h => ?_) (fun h => ?_)))
  ·(try simp only [go_sem])
   rw [hne]
   intro he
   have he8 : f8 = g8 := congrArg aR.tries he
   rw [he8, hv'] at hv
   have := Option.some.inj hv
   subst this
   simp at h'
  ·(try simp only [go_sem])
   refine ⟨j + 1, ⟨by omega, fun k hk => ?_⟩, by omega, bF⟩
   rcases Nat.lt_succ_iff_lt_or_eq.1 hk with h3 | h3
   ·exact hjno k h3
   ·rw [h3, hv, hv']; exact congrArg some (Prod.ext h'.1 h'.2)
 obtain rfl : j = f8.length := by omega
 have j1 := bS f8
 have e8 : f8 = g8 := List.ext_getElem? fun k => by
  by_cases hk : k < f8.length
  ·exact hjno k hk
  ·rw [List.getElem?_eq_none (by omega), List.getElem?_eq_none (by omega)]
 have hxy : a[i]? = b[i]? := by
  rw [hx, hy, e8]
 clear hjno e8
 (any_goals refine go lv77 0 ?_)
 refine ⟨(i + 1, u + 9), ⟨by dsimp only; omega, fun k hk => ?_⟩, by dsimp only; omega, ?_⟩
 ·dsimp only at hk
  rcases Nat.lt_succ_iff_lt_or_eq.1 hk with h3 | h3
  ·exact hno k h3
  ·rw [h3]; exact hxy
 ·dsimp only
  exact bF
def lX (a b : aC) : Bool := decide (a.cells = b.cells) && decide (a.shapes = b.shapes) && decide (a.texts = b.texts) && decide (a.ends = b.ends) && decide (a.said = b.said)
theorem iO {a b : aC} : lX a b = true ↔ a.cells = b.cells ∧ a.shapes = b.shapes ∧ a.texts = b.texts ∧ a.ends = b.ends ∧ a.said = b.said := by
 unfold lX
 simp only [Bool.and_eq_true, decide_eq_true_eq, and_assoc]
theorem Pd (a b : aC) (ha : Swf a) (hb : Swf b) : FC Cx 76 [aH a, aH b] [] (Bv (lX a b)) [] := by
 obtain ⟨m1, m2, m3, m4, m5, m6⟩ := ha.len
 have la1 : (a.cells.map aW).length = a.cells.length := List.length_map ..
 have la2 : (a.shapes.map valR).length = a.shapes.length := List.length_map ..
 have la3 : (a.texts.map strR).length = a.texts.length := List.length_map ..
 have la4 : (a.ends.map endR).length = a.ends.length := List.length_map ..
 have la5 : (a.said.map valR).length = a.said.length := List.length_map ..
 have lb1 : (b.cells.map aW).length = b.cells.length := List.length_map ..
 have lb2 : (b.shapes.map valR).length = b.shapes.length := List.length_map ..
 have lb3 : (b.texts.map strR).length = b.texts.length := List.length_map ..
 have lb4 : (b.ends.map endR).length = b.ends.length := List.length_map ..
 by_cases hH : a.cells.length = b.cells.length ∧ a.shapes.length = b.shapes.length ∧ a.texts.length = b.texts.length ∧ a.ends.length = b.ends.length ∧ a.said = b.said
 case neg =>
  have hF : lX a b = false := by
   rw [Bool.eq_false_iff]
   intro hT
   obtain ⟨e1, e2, e3, e4, e5⟩ := iO.1 hT
   exact hH ⟨by rw [e1], by rw [e2], by rw [e3], by rw [e4], e5⟩
  rw [hF]
  clear hF
  obtain ⟨c1, k1⟩ : ∃ c, decide ((a.cells.length : Int) = (b.cells.length : Int)) = c := ⟨_, rfl⟩
  obtain ⟨c2, k2⟩ : ∃ c, decide ((a.shapes.length : Int) = (b.shapes.length : Int)) = c := ⟨_, rfl⟩
  obtain ⟨c3, k3⟩ : ∃ c, decide ((a.texts.length : Int) = (b.texts.length : Int)) = c := ⟨_, rfl⟩
  obtain ⟨c4, k4⟩ : ∃ c, decide ((a.ends.length : Int) = (b.ends.length : Int)) = c := ⟨_, rfl⟩
  obtain ⟨c5, k5⟩ : ∃ c, decide (a.said = b.said) = c := ⟨_, rfl⟩
  have hE : ∀ z, z = [aT a.said, aT b.said] → aQ Cx 136 z (Bv c5) := fun z hz => by
   have := kQ a.said b.said m6
   rw [k5] at this
   rw [hz]; exact aA this En rfl rfl
  have hb : (c1 && c2 && c3 && c4 && c5) = false := by
   rw [← k1, ← k2, ← k3, ← k4, ← k5, Bool.eq_false_iff]
   simp only [ne_eq, Bool.and_eq_true, decide_eq_true_eq]
   rintro ⟨⟨⟨⟨q1, q2⟩, q3⟩, q4⟩, q5⟩
   exact hH ⟨by omega, by omega, by omega, by omega, q5⟩
  clear hH k5
  cases c1 with
  | false =>
   refine aD [ctE 136 [aT a.said, aT b.said] (Bv c5) hE] Tryz.func76 Tryz.ntmps76 Tryz.results76 ?_
   refine goR ?_
   refine fzB 2 ?_
   refine fzB 3 ?_
   (any_goals refine go lv76 0 ?_)
   all_goals (try simp only [go_sem])
  | true =>
  cases c2 with
  | false =>
   refine aD [ctE 136 [aT a.said, aT b.said] (Bv c5) hE] Tryz.func76 Tryz.ntmps76 Tryz.results76 ?_
   refine goR ?_
   refine fzB 2 ?_
   refine fzB 3 ?_
   (any_goals refine go lv76 0 ?_)
   all_goals (try simp only [go_sem])
  | true =>
  cases c3 with
  | false =>
   refine aD [ctE 136 [aT a.said, aT b.said] (Bv c5) hE] Tryz.func76 Tryz.ntmps76 Tryz.results76 ?_
   refine goR ?_
   refine fzB 2 ?_
   refine fzB 3 ?_
   (any_goals refine go lv76 0 ?_)
   all_goals (try simp only [go_sem])
  | true =>
  cases c4 with
  | false =>
   refine aD [ctE 136 [aT a.said, aT b.said] (Bv c5) hE] Tryz.func76 Tryz.ntmps76 Tryz.results76 ?_
   refine goR ?_
   refine fzB 2 ?_
   refine fzB 3 ?_
   (any_goals refine go lv76 0 ?_)
   all_goals (try simp only [go_sem])
  | true =>
  cases c5 with
  | false =>
   refine aD [ctE 136 [aT a.said, aT b.said] (Bv false) hE] Tryz.func76 Tryz.ntmps76 Tryz.results76 ?_
   refine goR ?_
   refine fzB 2 ?_
   refine fzB 3 ?_
   (any_goals refine go lv76 0 ?_)
   all_goals (try simp only [go_sem])
  | true => cases hb
 obtain ⟨n1, n2, n3, n4, q5⟩ := hH
 have hE : ∀ z, z = [aT a.said, aT b.said] → aQ Cx 136 z (Bv true) := fun z hz => by
  have := kQ a.said b.said m6
  rw [decide_eq_true q5] at this
  rw [hz]; exact aA this En rfl rfl
 have k1 : decide ((a.cells.length : Int) = (b.cells.length : Int)) = true := by rw [decide_eq_true_eq]; omega
 have k2 : decide ((a.shapes.length : Int) = (b.shapes.length : Int)) = true := by rw [decide_eq_true_eq]; omega
 have k3 : decide ((a.texts.length : Int) = (b.texts.length : Int)) = true := by rw [decide_eq_true_eq]; omega
 have k4 : decide ((a.ends.length : Int) = (b.ends.length : Int)) = true := by rw [decide_eq_true_eq]; omega
 replace n1 := n1.symm
 replace n2 := n2.symm
 replace n3 := n3.symm
 replace n4 := n4.symm
 have q5' : ∀ z, z = a.said → z = b.said := fun z hz => hz.trans q5
 clear q5
 refine aD [ctE 136 [aT a.said, aT b.said] (Bv true) hE] Tryz.func76 Tryz.ntmps76 Tryz.results76 ?_
 refine goR ?_
 refine fzB 2 ?_
 refine fzB 3 ?_
 (any_goals refine go lv76 0 ?_)
 refine bY (fun x : Nat × Nat => x.1 ≤ a.cells.length ∧ ∀ j, j < x.1 → a.cells[j]? = b.cells[j]?) (fun x => ⟨149, [(2, bT a), (3, bT b), (54, dO a.cells), (55, Iv a.cells.length), (56, Iv x.1)], [(2, 2, .gone), (3, 2, .gone), (6, x.2, .gone), (7, x.2, .gone)]⟩) (fun x => a.cells.length - x.1) (0, 0) ⟨Nat.zero_le _, fun j hj => by omega⟩ ?_
 rintro ⟨i, u⟩ ⟨hi, hno⟩
 dsimp only at hi hno ⊢
 by_cases hlt : i < a.cells.length
 ·obtain ⟨x, hx, hg, h1, h2, hw⟩ := cE aW a.cells hlt (by omega)
  obtain ⟨y, hy⟩ : ∃ y, b.cells[i]? = some y := ⟨b.cells[i], List.getElem?_eq_getElem (by omega)⟩
  have hg' := aE aW hy ([] : List RV)
  have hcx := ha.cell x (List.mem_of_getElem? hx)
  have hv := hcx.vals
  have hfl := hcx.frames
  have hfr := hcx.frame
  have lx1 : (x.vals.map valR).length = x.vals.length := List.length_map ..
  have lx2 : (x.frames.map bA).length = x.frames.length := List.length_map ..
  have hne : x ≠ y → lX a b = false := fun hxy => by
   rw [Bool.eq_false_iff]
   intro hT
   obtain ⟨e1, _⟩ := iO.1 hT
   rw [e1, hy] at hx
   exact hxy (Option.some.inj hx).symm
  obtain ⟨f1, f2, f3, f4⟩ := x
  obtain ⟨g1, g2, g3, g4⟩ := y
  dsimp only at *
  by_cases hH : f1 = g1 ∧ f2 = g2 ∧ f3 = g3 ∧ f4 = g4
  ·obtain ⟨rfl, rfl, rfl, rfl⟩ := hH
   have hV : ∀ z, z = [aT f3, aT f3] → aQ Cx 136 z (Bv true) := fun z hz => by
    have := kQ f3 f3 hv
    rw [decide_eq_true rfl] at this
    rw [hz]; exact aA this En rfl rfl
   have hFr : ∀ z, z = [bO f4, bO f4] → aQ Cx 77 z (Bv true) := fun z hz => by
    have := qF f4 f4 hfl hfr
    rw [decide_eq_true rfl] at this
    rw [hz]; exact aA this en77 rfl rfl
   refine Rn_T [ctE 136 [aT f3, aT f3] (Bv true) hV, ctE 77 [bO f4, bO f4] (Bv true) hFr] ?_
   (any_goals refine go lv76 0 ?_)
   refine ⟨(i + 1, u + 9), ⟨by dsimp only; omega, fun k hk => ?_⟩, by dsimp only; omega, ?_⟩
   ·dsimp only at hk
    rcases Nat.lt_succ_iff_lt_or_eq.1 hk with h3 | h3
    ·exact hno k h3
    ·rw [h3, hx, hy]
   ·dsimp only
    exact bF
  ·have hF := hne (fun he => hH (by cases he; exact ⟨rfl, rfl, rfl, rfl⟩))
   rw [hF]
   obtain ⟨c1, r1⟩ : ∃ c, decide (f1 = g1) = c := ⟨_, rfl⟩
   obtain ⟨c2, r2⟩ : ∃ c, decide (f2 = g2) = c := ⟨_, rfl⟩
   obtain ⟨c3, r3⟩ : ∃ c, decide (f3 = g3) = c := ⟨_, rfl⟩
   obtain ⟨c4, r4⟩ : ∃ c, decide (f4 = g4) = c := ⟨_, rfl⟩
   have hV : ∀ z, z = [aT f3, aT g3] → aQ Cx 136 z (Bv c3) := fun z hz => by
    have := kQ f3 g3 hv
    rw [r3] at this
    rw [hz]; exact aA this En rfl rfl
   have hFr : ∀ z, z = [bO f4, bO g4] → aQ Cx 77 z (Bv c4) := fun z hz => by
    have := qF f4 g4 hfl hfr
    rw [r4] at this
    rw [hz]; exact aA this en77 rfl rfl
   have hb : (c1 && c2 && c3 && c4) = false := by
    rw [← r1, ← r2, ← r3, ← r4, Bool.eq_false_iff]
    simp only [ne_eq, Bool.and_eq_true, decide_eq_true_eq]
    rintro ⟨⟨⟨q1, q2⟩, q3⟩, q4⟩
    exact hH ⟨q1, q2, q3, q4⟩
   clear hH hne hno hF r3 r4
   refine Rn_T [ctE 136 [aT f3, aT g3] (Bv c3) hV, ctE 77 [bO f4, bO g4] (Bv c4) hFr] ?_
   cases c1 with
   | false =>
    (any_goals refine go lv76 0 ?_)
    all_goals (try simp only [go_sem])
   | true =>
   cases c2 with
   | false =>
    (any_goals refine go lv76 0 ?_)
    all_goals (try simp only [go_sem])
   | true =>
   cases c3 with
   | false =>
    (any_goals refine go lv76 0 ?_)
    all_goals (try simp only [go_sem])
   | true =>
   cases c4 with
   | false =>
    (any_goals refine go lv76 0 ?_)
    all_goals (try simp only [go_sem])
   | true => cases hb
 obtain rfl : i = a.cells.length := by omega
 have e1 := bS a.cells
 have qc : ∀ z, z = a.cells → z = b.cells := fun z hz => by
  rw [hz]
  exact List.ext_getElem? fun j => by
   by_cases hj : j < a.cells.length
   ·exact hno j hj
   ·rw [List.getElem?_eq_none (by omega), List.getElem?_eq_none (by omega)]
 clear hno hi hlt
 (any_goals refine go lv76 0 ?_)
 refine bY (fun i : Nat => i ≤ a.shapes.length ∧ ∀ j, j < i → a.shapes[j]? = b.shapes[j]?) (fun i => ⟨149, [(2, bT a), (3, bT b), (97, Iv a.shapes.length), (98, Iv i)], [(2, 2, .gone), (3, 2, .gone), (6, u, .gone), (7, u, .gone)]⟩) (fun i => a.shapes.length - i) 0 ⟨Nat.zero_le _, fun j hj => by omega⟩ ?_
 rintro i ⟨hi, hno⟩
 by_cases hlt : i < a.shapes.length
 ·obtain ⟨x, hx, hg, h1, h2, hw⟩ := cE valR a.shapes hlt (by omega)
  obtain ⟨y, hy⟩ : ∃ y, b.shapes[i]? = some y := ⟨b.shapes[i], List.getElem?_eq_getElem (by omega)⟩
  have hg' := aE valR hy ([] : List RV)
  skip
  (any_goals refine go lv76 0 ?_)
  repeat' (first | (refine Br.go (fun h h' => ?_) (fun h h' => ?_)) | (refine Br.mk (fun h => ?_) (fun h => ?_)))
  all_goals (try simp only [go_sem])
  ·have hF : lX a b = false := by
    rw [Bool.eq_false_iff]
    intro hT
    obtain ⟨e1, e2, e3, e4, e5⟩ := iO.1 hT
    rw [e2, hy] at hx
    have := Option.some.inj hx
    subst this
    simp at h
   rw [hF]
  ·refine ⟨i + 1, ⟨by omega, fun j hj => ?_⟩, by omega, bF⟩
   rcases Nat.lt_succ_iff_lt_or_eq.1 hj with h3 | h3
   ·exact hno j h3
   ·rw [h3, hx, hy]; exact congrArg some (by first | exact h' | exact Prod.ext h'.1 h'.2 | (cases x; cases y; clear hx hy hg hg' hno; simp_all [Prod.ext_iff]; done))
 obtain rfl : i = a.shapes.length := by omega
 have e1 := bS a.shapes
 have qs : ∀ z, z = a.shapes → z = b.shapes := fun z hz => by
  rw [hz]
  exact List.ext_getElem? fun j => by
   by_cases hj : j < a.shapes.length
   ·exact hno j hj
   ·rw [List.getElem?_eq_none (by omega), List.getElem?_eq_none (by omega)]
 clear hno hi hlt
 (any_goals refine go lv76 0 ?_)
 refine bY (fun i : Nat => i ≤ a.texts.length ∧ ∀ j, j < i → a.texts[j]? = b.texts[j]?) (fun i => ⟨149, [(2, bT a), (3, bT b), (115, Iv a.texts.length), (116, Iv i)], [(2, 2, .gone), (3, 2, .gone), (6, u, .gone), (7, u, .gone)]⟩) (fun i => a.texts.length - i) 0 ⟨Nat.zero_le _, fun j hj => by omega⟩ ?_
 rintro i ⟨hi, hno⟩
 by_cases hlt : i < a.texts.length
 ·obtain ⟨x, hx, hg, h1, h2, hw⟩ := cE strR a.texts hlt (by omega)
  obtain ⟨y, hy⟩ : ∃ y, b.texts[i]? = some y := ⟨b.texts[i], List.getElem?_eq_getElem (by omega)⟩
  have hg' := aE strR hy ([] : List RV)
  skip
  (any_goals refine go lv76 0 ?_)
  repeat' (first | (refine Br.go (fun h h' => ?_) (fun h h' => ?_)) | (refine Br.mk (fun h => ?_) (fun h => ?_)))
  all_goals (try simp only [go_sem])
  ·have hF : lX a b = false := by
    rw [Bool.eq_false_iff]
    intro hT
    obtain ⟨e1, e2, e3, e4, e5⟩ := iO.1 hT
    rw [e3, hy] at hx
    have := Option.some.inj hx
    subst this
    simp at h
   rw [hF]
  ·refine ⟨i + 1, ⟨by omega, fun j hj => ?_⟩, by omega, bF⟩
   rcases Nat.lt_succ_iff_lt_or_eq.1 hj with h3 | h3
   ·exact hno j h3
   ·rw [h3, hx, hy]; exact congrArg some (by first | exact h' | exact Prod.ext h'.1 h'.2 | (cases x; cases y; clear hx hy hg hg' hno; simp_all [Prod.ext_iff]; done))
 obtain rfl : i = a.texts.length := by omega
 have e1 := bS a.texts
 have qt : ∀ z, z = a.texts → z = b.texts := fun z hz => by
  rw [hz]
  exact List.ext_getElem? fun j => by
   by_cases hj : j < a.texts.length
   ·exact hno j hj
   ·rw [List.getElem?_eq_none (by omega), List.getElem?_eq_none (by omega)]
 clear hno hi hlt
 (any_goals refine go lv76 0 ?_)
 refine bY (fun i : Nat => i ≤ a.ends.length ∧ ∀ j, j < i → a.ends[j]? = b.ends[j]?) (fun i => ⟨149, [(2, bT a), (3, bT b), (133, Iv a.ends.length), (134, Iv i)], [(2, 2, .gone), (3, 2, .gone), (6, u, .gone), (7, u, .gone)]⟩) (fun i => a.ends.length - i) 0 ⟨Nat.zero_le _, fun j hj => by omega⟩ ?_
 rintro i ⟨hi, hno⟩
 by_cases hlt : i < a.ends.length
 ·obtain ⟨x, hx, hg, h1, h2, hw⟩ := cE endR a.ends hlt (by omega)
  obtain ⟨y, hy⟩ : ∃ y, b.ends[i]? = some y := ⟨b.ends[i], List.getElem?_eq_getElem (by omega)⟩
  have hg' := aE endR hy ([] : List RV)
  skip
  (any_goals refine go lv76 0 ?_)
  repeat' (first | (refine Br.go (fun h h' => ?_) (fun h h' => ?_)) | (refine Br.mk (fun h => ?_) (fun h => ?_)))
  all_goals (try simp only [go_sem])
  ·have hF : lX a b = false := by
    rw [Bool.eq_false_iff]
    intro hT
    obtain ⟨e1, e2, e3, e4, e5⟩ := iO.1 hT
    rw [e4, hy] at hx
    have := Option.some.inj hx
    subst this
    simp at h
   rw [hF]
  ·refine ⟨i + 1, ⟨by omega, fun j hj => ?_⟩, by omega, bF⟩
   rcases Nat.lt_succ_iff_lt_or_eq.1 hj with h3 | h3
   ·exact hno j h3
   ·rw [h3, hx, hy]; exact congrArg some (by first | exact h' | exact Prod.ext h'.1 h'.2 | (cases x; cases y; clear hx hy hg hg' hno; simp_all [Prod.ext_iff]; done))
 obtain rfl : i = a.ends.length := by omega
 have e1 := bS a.ends
 have qe : ∀ z, z = a.ends → z = b.ends := fun z hz => by
  rw [hz]
  exact List.ext_getElem? fun j => by
   by_cases hj : j < a.ends.length
   ·exact hno j hj
   ·rw [List.getElem?_eq_none (by omega), List.getElem?_eq_none (by omega)]
 clear hno hi hlt
 have hF : lX a b = true := iO.2 ⟨qc _ rfl, qs _ rfl, qt _ rfl, qe _ rfl, q5' _ rfl⟩
 rw [hF]
 clear hF qc qs qt qe q5'
 (any_goals refine go lv76 0 ?_)
 all_goals (try simp only [go_sem])
theorem vQ (a b : aC) (ha : Swf a) (hb : Swf b) : FC Cx 30 [aH a, aH b] [] (Bv (decide (a = b))) [] := by
 obtain ⟨m1, m2, m3, m4, m5, m6⟩ := ha.len
 have la1 : (a.threads.map aJ).length = a.threads.length := List.length_map ..
 have lb1 : (b.threads.map aJ).length = b.threads.length := List.length_map ..
 obtain ⟨c0, k0⟩ : ∃ c, lX a b = c := ⟨_, rfl⟩
 have hE : ∀ z, z = [aH a, aH b] → aQ Cx 76 z (Bv c0) := fun z hz => by
  have := Pd a b ha hb
  rw [k0] at this
  rw [hz]; exact aA this en76 rfl rfl
 obtain ⟨c1, k1⟩ : ∃ c, decide ((a.threads.length : Int) = (b.threads.length : Int)) = c := ⟨_, rfl⟩
 obtain ⟨c2, k2⟩ : ∃ c, decide (a.asked = b.asked) = c := ⟨_, rfl⟩
 obtain ⟨c3, k3⟩ : ∃ c, decide (a.steps = b.steps) = c := ⟨_, rfl⟩
 by_cases hb0 : (c0 && c1 && c2 && c3) = false
 ·have hF : decide (a = b) = false := by
   rw [decide_eq_false_iff_not]
   rintro rfl
   rw [← k0, ← k1, ← k2, ← k3] at hb0
   have : lX a a = true := iO.2 ⟨rfl, rfl, rfl, rfl, rfl⟩
   rw [this] at hb0
   simp at hb0
  rw [hF]
  clear hF k0
  cases c0 with
  | false =>
   refine aD [ctE 76 [aH a, aH b] (Bv false) hE] Tryz.func30 Tryz.ntmps30 Tryz.results30 ?_
   refine goR ?_
   refine fzB 2 ?_
   refine fzB 3 ?_
   (any_goals refine go lv30 0 ?_)
   all_goals (try simp only [go_sem])
  | true =>
  cases c1 with
  | false =>
   refine aD [ctE 76 [aH a, aH b] (Bv true) hE] Tryz.func30 Tryz.ntmps30 Tryz.results30 ?_
   refine goR ?_
   refine fzB 2 ?_
   refine fzB 3 ?_
   (any_goals refine go lv30 0 ?_)
   all_goals (try simp only [go_sem])
  | true =>
  cases c2 with
  | false =>
   refine aD [ctE 76 [aH a, aH b] (Bv true) hE] Tryz.func30 Tryz.ntmps30 Tryz.results30 ?_
   refine goR ?_
   refine fzB 2 ?_
   refine fzB 3 ?_
   (any_goals refine go lv30 0 ?_)
   all_goals (try simp only [go_sem])
  | true =>
  cases c3 with
  | false =>
   refine aD [ctE 76 [aH a, aH b] (Bv true) hE] Tryz.func30 Tryz.ntmps30 Tryz.results30 ?_
   refine goR ?_
   refine fzB 2 ?_
   refine fzB 3 ?_
   (any_goals refine go lv30 0 ?_)
   all_goals (try simp only [go_sem])
  | true => cases hb0
 have hb1 : c0 = true ∧ c1 = true ∧ c2 = true ∧ c3 = true := by
  rw [Bool.not_eq_false, Bool.and_eq_true, Bool.and_eq_true, Bool.and_eq_true] at hb0
  exact ⟨hb0.1.1.1, hb0.1.1.2, hb0.1.2, hb0.2⟩
 clear hb0
 obtain ⟨rfl, rfl, rfl, rfl⟩ := hb1
 have hlen : b.threads.length = a.threads.length := by simp at k1; omega
 have hkeep : ∀ z : Bool, z = true → lX a b = z := fun z hz => by rw [k0, hz]
 clear k0
 refine aD [ctE 76 [aH a, aH b] (Bv true) hE] Tryz.func30 Tryz.ntmps30 Tryz.results30 ?_
 refine goR ?_
 refine fzB 2 ?_
 refine fzB 3 ?_
 (any_goals refine go lv30 0 ?_)
 refine bY (fun x : Nat × Nat => x.1 ≤ a.threads.length ∧ ∀ j, j < x.1 → a.threads[j]? = b.threads[j]?) (fun x => ⟨76, [(3, bT b), (36, cI a.threads), (37, Iv a.threads.length), (38, Iv x.1)], [(2, 2, .gone), (3, 2, .gone), (6, x.2, .gone), (7, x.2, .gone)]⟩) (fun x => a.threads.length - x.1) (0, 0) ⟨Nat.zero_le _, fun j hj => by omega⟩ ?_
 rintro ⟨i, u⟩ ⟨hi, hno⟩
 dsimp only at hi hno ⊢
 by_cases hlt : i < a.threads.length
 case neg =>
  obtain rfl : i = a.threads.length := by omega
  have e1 := bS a.threads
  have qt : a.threads = b.threads := List.ext_getElem? fun j => by
   by_cases hj : j < a.threads.length
   ·exact hno j hj
   ·rw [List.getElem?_eq_none (by omega), List.getElem?_eq_none (by omega)]
  have hF : decide (a = b) = true := by
   obtain ⟨q1, q2, q3, q4, q5⟩ := iO.1 (hkeep true rfl)
   rw [Pm, decide_eq_true q1, decide_eq_true q2, decide_eq_true q3, decide_eq_true q4, decide_eq_true q5, decide_eq_true qt, k2, k3]; rfl
  rw [hF]
  clear hF qt hno hkeep
  (any_goals refine go lv30 0 ?_)
  all_goals (try simp only [go_sem])
 obtain ⟨x, hx, hg, h1, h2, hw⟩ := cE aJ a.threads hlt (by omega)
 obtain ⟨y, hy⟩ : ∃ y, b.threads[i]? = some y := ⟨b.threads[i], List.getElem?_eq_getElem (by omega)⟩
 have hg' := aE aJ hy ([] : List RV)
 obtain ⟨hfl, hfr⟩ := ha.thread x (List.mem_of_getElem? hx)
 have lx2 : (x.frames.map bA).length = x.frames.length := List.length_map ..
 have hne : x ≠ y → decide (a = b) = false := fun hxy => by
  rw [decide_eq_false_iff_not]
  intro he
  rw [he, hy] at hx
  exact hxy (Option.some.inj hx).symm
 obtain ⟨f4, f1, f2, ⟨f3, f3'⟩⟩ := x
 obtain ⟨g4, g1, g2, ⟨g3, g3'⟩⟩ := y
 dsimp only at *
 obtain ⟨d1, r1⟩ : ∃ c, decide (f1 = g1) = c := ⟨_, rfl⟩
 obtain ⟨d2, r2⟩ : ∃ c, decide (f2 = g2) = c := ⟨_, rfl⟩
 obtain ⟨d3, r3⟩ : ∃ c, decide (f3 = g3) = c := ⟨_, rfl⟩
 obtain ⟨d3', r3'⟩ : ∃ c, decide (f3' = g3') = c := ⟨_, rfl⟩
 obtain ⟨d4, r4⟩ : ∃ c, decide (f4 = g4) = c := ⟨_, rfl⟩
 have hFr : ∀ z, z = [bO f4, bO g4] → aQ Cx 77 z (Bv d4) := fun z hz => by
  have := qF f4 g4 hfl hfr
  rw [r4] at this
  rw [hz]; exact aA this en77 rfl rfl
 refine Rn_T [ctE 77 [bO f4, bO g4] (Bv d4) hFr] ?_
 by_cases hb0 : (d1 && d2 && (d3 && d3') && d4) = false
 ·have hF := hne (fun he => by
   cases he
   rw [← r1, ← r2, ← r3, ← r3', ← r4] at hb0
   simp at hb0)
  rw [hF]
  clear hF hne hno r4 hkeep
  cases d1 with
  | false =>
   (any_goals refine go lv30 0 ?_)
   all_goals (try simp only [go_sem])
  | true =>
  cases d2 with
  | false =>
   (any_goals refine go lv30 0 ?_)
   all_goals (try simp only [go_sem])
  | true =>
  cases d3 with
  | false =>
   (any_goals refine go lv30 0 ?_)
   all_goals (try simp only [go_sem])
  | true =>
  cases d3' with
  | false =>
   (any_goals refine go lv30 0 ?_)
   all_goals (try simp only [go_sem])
  | true =>
  cases d4 with
  | false =>
   (any_goals refine go lv30 0 ?_)
   all_goals (try simp only [go_sem])
  | true => cases hb0
 have hb1 : d1 = true ∧ d2 = true ∧ (d3 = true ∧ d3' = true) ∧ d4 = true := by
  rw [Bool.not_eq_false, Bool.and_eq_true, Bool.and_eq_true, Bool.and_eq_true, Bool.and_eq_true] at hb0
  exact ⟨hb0.1.1.1, hb0.1.1.2, hb0.1.2, hb0.2⟩
 clear hb0
 obtain ⟨rfl, rfl, ⟨rfl, rfl⟩, rfl⟩ := hb1
 have hxy : ∀ k, k < i + 1 → a.threads[k]? = b.threads[k]? := fun k hk => by
  rcases Nat.lt_succ_iff_lt_or_eq.1 hk with h3 | h3
  ·exact hno k h3
  ·simp only [decide_eq_true_eq] at r1 r2 r3 r3' r4
   rw [h3, hx, hy, r1, r2, r3, r3', r4]
 clear r4 hne hno hkeep
 (any_goals refine go lv30 0 ?_)
 refine ⟨(i + 1, u + 9), ⟨by dsimp only; omega, hxy⟩, by dsimp only; omega, ?_⟩
 dsimp only
 exact bF
def Wt (args : List AV) (K : AV → Prop) : Prop := match args with
 | [.agg [.r (.rs 4 ca), .r (.rs 2 sh), .r (.rs 1 tx), .r (.rs 5 th), .r (.rs 3 en), .r (.rs 2 sd), .r (.v (.int .i64 aq)), .r (.v (.int .i64 sq))], .agg [.r (.rs 4 ca'), .r (.rs 2 sh'), .r (.rs 1 tx'), .r (.rs 5 th'), .r (.rs 3 en'), .r (.rs 2 sd'), .r (.v (.int .i64 aq')), .r (.v (.int .i64 sq'))]] =>
  (((ca = (cellsOf ca).map aW ∧ sh = (valsOf sh).map valR ∧ tx = (strsOf tx).map strR ∧ th = (threadsOf th).map aJ ∧ en = (aG en).map endR ∧ sd = (valsOf sd).map valR) ∧ (ca' = (cellsOf ca').map aW ∧ sh' = (valsOf sh').map valR ∧ tx' = (strsOf tx').map strR ∧ th' = (threadsOf th').map aJ ∧ en' = (aG en').map endR ∧ sd' = (valsOf sd').map valR)) ∧ Swf ⟨cellsOf ca, valsOf sh, strsOf tx, threadsOf th, aG en, valsOf sd, aq, sq⟩ ∧ Swf ⟨cellsOf ca', valsOf sh', strsOf tx', threadsOf th', aG en', valsOf sd', aq', sq'⟩) ∧ K (Bv (decide (⟨cellsOf ca, valsOf sh, strsOf tx, threadsOf th, aG en, valsOf sd, aq, sq⟩ = (⟨cellsOf ca', valsOf sh', strsOf tx', threadsOf th', aG en', valsOf sd', aq', sq'⟩ : aC))))
 | _ => False
attribute [go_sem] Wt
structure Wide (f f' : FnT) : Prop where
 params : f'.params = f.params
 regs : f.regs ≤ f'.regs
 gen : f'.gen = f.gen
 caught : f'.caught = f.caught
 code : f'.code = f.code
theorem Wide.rfl {f : FnT} : Wide f f := ⟨_root_.rfl, Int.le_refl _, _root_.rfl, _root_.rfl, _root_.rfl⟩
section
variable {p : aI}
end
theorem Bb {s : aC} {n q : Int} (h : refF s (5, n) q = true) : 0 ≤ n ∧ n < (s.cells.length : Int) ∧ (s.cells.getD n.toNat cZ).kind = q := by
 unfold refF at h
 simp only [Bool.and_eq_true, decide_eq_true_eq] at h
 exact ⟨h.1.1.2, h.1.2, h.2⟩
section
variable {C : Ctx} {T : List (Ct C)} {L : List (Nat × List Nat)} {n : Nat} {B B1 B2 : Prop} {r r' r'' : List It} {st st' : St} {K : Exit → St → Prop} {A : St → Prop}
variable {k k' : Nat} {done done' : List (Nat × Nat)} {o : Oper} {l : List Oper} {j d d' : Nat} {b w q : Bool} {x : AV}
variable {fps fps' : List (List Loc × List Loc)} {edges : List (List Nat)} {rds : List Loc} {ws : List (Loc × Cont)}
theorem goN (L : List (Nat × List Nat)) (n : Nat) (hb : B)
  (h : Gw T L n B (Rn C T r st K) := by
   repeat' (first | (focus (intro K0; (try simp only [go_sem, *]); (first | exact ⟨id⟩ | (refine ⟨fun h => ?_⟩; (repeat' (first | exact h | refine And.intro ?_ ?_ | omega | rfl)); done)))) | (apply Gw.seq) | (apply Gw.block) | (apply Gw.region; (exact rfl)) | (apply Gw.op; (exact rfl)) | (apply Gw.onil) | ((first | apply Gw.g | apply Gw.dg); (exact rfl); (exact rfl); (focus (intro K0; (try simp only [bB, ev, Nat.reduceEqDiff, ↓reduceIte]); exact ⟨id⟩))) | (with_reducible (first | apply Gw.yes | apply Gw.dyes)) | ((with_reducible (first | apply Gw.tno | apply Gw.fno | apply Gw.un | apply Gw.dtno | apply Gw.dfno | apply Gw.dun)); (exact rfl)) | ((first | apply Gw.never | apply Gw.dnever); (focus (intro K0; (try simp only [go_sem]); exact ⟨id⟩)); (exact rfl)) | ((first | apply Gw.lazy | apply Gw.dlazy); (exact rfl); (focus (intro K0; (try simp only [go_sem]); exact ⟨id⟩)); (focus (first | (simp only [Nat.reduceLT]; done) | omega)); (focus (intro hw0; (try simp only [Bool.and_eq_true, Bool.not_eq_true', dK, dC] at hw0); (focus (intro K0; (try simp only [go_sem, *]); (first | exact ⟨id⟩ | (refine ⟨fun h => ?_⟩; (repeat' (first | exact h | refine And.intro ?_ ?_ | omega | rfl)); done))))))) | (apply Gw.c; (focus (intro K0; (try simp only [bB, ev, Nat.reduceEqDiff, ↓reduceIte]); exact ⟨id⟩))) | (with_reducible (first | apply Gw.ct | apply Gw.cf)) | (apply Gw.unroll) | (apply Gw.skip) | (apply Gw.exit rfl) | (apply Gw.bb) | (apply Gw.drawn; (exact rfl)) | (apply Gw.dop; (exact rfl)) | (apply Gw.dnil (by kernel_rfl)) | ((with_reducible (first | apply Gw.gsplit | apply Gw.dsplit | apply Gw.csplit)) <;> (first | (intro h; (have h' := h); (try simp only [decide_eq_true_eq, decide_eq_false_iff_not, Bool.not_eq_true', Bool.not_eq_false', Bool.and_eq_true, Bool.or_eq_true, Bool.or_eq_false_iff, beq_iff_eq, bne_iff_ne, ne_eq, Bool.not_true, Bool.not_false, not_false_eq_true, reduceCtorEq, beq_eq_false_iff_ne, bne_eq_false_iff_eq] at h'); (first | apply Gw.stt | apply Gw.dstt | done)) | skip)) | (apply Gw.outck rfl rfl) | (apply Gw.out rfl) | (apply Gw.tret) | (apply Gw.tout rfl) | (apply Gw.tthru rfl) | (first | apply Gw.nilthen) | (apply Gw.ls) | (apply Gw.nil))
   all_goals (first | exact Gw.leaf | exact True)) : Rn C T r st K := h.run hb
end
abbrev valC (v : Int × Int) : List AV := [Iv v.1, Iv v.2]
abbrev strC (s : ByteArray) : List AV := [Sv s]
theorem Mc (l : List (Int × Int)) : ∀ row ∈ l.map valC, aX bR row = true := fun row h => by
 obtain ⟨x, _, rfl⟩ := List.mem_map.1 h; rfl
@[go_sem] theorem Cc (l : List (Int × Int)) : ((l.map valR).map fun r => r.map AV.r) = l.map valC := by rw [List.map_map]; rfl
theorem Cl (xs : List (List RV)) : ∀ row ∈ (valsOf xs).map valC, aX bR row = true := Mc _
theorem yW (xs : List (List RV)) (h : xs = (valsOf xs).map valR ∧ xs.length ≤ 1000000000) : FC Cx 27 [.r (.rs 2 xs)] [] (.os 0 1) [(0, 1, .sl 50 2 ((valsOf xs).map valC))] := by
 have hl : (valsOf xs).length = xs.length := by simp [valsOf]
 have hlenS : ∀ l : List (Int × Int), (l.map valC).length = l.length := fun l => List.length_map ..
 obtain ⟨h1, h2⟩ := h
 generalize valsOf xs = l at h1 hl
 subst h1
 rw [← hl] at h2
 refine iH [] (i := 0) [.os 0 1] Tryz.func27 rfl Tryz.ntmps27 (by simp) Tryz.results27 (Mc _) ?_
 refine rnst ?_
 iterate 8 (any_goals (first | (focus (intro K0; (try simp only [go_sem, *]); (first | exact ⟨id⟩ | (refine ⟨fun h => ?_⟩; (repeat' (first | exact h | refine And.intro ?_ ?_ | omega | rfl)); done)))) | (refine kK ?_) | (refine iE ?_) | (apply eL lv27; (exact rfl)) | (refine eV ?_) | (apply nD; (exact rfl)) | (refine iC ?_) | ((first | apply Rn_g | apply Rd_g); (exact rfl); (exact rfl); (focus (intro K0; (try simp only [bB, ev, Nat.reduceEqDiff, ↓reduceIte]); exact ⟨id⟩))) | (with_reducible (first | apply kE | apply jW)) | ((with_reducible (first | apply iG | apply gY | apply lV | apply iK | apply gW | apply lZ)); (exact rfl)) | ((first | apply gE | apply gD); (focus (intro K0; (try simp only [go_sem]); exact ⟨id⟩)); (exact rfl)) | ((first | apply iL | apply iI); (exact rfl); (focus (intro K0; (try simp only [go_sem]); exact ⟨id⟩)); (focus (first | (simp only [Nat.reduceLT]; done) | omega)); (focus (intro hw0; (try simp only [Bool.and_eq_true, Bool.not_eq_true', dK, dC] at hw0); (focus (intro K0; (try simp only [go_sem, *]); (first | exact ⟨id⟩ | (refine ⟨fun h => ?_⟩; (repeat' (first | exact h | refine And.intro ?_ ?_ | omega | rfl)); done))))))) | (apply Rn_c; (focus (intro K0; (try simp only [bB, ev, Nat.reduceEqDiff, ↓reduceIte]); exact ⟨id⟩))) | (with_reducible (first | refine rN ?_ | refine sJ ?_)) | (refine kF ?_) | (refine kB rfl ?_) | (refine Rn_b ?_) | (apply iA lv27; (exact rfl)) | (refine kH ?_) | (apply nH; (exact rfl)) | (refine nM (by kernel_rfl) ?_) | ((with_reducible (first | refine fW (fun h => ?_) (fun h => ?_) | refine fT (fun h => ?_) (fun h => ?_) | refine fK (fun h => ?_) (fun h => ?_))) <;> (have h' := h) <;> (try simp only [decide_eq_true_eq, decide_eq_false_iff_not, Bool.not_eq_true', Bool.not_eq_false', Bool.and_eq_true, Bool.or_eq_true, Bool.or_eq_false_iff, beq_iff_eq, bne_iff_ne, ne_eq, Bool.not_true, Bool.not_false, not_false_eq_true, reduceCtorEq, beq_eq_false_iff_ne, bne_eq_false_iff_eq] at h') <;> (first | apply pM | apply rW)) | (refine fR rfl rfl ?_) | (first | refine fY ?_ | refine lY ?_ | refine dP ?_) | (refine eE (T := []) ?_) | (refine nT ?_)))
 ·intro K0; (try simp only [go_sem]); exact ⟨id⟩
 refine lH (sz := 2) rfl (.inl rfl) rfl rfl (Nat.le_of_ble_eq_true rfl) rfl rfl (by kernel_rfl) (fun q hq => ?_)
 apply oP
 ·intro K0; (try simp only [go_sem]); exact ⟨id⟩
 cases q with
 | true =>
  have h0 : l = [] := by have := hq rfl; simpa using this
  subst h0
  (any_goals refine go lv27 0 ?_)
  all_goals (try simp only [go_sem])
 | false =>
  clear hq
  (any_goals refine go lv27 0 ?_)
  all_goals (try simp only [go_sem])
def iV (st : St) (d : Nat) (args : List AV) (K : AV → List Loc → List (Loc × Cont) → Prop) : Prop := match args with
 | [.r (.rs 2 xs)] => (xs = (valsOf xs).map valR ∧ xs.length ≤ 1000000000) ∧ K (ren (fun _ => d) (fun _ => st.cur d) (.os 0 1)) [.R d] [(.R d, .s (1 + st.cur d) (.sl 50 2 ((valsOf xs).map valC)))]
 | _ => False
theorem zI (st : St) (d : Nat) (args : List AV) (K : AV → List Loc → List (Loc × Cont) → Prop) (h : iV st d args K) : ∃ r ls outs, dI Cx 27 st args r ls outs ∧ K r ls outs := by
 unfold iV at h
 split at h
 ·exact ⟨_, _, _, dI.own (yW _ h.1) rfl (Cl _) rfl d, h.2⟩
 ·exact h.elim
noncomputable def qU : Ct Cx := .res 27 iV en27 zI
@[go_sem] theorem Wo : qU.g = 27 := rfl
@[go_sem] theorem Tz (c : Call) (fop : Operand) (caps : List AV) (o : Oper) (st : St) (K : List Loc → List (Loc × Cont) → Prop) : qU.run c fop caps o st K = kO iV c fop caps o st K := rfl
@[go_sem] theorem Wb : type_of% @iV.eq_def := @iV.eq_def
theorem Nz (xs : List (List RV)) (h : xs = (valsOf xs).map valR ∧ xs.length ≤ 1000000000) : FC Cx 27 [.r (.rs 2 xs)] [] (aT (valsOf xs)) [] := (yW xs h).freeze1 (Cc _).symm
def oE (args : List AV) (K : AV → Prop) : Prop := match args with
 | [.r (.rs 2 xs)] => (xs = (valsOf xs).map valR ∧ xs.length ≤ 1000000000) ∧ K (aT (valsOf xs))
 | _ => False
noncomputable abbrev Jt : Ct Cx := .pure 27 oE fun args K h => by
 unfold oE at h; split at h; exact ⟨_, aA (Nz _ h.1) en27 rfl rfl, h.2⟩; exact h.elim
@[go_sem] theorem Zd : type_of% @oE.eq_def := @oE.eq_def
theorem aAj (l : List ByteArray) : ∀ row ∈ l.map strC, aX bR row = true := fun row h => by
 obtain ⟨x, _, rfl⟩ := List.mem_map.1 h; rfl
@[go_sem] theorem aKk : ∀ l : List ByteArray, nE (l.map strC) = true
 | [] => rfl
 | x :: l => aKk l
@[go_sem] theorem Wn (l : List ByteArray) : ((l.map strR).map fun r => r.map AV.r) = l.map strC := by rw [List.map_map]; rfl
theorem Lt (xs : List (List RV)) (h : xs = (strsOf xs).map strR ∧ xs.length ≤ 1000000000) : FC Cx 23 [.r (.rs 1 xs)] [] (.os 0 1) [(0, 1, .sl 9 1 ((strsOf xs).map strC))] := by
 have hl : (strsOf xs).length = xs.length := by simp [strsOf]
 have hlenS : ∀ l : List ByteArray, (l.map strC).length = l.length := fun l => List.length_map ..
 obtain ⟨h1, h2⟩ := h
 generalize strsOf xs = l at h1 hl
 subst h1
 rw [← hl] at h2
 refine iH [] (i := 0) [.os 0 1] Tryz.func23 rfl Tryz.ntmps23 (by simp) Tryz.results23 (aAj _) ?_
 refine rnst ?_
 iterate 8 (any_goals (first | (focus (intro K0; (try simp only [go_sem, *]); (first | exact ⟨id⟩ | (refine ⟨fun h => ?_⟩; (repeat' (first | exact h | refine And.intro ?_ ?_ | omega | rfl)); done)))) | (refine kK ?_) | (refine iE ?_) | (apply eL lv23; (exact rfl)) | (refine eV ?_) | (apply nD; (exact rfl)) | (refine iC ?_) | ((first | apply Rn_g | apply Rd_g); (exact rfl); (exact rfl); (focus (intro K0; (try simp only [bB, ev, Nat.reduceEqDiff, ↓reduceIte]); exact ⟨id⟩))) | (with_reducible (first | apply kE | apply jW)) | ((with_reducible (first | apply iG | apply gY | apply lV | apply iK | apply gW | apply lZ)); (exact rfl)) | ((first | apply gE | apply gD); (focus (intro K0; (try simp only [go_sem]); exact ⟨id⟩)); (exact rfl)) | ((first | apply iL | apply iI); (exact rfl); (focus (intro K0; (try simp only [go_sem]); exact ⟨id⟩)); (focus (first | (simp only [Nat.reduceLT]; done) | omega)); (focus (intro hw0; (try simp only [Bool.and_eq_true, Bool.not_eq_true', dK, dC] at hw0); (focus (intro K0; (try simp only [go_sem, *]); (first | exact ⟨id⟩ | (refine ⟨fun h => ?_⟩; (repeat' (first | exact h | refine And.intro ?_ ?_ | omega | rfl)); done))))))) | (apply Rn_c; (focus (intro K0; (try simp only [bB, ev, Nat.reduceEqDiff, ↓reduceIte]); exact ⟨id⟩))) | (with_reducible (first | refine rN ?_ | refine sJ ?_)) | (refine kF ?_) | (refine kB rfl ?_) | (refine Rn_b ?_) | (apply iA lv23; (exact rfl)) | (refine kH ?_) | (apply nH; (exact rfl)) | (refine nM (by kernel_rfl) ?_) | ((with_reducible (first | refine fW (fun h => ?_) (fun h => ?_) | refine fT (fun h => ?_) (fun h => ?_) | refine fK (fun h => ?_) (fun h => ?_))) <;> (have h' := h) <;> (try simp only [decide_eq_true_eq, decide_eq_false_iff_not, Bool.not_eq_true', Bool.not_eq_false', Bool.and_eq_true, Bool.or_eq_true, Bool.or_eq_false_iff, beq_iff_eq, bne_iff_ne, ne_eq, Bool.not_true, Bool.not_false, not_false_eq_true, reduceCtorEq, beq_eq_false_iff_ne, bne_eq_false_iff_eq] at h') <;> (first | apply pM | apply rW)) | (refine fR rfl rfl ?_) | (first | refine fY ?_ | refine lY ?_ | refine dP ?_) | (refine eE (T := []) ?_) | (refine nT ?_)))
 ·intro K0; (try simp only [go_sem]); exact ⟨id⟩
 refine lH (sz := 1) rfl (.inl rfl) rfl rfl (Nat.le_of_ble_eq_true rfl) rfl rfl (by kernel_rfl) (fun q hq => ?_)
 apply oP
 ·intro K0; (try simp only [go_sem]); exact ⟨id⟩
 cases q with
 | true =>
  have h0 : l = [] := by have := hq rfl; simpa using this
  subst h0
  (any_goals refine go lv23 0 ?_)
  all_goals (try simp only [go_sem])
 | false =>
  clear hq
  (any_goals refine go lv23 0 ?_)
  all_goals (try simp only [go_sem])
theorem Na (xs : List (List RV)) (h : xs = (strsOf xs).map strR ∧ xs.length ≤ 1000000000) : FC Cx 23 [.r (.rs 1 xs)] [] (bZ (strsOf xs)) [] := (Lt xs h).freeze1 (Wn _).symm
def oT (args : List AV) (K : AV → Prop) : Prop := match args with
 | [.r (.rs 1 xs)] => (xs = (strsOf xs).map strR ∧ xs.length ≤ 1000000000) ∧ K (bZ (strsOf xs))
 | _ => False
noncomputable abbrev Kc : Ct Cx := .pure 23 oT fun args K h => by
 unfold oT at h; split at h; exact ⟨_, aA (Na _ h.1) en23 rfl rfl, h.2⟩; exact h.elim
@[go_sem] theorem Xx : type_of% @oT.eq_def := @oT.eq_def
def rowB (R : RV → RV → Prop) : List RV → List RV → Prop
 | [], [] => True
 | x :: l, y :: m => R x y ∧ rowB R l m
 | _, _ => False
def Rq (R : RV → RV → Prop) : List (List RV) → List (List RV) → Prop
 | [], [] => True
 | x :: l, y :: m => rowB R x y ∧ Rq R l m
 | _, _ => False
def nilX (R : RV → RV → Prop) : RV → RV → Prop
 | .v (.slice none 0 0), .rs _ [] => True
 | .rs sz rows, .rs sz' rows' => sz = sz' ∧ Rq R rows rows'
 | _, _ => False
def nilB : Nat → RV → RV → Prop
 | 0, x, y => x = y
 | n + 1, x, y => x = y ∨ nilX (nilB n) x y
theorem wF {R : RV → RV → Prop} : ∀ {l m : List RV}, rowB R l m → m.length = l.length
 | [], [], _ => rfl
 | _ :: _, _ :: _, h => by simp [wF h.2]
 | [], _ :: _, h => h.elim
 | _ :: _, [], h => h.elim
theorem Ae {R : RV → RV → Prop} : ∀ {l m : List RV} {j : Nat} {x y : RV}, rowB R l m → l[j]? = some x → m[j]? = some y → R x y
 | x' :: l, y' :: m, 0, x, y, h, hx, hy => by simp at hx hy; subst hx; subst hy; exact h.1
 | x' :: l, y' :: m, j + 1, x, y, h, hx, hy => Ae h.2 (by simpa using hx) (by simpa using hy)
 | [], _, _, _, _, _, hx, _ => by simp at hx
 | _ :: _, [], _, _, _, _, _, hy => by simp at hy
theorem Fw {R : RV → RV → Prop} : ∀ {l m : List (List RV)}, Rq R l m → m.length = l.length
 | [], [], _ => rfl
 | _ :: _, _ :: _, h => by simp [Fw h.2]
 | [], _ :: _, h => h.elim
 | _ :: _, [], h => h.elim
theorem Cq {R : RV → RV → Prop} : ∀ {l m : List (List RV)} {j : Nat} {x y : List RV}, Rq R l m → l[j]? = some x → m[j]? = some y → rowB R x y
 | x' :: l, y' :: m, 0, x, y, h, hx, hy => by simp at hx hy; subst hx; subst hy; exact h.1
 | x' :: l, y' :: m, j + 1, x, y, h, hx, hy => Cq h.2 (by simpa using hx) (by simpa using hy)
 | [], _, _, _, _, _, hx, _ => by simp at hx
 | _ :: _, [], _, _, _, _, _, hy => by simp at hy
theorem Hf : ∀ (n : Nat) (x y : RV), nilB n x y → NilD x y
 | 0, x, y, h => by have : x = y := h; subst this; exact .same _
 | n + 1, x, y, h => by
  rcases (show x = y ∨ nilX (nilB n) x y from h) with rfl | h2
  ·exact .same _
  ·replace h := h2
   unfold nilX at h
   split at h
   ·exact .nil _
   ·obtain ⟨rfl, h⟩ := h
    exact .rs _ _ _ (Fw h) (fun i row row' h1 h2 => wF (Cq h h1 h2)) fun i j row row' x y h1 h2 h3 h4 => Hf n x y (Ae (Cq h h1 h2) h3 h4)
   ·exact h.elim
def gT : aC := ⟨[], [], [], [], [], [], 0, 0⟩
structure aUp (s : aC) : Prop where
 cellN : s.cells.length ≤ 300
 textN : s.texts.length ≤ 300
 saidN : s.said.length ≤ 200
 endN : s.ends.length ≤ 100
 bytes : ∀ t ∈ s.texts, t.size ≤ 200
 valN : ∀ c ∈ s.cells, bigC c = false
 shapes : Sh.checkF s.shapes = 0
 words : 19 ≤ s.texts.length ∧ s.texts.take 19 = cJ ∧ s.texts.Nodup
 names : ∀ x ∈ s.shapes, x.2 < (s.texts.length : Int)
 cells : ∀ c ∈ s.cells, eO s c = true
 said : ∀ v ∈ s.said, v.1 = 4 ∧ fitsF s v = true
 ends : ∀ e ∈ s.ends, (0 ≤ e.cell ∧ e.cell ≤ (s.cells.length : Int) - 1) ∧ isF' s e.fn 4 = true
theorem qR {s : aC} : dE s = 0 ↔ aUp s := by
 have hL : kV s = false ↔ s.cells.length ≤ 300 ∧ s.texts.length ≤ 300 ∧ s.said.length ≤ 200 ∧ s.ends.length ≤ 100 ∧ (∀ t ∈ s.texts, t.size ≤ 200) ∧ ∀ c ∈ s.cells, bigC c = false := by
  simp only [kV, Bool.or_eq_false_iff, decide_eq_false_iff_not, List.any_eq_false, Bool.not_eq_true]
  constructor
  ·rintro ⟨⟨⟨⟨⟨h1, h2⟩, h3⟩, h4⟩, h5⟩, h6⟩
   exact ⟨by omega, by omega, by omega, by omega, fun t ht => by have := h5 t ht; simp [bigS] at this; omega, h6⟩
  ·rintro ⟨h1, h2, h3, h4, h5, h6⟩
   exact ⟨⟨⟨⟨⟨by omega, by omega⟩, by omega⟩, by omega⟩, fun t ht => by have := h5 t ht; simp [bigS]; omega⟩, h6⟩
 unfold dE
 constructor
 ·intro h
  split at h
  ·cases h
  rename_i h0
  obtain ⟨a1, a2, a3, a4, a5, a6⟩ := hL.1 (by simpa using h0)
  split at h
  ·rename_i h1; exact absurd h h1
  rename_i h1
  split at h
  ·cases h
  rename_i h2
  split at h
  ·cases h
  rename_i h3
  split at h
  ·cases h
  rename_i h4
  simp only [Bool.or_eq_true, not_or, Bool.not_eq_true', Bool.not_eq_false, List.any_eq_true, not_exists, not_and] at h2
  obtain ⟨⟨b1, b2⟩, b3⟩ := h2
  have b1' : (decide (19 ≤ s.texts.length) && decide (s.texts.take 19 = cJ) && decide s.texts.Nodup) = true := b1
  simp only [Bool.and_eq_true, decide_eq_true_eq] at b1'
  simp only [List.any_eq_true, not_exists, not_and] at h3 h4
  refine ⟨a1, a2, a3, a4, a5, a6, Classical.not_not.1 h1, ⟨b1'.1.1, b1'.1.2, b1'.2⟩, fun x hx => ?_, fun c hc => ?_, fun v hv => ?_, fun e he => ?_⟩
  ·have := b2 x hx; simp at this; omega
  ·have := b3 c hc; simpa using this
  ·have := h3 v hv; simp [badS] at this; exact this
  ·have := h4 e he; simp [badE] at this; exact this
 ·intro h
  rw [if_neg (by rw [hL.2 ⟨h.cellN, h.textN, h.saidN, h.endN, h.bytes, h.valN⟩]; simp), if_neg (fun h1 => h1 h.shapes), if_neg, if_neg, if_neg]
  ·intro h1
   obtain ⟨e, he, h2⟩ := List.any_eq_true.1 h1
   have := h.ends e he
   simp [badE, this.1, this.2] at h2
  ·intro h1
   obtain ⟨v, hv, h2⟩ := List.any_eq_true.1 h1
   have := h.said v hv
   simp [badS, this.1, this.2] at h2
  ·intro h1
   simp only [Bool.or_eq_true, Bool.not_eq_true', List.any_eq_true] at h1
   rcases h1 with (h1 | ⟨x, hx, h1⟩) | ⟨c, hc, h1⟩
   ·have : iY s.texts = true := by
     unfold iY
     rw [decide_eq_true h.words.1, decide_eq_true h.words.2.1, decide_eq_true h.words.2.2]; rfl
    rw [this] at h1; cases h1
   ·have := h.names x hx; simp at h1; omega
   ·rw [h.cells c hc] at h1; cases h1
theorem aG5 {f : FnT} : ∀ (k : Nat) (W : WT), W.bad = true → (runW f k W).bad = true
 | 0, W, h => h
 | k + 1, W, h => by
  show (if cP W = true then runW f k (dT f W) else W).bad = true
  rw [if_neg (by unfold cP; rw [h]; simp)]; exact h
theorem aAz {f : FnT} (hc : Cok f) {t : Int} {l : List (Int × Int)} : ∀ (k : Nat) (W : WT), Wiv f W → To f W t l → To f (runW f k W) t l
 | 0, W, _, h => h
 | k + 1, W, hi, h => by
  show To f (if cP W = true then runW f k (dT f W) else W) t l
  split
  ·rename_i hg
   have h0 : 0 < W.todo.length := by simp [cP] at hg; exact hg.1
   obtain ⟨q1, q2, q3, q4⟩ := qK hi h0
   exact aAz hc k _ (jJ hi hc hg).1 ((wP (n := jP W) q1 hc q3).keeps t l ⟨h.lo, h.hi, h.few, h.seen, h.out⟩)
  ·exact h
theorem Po {f : FnT} (hc : Cok f) (hb : (bN f).bad = false) : To f (bN f) 0 [] := by
 have hb1 : (aZ f 0 [] (W0 f)).bad = false := by
  cases h : (aZ f 0 [] (W0 f)).bad with
  | false => rfl
  | true => have := aG5 (f := f) (2 * f.code.length) _ h; unfold bN at hb; rw [this] at hb; cases hb
 exact aAz hc _ _ (kY hc).1 (oZ (jR f).1 (Int.le_refl 0) hb1)
theorem lJ {l : List (Int × Int)} {q : Int × Int → Bool} {i : Nat} {x : Int × Int} (hx : l[i]? = some x) (h : q x = false) : l.all q = false := by
 rw [List.all_eq_false]; exact ⟨x, List.mem_of_getElem? hx, by rw [h]; simp⟩
theorem kM {l : List (Int × Int)} {q : Int × Int → Bool} (h : ∀ j x, j < l.length → l[j]? = some x → q x = true) : l.all q = true :=
 List.all_eq_true.2 fun x hx => by
  obtain ⟨j, hj⟩ := List.mem_iff_getElem?.1 hx
  exact h j x (List.getElem?_eq_some_iff.1 hj).1 hj
theorem Ia (p : aI) (s : aC) (f : aR) (hp : Pgo p) (hf : Gwf f) (hsl : s.cells.length ≤ 9223372036854775807) : FC Cx 80 [bC p, aH s, fD f] [] (Bv (cU p s f)) [] := by
 have l0 : (p.fns.map fnR).length = p.fns.length := List.length_map ..
 have l1 : (f.regs.map valR).length = f.regs.length := List.length_map ..
 have lc : (s.cells.map aW).length = s.cells.length := List.length_map ..
 have h60 := hp.fns
 have w1 : IntKind.i64.wrap ((p.fns.length : Int) - 1) = (p.fns.length : Int) - 1 := by rw [aN] <;> omega
 have lt : (f.tries.map tryR).length = f.tries.length := List.length_map ..
 have ht := hf.tries
 have hreg := hf.regs
 unfold cU
 obtain ⟨fn, pc, tov, gen, ⟨sk, sn⟩, regs, tries⟩ := f
 dsimp only at *
 cases hfn : decide (0 ≤ fn ∧ fn ≤ (p.fns.length : Int) - 1) with
 | false =>
  simp only [Bool.false_and]
  refine aD [aU, cD, iM, jF] Tryz.func80 Tryz.ntmps80 Tryz.results80 ?_
  refine goR ?_
  refine fzB 3 ?_
  refine fzB 4 ?_
  refine fzB 5 ?_
  (any_goals refine go lv80 0 ?_)
  all_goals (try simp only [go_sem])
 | true =>
 have hfn' : 0 ≤ fn ∧ fn ≤ (p.fns.length : Int) - 1 := by simpa using hfn
 obtain ⟨F, hF⟩ : ∃ F, p.fns[fn.toNat]? = some F := ⟨p.fns[fn.toNat]'(by omega), List.getElem?_eq_getElem _⟩
 have gF := aE fnR hF ([] : List RV)
 have eFn : p.fns.getD fn.toNat fn0 = F := by simp [List.getD, hF]
 rw [eFn]
 have hm := List.mem_of_getElem? hF
 have hcok := hp.cok F hm
 have hbad := hp.go F hm
 have h0 := (Po hcok hbad).hi
 have h00 : 0 < F.code.length := by omega
 have hkl := aHw hcok h00
 have h600 := hcok.len
 have lcd : (F.code.map insR).length = F.code.length := List.length_map ..
 have w2 : IntKind.i64.wrap ((F.code.length : Int) - 1) = (F.code.length : Int) - 1 := by rw [aN] <;> omega
 clear h0
 cases hre : refF s (sk, sn) 4 with
 | false =>
  simp only [Bool.and_false, Bool.false_and]
  refine aD [aU, cD, iM, jF] Tryz.func80 Tryz.ntmps80 Tryz.results80 ?_
  refine goR ?_
  refine fzB 3 ?_
  refine fzB 4 ?_
  refine fzB 5 ?_
  (any_goals refine go lv80 0 ?_)
  all_goals (try simp only [go_sem])
 | true =>
 have hr2 := hre
 unfold refF at hr2
 simp only [Bool.and_eq_true, decide_eq_true_eq] at hr2
 obtain ⟨⟨⟨hsk, n0⟩, n1⟩, hkk⟩ := hr2
 clear hsk hkk
 obtain ⟨c, hc⟩ : ∃ c, s.cells[sn.toNat]? = some c := ⟨s.cells[sn.toNat]'(by omega), List.getElem?_eq_getElem _⟩
 have gC := aE aW hc ([] : List RV)
 rw [mE hc]
 cases hnum : decide (c.num = fn) with
 | false =>
  simp only [Bool.and_false, Bool.false_and]
  refine aD [aU, cD, iM, jF] Tryz.func80 Tryz.ntmps80 Tryz.results80 ?_
  refine goR ?_
  refine fzB 3 ?_
  refine fzB 4 ?_
  refine fzB 5 ?_
  (any_goals refine go lv80 0 ?_)
  all_goals (try simp only [go_sem])
 | true =>
 cases hre2 : decide ((regs.length : Int) = F.regs) with
 | false =>
  simp only [Bool.and_false, Bool.false_and]
  refine aD [aU, cD, iM, jF] Tryz.func80 Tryz.ntmps80 Tryz.results80 ?_
  refine goR ?_
  refine fzB 3 ?_
  refine fzB 4 ?_
  refine fzB 5 ?_
  (any_goals refine go lv80 0 ?_)
  all_goals (try simp only [go_sem])
 | true =>
 cases hpc : decide (0 ≤ pc ∧ pc ≤ (F.code.length : Int) - 1) with
 | false =>
  simp only [Bool.and_false, Bool.false_and]
  refine aD [aU, cD, iM, jF] Tryz.func80 Tryz.ntmps80 Tryz.results80 ?_
  refine goR ?_
  refine fzB 3 ?_
  refine fzB 4 ?_
  refine fzB 5 ?_
  (any_goals refine go lv80 0 ?_)
  all_goals (try simp only [go_sem])
 | true =>
 have hpc' : 0 ≤ pc ∧ pc ≤ (F.code.length : Int) - 1 := by simpa using hpc
 have hkn := aNf hcok hbad (k := pc.toNat) (by omega)
 obtain ⟨b, hbi⟩ : ∃ b, (bN F).seen.getD pc.toNat false = b := ⟨_, rfl⟩
 obtain ⟨o, hoi⟩ : ∃ b, (bN F).out.getD pc.toNat [] = b := ⟨_, rfl⟩
 rw [hbi, hoi] at hkn
 rw [hbi, hoi]
 clear hbi hoi
 cases b with
 | false =>
  simp only [Bool.and_false, Bool.false_and]
  refine aD [aU, cD, iM, jF] Tryz.func80 Tryz.ntmps80 Tryz.results80 ?_
  refine goR ?_
  refine fzB 3 ?_
  refine fzB 4 ?_
  refine fzB 5 ?_
  (any_goals refine go lv80 0 ?_)
  all_goals (try simp only [go_sem])
 | true =>
 cases hto : decide (tries = o) with
 | false =>
  simp only [Bool.and_false, Bool.false_and]
  refine aD [aU, cD, iM, jF] Tryz.func80 Tryz.ntmps80 Tryz.results80 ?_
  refine goR ?_
  refine fzB 3 ?_
  refine fzB 4 ?_
  refine fzB 5 ?_
  (any_goals refine go lv80 0 ?_)
  all_goals (try simp only [go_sem])
 | true =>
 simp only [Bool.true_and]
 refine aD [aU, cD, iM, jF, cY] Tryz.func80 Tryz.ntmps80 Tryz.results80 ?_
 refine goR ?_
 refine fzB 3 ?_
 refine fzB 4 ?_
 refine fzB 5 ?_
 (any_goals refine go lv80 0 ?_)
 refine bY (fun x : Nat × Nat => x.1 ≤ regs.length ∧ ∀ j v, j < x.1 → regs[j]? = some v → fitsF s v = true) (fun x => ⟨100, [(4, bT s), (89, aT regs), (90, Iv regs.length), (91, Iv x.1)], [(3, 2, .gone), (4, 2, .gone), (5, 2, .gone), (7, 1, .gone), (11, x.2, .gone)]⟩) (fun x => regs.length - x.1) (0, 0) ⟨Nat.zero_le _, fun j v hj => by omega⟩ ?_
 rintro ⟨i, u⟩ ⟨hi, hno⟩
 dsimp only at hi hno ⊢
 by_cases hlt : i < regs.length
 case neg =>
  obtain rfl : i = regs.length := by omega
  have e1 := bS regs
  rw [kM fun j x hj hx => hno j x hj hx]
  clear hno
  (any_goals refine go lv80 0 ?_)
  all_goals (try simp only [go_sem])
 obtain ⟨v, hx, hg, h1, h2, hw⟩ := cE valR regs hlt hreg
 rcases Bool.eq_false_or_eq_true (fitsF s v) with hv | hv
 ·have nx : ∀ j v, j < i + 1 → regs[j]? = some v → fitsF s v = true := fun j v' hj hv' => by
   rcases Nat.lt_succ_iff_lt_or_eq.1 hj with h3 | h3
   ·exact hno j v' h3 hv'
   ·subst h3; rw [hx] at hv'; cases hv'; exact hv
  clear hno
  (any_goals refine go lv80 0 ?_)
  refine ⟨(i + 1, u + 9), ⟨by dsimp only; omega, nx⟩, by dsimp only; omega, ?_⟩
  dsimp only
  exact bF
 ·rw [lJ hx hv]
  clear hno
  (any_goals refine go lv80 0 ?_)
  all_goals (try simp only [go_sem])
theorem Dw (xs ys zs : List (List RV)) (ca sh tx th en sd : List (List RV)) (aq sq : Int) (f1 f2 f3 f4 f5 f6 : Int) (us vs : List (List RV)) (h : (((xs = (fnsOf xs).map fnR ∧ ys = (valsOf ys).map valR ∧ zs = (strsOf zs).map strR) ∧ ca = (cellsOf ca).map aW ∧ sh = (valsOf sh).map valR ∧ tx = (strsOf tx).map strR ∧ th = (threadsOf th).map aJ ∧ en = (aG en).map endR ∧ sd = (valsOf sd).map valR) ∧ us = (valsOf us).map valR ∧ vs = (triesOf vs).map tryR) ∧ Pgo ⟨fnsOf xs, valsOf ys, strsOf zs⟩ ∧ Gwf ⟨f1, f2, f3, f4, (f5, f6), valsOf us, triesOf vs⟩ ∧ (cellsOf ca).length ≤ 9223372036854775807) : FC Cx 80 [.agg [.r (.rs 5 xs), .r (.rs 2 ys), .r (.rs 1 zs)], .agg [.r (.rs 4 ca), .r (.rs 2 sh), .r (.rs 1 tx), .r (.rs 5 th), .r (.rs 3 en), .r (.rs 2 sd), Iv aq, Iv sq], .agg [Iv f1, Iv f2, Iv f3, Iv f4, Iv f5, Iv f6, .r (.rs 2 us), .r (.rs 2 vs)]] [] (Bv (cU ⟨fnsOf xs, valsOf ys, strsOf zs⟩ ⟨cellsOf ca, valsOf sh, strsOf tx, threadsOf th, aG en, valsOf sd, aq, sq⟩ ⟨f1, f2, f3, f4, (f5, f6), valsOf us, triesOf vs⟩)) [] := by
 have := Ia ⟨fnsOf xs, valsOf ys, strsOf zs⟩ ⟨cellsOf ca, valsOf sh, strsOf tx, threadsOf th, aG en, valsOf sd, aq, sq⟩ ⟨f1, f2, f3, f4, (f5, f6), valsOf us, triesOf vs⟩ h.2.1 h.2.2.1 h.2.2.2
 rwa [kA h.1.1.1, iJ _ _ _ _ _ _ _ _ h.1.1.2, show fD ⟨f1, f2, f3, f4, (f5, f6), valsOf us, triesOf vs⟩ = .agg [Iv f1, Iv f2, Iv f3, Iv f4, Iv f5, Iv f6, .r (.rs 2 us), .r (.rs 2 vs)] from by
  show AV.agg [Iv f1, Iv f2, Iv f3, Iv f4, Iv f5, Iv f6, aT (valsOf us), cM (triesOf vs)] = _
  rw [fM h.1.2.1, iP h.1.2.2]] at this
def kI (args : List AV) (K : AV → Prop) : Prop := match args with
 | [.agg [.r (.rs 5 xs), .r (.rs 2 ys), .r (.rs 1 zs)], .agg [.r (.rs 4 ca), .r (.rs 2 sh), .r (.rs 1 tx), .r (.rs 5 th), .r (.rs 3 en), .r (.rs 2 sd), .r (.v (.int .i64 aq)), .r (.v (.int .i64 sq))], .agg [.r (.v (.int .i64 f1)), .r (.v (.int .i64 f2)), .r (.v (.int .i64 f3)), .r (.v (.int .i64 f4)), .r (.v (.int .i64 f5)), .r (.v (.int .i64 f6)), .r (.rs 2 us), .r (.rs 2 vs)]] => ((((xs = (fnsOf xs).map fnR ∧ ys = (valsOf ys).map valR ∧ zs = (strsOf zs).map strR) ∧ ca = (cellsOf ca).map aW ∧ sh = (valsOf sh).map valR ∧ tx = (strsOf tx).map strR ∧ th = (threadsOf th).map aJ ∧ en = (aG en).map endR ∧ sd = (valsOf sd).map valR) ∧ us = (valsOf us).map valR ∧ vs = (triesOf vs).map tryR) ∧ Pgo ⟨fnsOf xs, valsOf ys, strsOf zs⟩ ∧ Gwf ⟨f1, f2, f3, f4, (f5, f6), valsOf us, triesOf vs⟩ ∧ (cellsOf ca).length ≤ 9223372036854775807) ∧ K (Bv (cU ⟨fnsOf xs, valsOf ys, strsOf zs⟩ ⟨cellsOf ca, valsOf sh, strsOf tx, threadsOf th, aG en, valsOf sd, aq, sq⟩ ⟨f1, f2, f3, f4, (f5, f6), valsOf us, triesOf vs⟩))
 | _ => False
noncomputable abbrev fP : Ct Cx := .pure 80 kI fun args K h => by
 unfold kI at h; split at h; exact ⟨_, aA (Dw _ _ _ _ _ _ _ _ _ _ _ _ _ _ _ _ _ _ _ h.1) en80 rfl rfl, h.2⟩; exact h.elim
@[go_sem] theorem Qm : type_of% @kI.eq_def := @kI.eq_def
end Go.Proofs.YtbhnmolmkembdaaGreatDoor
namespace Go.Proofs.YtbhnmolmkembdaaGreatDoor.Sh
set_option linter.unusedVariables false
set_option linter.unusedSimpArgs false
set_option maxHeartbeats 10000000
open Go
set_option maxRecDepth 10000
theorem qG (l : List (Int × Int)) (s : Int) (h : s ≤ 0) : namesL l s = [] := by
 unfold namesL
 cases l.length with
 | zero => rfl
 | succ n => unfold fJ; rw [if_neg (by omega)]; rfl
theorem Ui (n lo hi : Int) : FC Cx 34 [Iv n, Iv lo, Iv hi] [] (Bv (decide (lo ≤ n) && decide (n ≤ hi))) [] := by
 refine aD [] Tryz.func34 Tryz.ntmps34 Tryz.results34 ?_
 (any_goals refine go lv34 0 ?_)
 all_goals (try simp only [go_sem])
def pY (args : List AV) (K : AV → Prop) : Prop := match args with
 | [.r (.v (.int .i64 n)), .r (.v (.int .i64 lo)), .r (.v (.int .i64 hi))] => K (Bv (decide (lo ≤ n) && decide (n ≤ hi)))
 | _ => False
noncomputable abbrev Cs : Ct Cx := .pure 34 pY fun args K h => by
 unfold pY at h; split at h; exact ⟨_, aA (Ui _ _ _) en34 rfl rfl, h⟩; exact h.elim
@[go_sem] theorem aC0 : type_of% @pY.eq_def := @pY.eq_def
theorem aL3 (l : List Int) (n : Int) (hl : l.length ≤ 1000000000) : FC Cx 81 [dF l, Iv n] [] (Bv (decide (n ∈ l))) [] := by
 have hlen : (l.map intR).length = l.length := List.length_map ..
 refine aD [] Tryz.func81 Tryz.ntmps81 Tryz.results81 ?_
 (any_goals refine go lv81 0 ?_)
 refine eB [1, 7, 8, 9] (fun i => i ≤ l.length ∧ ∀ j, j < i → l[j]? ≠ some n) (fun (i : Nat) => ⟨17, [(1, Iv n), (7, dF l), (8, Iv l.length), (9, Iv i)], []⟩) (fun i => l.length - i) 0 rfl rfl rfl ⟨Nat.zero_le _, fun j hj => by omega⟩ ?_
 rintro i ⟨hi, hno⟩
 by_cases hlt : i < l.length
 ·obtain ⟨x, hx⟩ : ∃ x, l[i]? = some x := ⟨l[i], List.getElem?_eq_getElem hlt⟩
  have hg := aE intR hx ([] : List RV)
  have hw : IntKind.i64.wrap ((i : Int) + 1) = ((i + 1 : Nat) : Int) := by rw [aN] <;> omega
  have h1 : decide ((i : Int) < (l.length : Int)) = true := by simpa using hlt
  have h2 : Int.toNat (i : Int) = i := by omega
  by_cases h0 : x = n
  ·have d0 : decide (x = n) = true := by simpa using h0
   have : decide (n ∈ l) = true := by rw [decide_eq_true_eq, ← h0]; exact List.mem_of_getElem? hx
   (any_goals refine go lv81 0 ?_)
   all_goals (try simp only [go_sem])
   rw [this]
  ·have d0 : decide (x = n) = false := by simpa using h0
   (any_goals refine go lv81 0 ?_)
   refine ⟨i + 1, ⟨by omega, fun j hj => ?_⟩, by omega, fI [1, 7, 8, 9] rfl rfl rfl⟩
   rcases Nat.lt_succ_iff_lt_or_eq.1 hj with h3 | h3
   ·exact hno j h3
   ·rw [h3, hx]; exact fun h4 => h0 (Option.some.inj h4)
 ·have h1 : decide ((i : Int) < (l.length : Int)) = false := by simpa using hlt
  have : decide (n ∈ l) = false := by
   rw [decide_eq_false_iff_not]; intro h
   obtain ⟨j, hj⟩ := List.getElem?_of_mem h
   exact hno j (by have := (List.getElem?_eq_some_iff.1 hj).1; omega) hj
  (any_goals refine go lv81 0 ?_)
  all_goals (try simp only [go_sem])
  rw [this]
theorem aMb (xs : List (List RV)) (n : Int) (h : xs = (aK xs).map intR ∧ xs.length ≤ 1000000000) : FC Cx 81 [.r (.rs 1 xs), Iv n] [] (Bv (decide (n ∈ aK xs))) [] := by
 have := aL3 (aK xs) n (by simpa [aK] using h.2)
 rwa [Rv h.1] at this
def zT (args : List AV) (K : AV → Prop) : Prop := match args with
 | [.r (.rs 1 xs), .r (.v (.int .i64 n))] => (xs = (aK xs).map intR ∧ xs.length ≤ 1000000000) ∧ K (Bv (decide (n ∈ aK xs)))
 | _ => False
noncomputable abbrev ct_hasI : Ct Cx := .pure 81 zT fun args K h => by
 unfold zT at h; split at h; exact ⟨_, aA (aMb _ _ h.1) en81 rfl rfl, h.2⟩; exact h.elim
@[go_sem] theorem aL0 : type_of% @zT.eq_def := @zT.eq_def
def Ab (l : List (Int × Int)) (n : Nat) (st : St) (d : Nat) (args : List AV) (K : AV → List Loc → List (Loc × Cont) → Prop) : Prop := match args with
 | [.r (.rs 2 xs), .r (.v (.int .i64 z))] => (xs = l.map cB ∧ z.toNat ≤ n ∧ z < l.length) ∧ K (ren (fun _ => d) (fun _ => st.cur d) (.os 0 1)) [.R d] [(.R d, .s (1 + st.cur d) (.sl 3 1 ((namesL l z).map intA)))]
 | _ => False
@[go_sem] theorem aJ6 (l : List (Int × Int)) (n : Nat) (st : St) (d : Nat) (args : List AV) (K : AV → List Loc → List (Loc × Cont) → Prop) : Ab l n st d args K = (match args with
  | [.r (.rs 2 xs), .r (.v (.int .i64 z))] => (xs = l.map cB ∧ z.toNat ≤ n ∧ z < l.length) ∧ K (ren (fun _ => d) (fun _ => st.cur d) (.os 0 1)) [.R d] [(.R d, .s (1 + st.cur d) (.sl 3 1 ((namesL l z).map intA)))]
  | _ => False) := rfl
theorem Pn (l : List (Int × Int)) (s : Int) (d0 : decide (s ≤ 0) = true) : FC Cx 178 [dA l, Iv s] [] (.os 0 1) [(0, 1, .sl 3 1 (([] : List Int).map intA))] := by
 refine iH [] (i := 0) [.os 0 1] Tryz.func178 rfl Tryz.ntmps178 (by simp) Tryz.results178 (rJ _) ?_
 refine rnst ?_
 (any_goals refine go aJc 0 ?_)
 all_goals (try simp only [go_sem])
theorem aLj (l : List (Int × Int)) (n k : Nat) (p : Int × Int) (hp : l[k + 1]? = some p) (hl : l.length ≤ 1000) (hk : p.1.toNat ≤ n) (hk2 : p.1 < l.length) (ct : Ct Cx) (hg : ct.g = 178) (hr : ∀ c fop caps o st K, ct.run c fop caps o st K = kO (Ab l n) c fop caps o st K) (hN : (namesL l p.1).length ≤ l.length) (d0 : decide (((k + 1 : Nat) : Int) ≤ 0) = false)
  (hlenA : ∀ l : List Int, (l.map intA).length = l.length) (hlenS : (l.map cB).length = l.length) (hcat : ∀ (l : List Int) (n : Int), l.map intA ++ [[Iv n]] = (l ++ [n]).map intA) (ht : Int.toNat ((k + 1 : Nat) : Int) = k + 1) (hg1 : (l.map cB).getD (k + 1) [] = cB p) (hkl : k + 1 < l.length) :
  FC Cx 178 [dA l, Iv ((k + 1 : Nat) : Int)] [] (.os 0 1) [(0, 1, .sl 3 1 ((namesL l p.1 ++ [p.2]).map intA))] := by
 refine iH [ct] (i := 0) [.os 0 1] Tryz.func178 rfl Tryz.ntmps178 (by simp) Tryz.results178 (rJ _) ?_
 refine rnst ?_
 (any_goals refine go aJc 0 ?_)
 all_goals (try simp only [go_sem])
end Go.Proofs.YtbhnmolmkembdaaGreatDoor.Sh
