/- Values that fit; references. No condition: contracts of the program's functions. -/
import Derived.Test.YtbhnmolmkembdaaGreatDoorW4
namespace Go.Proofs.YtbhnmolmkembdaaGreatDoor
set_option linter.unusedVariables false
set_option linter.unusedSimpArgs false
set_option maxHeartbeats 10000000
open Go
set_option maxRecDepth 10000
theorem tW (ca sh tx th en sd : List (List RV)) (aq sq : Int) (h : ca = (cellsOf ca).map bA ∧ sh = (valsOf sh).map valR ∧ tx = (strsOf tx).map strR ∧ th = (threadsOf th).map aL ∧ en = (aH en).map endR ∧ sd = (valsOf sd).map valR) : bR ⟨cellsOf ca, valsOf sh, strsOf tx, threadsOf th, aH en, valsOf sd, aq, sq⟩ = [.rs 4 ca, .rs 2 sh, .rs 1 tx, .rs 5 th, .rs 3 en, .rs 2 sd, .v (.int .i64 aq), .v (.int .i64 sq)] := by
 obtain ⟨h1, h2, h3, h4, h5, h6⟩ := h
 show [RV.rs 4 ((cellsOf ca).map bA), .rs 2 ((valsOf sh).map valR), .rs 1 ((strsOf tx).map strR), .rs 5 ((threadsOf th).map aL), .rs 3 ((aH en).map endR), .rs 2 ((valsOf sd).map valR), _, _] = _
 rw [← h1, ← h2, ← h3, ← h4, ← h5, ← h6]
theorem jR (ca sh tx th en sd : List (List RV)) (aq sq : Int) (h : ca = (cellsOf ca).map bA ∧ sh = (valsOf sh).map valR ∧ tx = (strsOf tx).map strR ∧ th = (threadsOf th).map aL ∧ en = (aH en).map endR ∧ sd = (valsOf sd).map valR) : gK ⟨cellsOf ca, valsOf sh, strsOf tx, threadsOf th, aH en, valsOf sd, aq, sq⟩ = .r (.rp [.rs 4 ca, .rs 2 sh, .rs 1 tx, .rs 5 th, .rs 3 en, .rs 2 sd, .v (.int .i64 aq), .v (.int .i64 sq)]) := congrArg (fun z => AV.r (RV.rp z)) (tW _ _ _ _ _ _ _ _ h)
theorem Fq (ca sh tx th en sd : List (List RV)) (aq sq : Int) (h : ca = (cellsOf ca).map bA ∧ sh = (valsOf sh).map valR ∧ tx = (strsOf tx).map strR ∧ th = (threadsOf th).map aL ∧ en = (aH en).map endR ∧ sd = (valsOf sd).map valR) : cE ⟨cellsOf ca, valsOf sh, strsOf tx, threadsOf th, aH en, valsOf sd, aq, sq⟩ = .agg [.r (.rs 4 ca), .r (.rs 2 sh), .r (.rs 1 tx), .r (.rs 5 th), .r (.rs 3 en), .r (.rs 2 sd), Iv aq, Iv sq] := congrArg (fun z => AV.agg (z.map AV.r)) (tW _ _ _ _ _ _ aq sq h)
theorem Wx (ca sh tx th en sd : List (List RV)) (aq sq : Int) (k n : Int) (h : ca = (cellsOf ca).map bA ∧ sh = (valsOf sh).map valR ∧ tx = (strsOf tx).map strR ∧ th = (threadsOf th).map aL ∧ en = (aH en).map endR ∧ sd = (valsOf sd).map valR) : FC Cx 117 [.r (.rp [.rs 4 ca, .rs 2 sh, .rs 1 tx, .rs 5 th, .rs 3 en, .rs 2 sd, .v (.int .i64 aq), .v (.int .i64 sq)]), VV k n] [] (Bv (fitsF ⟨cellsOf ca, valsOf sh, strsOf tx, threadsOf th, aH en, valsOf sd, aq, sq⟩ (k, n))) [] := by
 have := aD4 ⟨cellsOf ca, valsOf sh, strsOf tx, threadsOf th, aH en, valsOf sd, aq, sq⟩ k n
 rwa [jR _ _ _ _ _ _ _ _ h] at this
def tK (args : List AV) (K : AV → Prop) : Prop := match args with
 | [.r (.rp [.rs 4 ca, .rs 2 sh, .rs 1 tx, .rs 5 th, .rs 3 en, .rs 2 sd, .v (.int .i64 aq), .v (.int .i64 sq)]), .agg [.r (.v (.int .i64 k)), .r (.v (.int .i64 n))]] => (ca = (cellsOf ca).map bA ∧ sh = (valsOf sh).map valR ∧ tx = (strsOf tx).map strR ∧ th = (threadsOf th).map aL ∧ en = (aH en).map endR ∧ sd = (valsOf sd).map valR) ∧ K (Bv (fitsF ⟨cellsOf ca, valsOf sh, strsOf tx, threadsOf th, aH en, valsOf sd, aq, sq⟩ (k, n)))
 | _ => False
noncomputable abbrev kM : Ct Cx := .pure 117 tK fun args K h => by
 unfold tK at h; split at h; exact ⟨_, aB (Wx _ _ _ _ _ _ _ _ _ _ h.1) aNi rfl rfl, h.2⟩; exact h.elim
@[go_sem] theorem aB3 : type_of% @tK.eq_def := @tK.eq_def
theorem aE8 (s : aC) (k n : Int) : FC Cx 83 [gK s, VV k n] [] (Bv (fitsF s (k, n))) [] := by
 refine aE [kM] Tryz.func83 Tryz.ntmps83 Tryz.results83 ?_
 refine goR ?_
 refine fzB 3 ?_
 (any_goals refine go lv83 0 ?_)
 all_goals (try simp only [go_sem])
theorem Xd (ca sh tx th en sd : List (List RV)) (aq sq : Int) (k n : Int) (h : ca = (cellsOf ca).map bA ∧ sh = (valsOf sh).map valR ∧ tx = (strsOf tx).map strR ∧ th = (threadsOf th).map aL ∧ en = (aH en).map endR ∧ sd = (valsOf sd).map valR) : FC Cx 83 [.r (.rp [.rs 4 ca, .rs 2 sh, .rs 1 tx, .rs 5 th, .rs 3 en, .rs 2 sd, .v (.int .i64 aq), .v (.int .i64 sq)]), VV k n] [] (Bv (fitsF ⟨cellsOf ca, valsOf sh, strsOf tx, threadsOf th, aH en, valsOf sd, aq, sq⟩ (k, n))) [] := by
 have := aE8 ⟨cellsOf ca, valsOf sh, strsOf tx, threadsOf th, aH en, valsOf sd, aq, sq⟩ k n
 rwa [jR _ _ _ _ _ _ _ _ h] at this
def tG (args : List AV) (K : AV → Prop) : Prop := match args with
 | [.r (.rp [.rs 4 ca, .rs 2 sh, .rs 1 tx, .rs 5 th, .rs 3 en, .rs 2 sd, .v (.int .i64 aq), .v (.int .i64 sq)]), .agg [.r (.v (.int .i64 k)), .r (.v (.int .i64 n))]] => (ca = (cellsOf ca).map bA ∧ sh = (valsOf sh).map valR ∧ tx = (strsOf tx).map strR ∧ th = (threadsOf th).map aL ∧ en = (aH en).map endR ∧ sd = (valsOf sd).map valR) ∧ K (Bv (fitsF ⟨cellsOf ca, valsOf sh, strsOf tx, threadsOf th, aH en, valsOf sd, aq, sq⟩ (k, n)))
 | _ => False
noncomputable abbrev gW : Ct Cx := .pure 83 tG fun args K h => by
 unfold tG at h; split at h; exact ⟨_, aB (Xd _ _ _ _ _ _ _ _ _ _ h.1) en83 rfl rfl, h.2⟩; exact h.elim
@[go_sem] theorem aBh : type_of% @tG.eq_def := @tG.eq_def
theorem wB {α : Type} (l : List α) (q : α → Bool) : l.all q = !(l.any fun v => !q v) := by
 induction l with
 | nil => rfl
 | cons x l ih => rw [List.all_cons, List.any_cons, ih, Bool.not_or, Bool.not_not]
theorem Gq {s : aC} {n : Int} (h : fitsF s (5, n) = true) : 0 ≤ n ∧ n < (s.cells.length : Int) ∧ (s.cells.getD n.toNat cS).kind ≠ 0 := by
 unfold fitsF at h
 simp only [Bool.and_eq_true] at h
 have h0 := wQ h.1 (.inr rfl)
 have h2 := h.2
 simp at h2
 exact ⟨h0, h2.1, h2.2⟩
theorem aEh (s : aC) (k n : Int) : FC Cx 187 [VV k n, .r (.rp [.rp (bR s)])] [] (Bv (!fitsF s (k, n))) [] := by
 refine aE [kM] Tryz.func187 Tryz.ntmps187 Tryz.results187 ?_
 refine goR ?_
 refine fzB 2 ?_
 (any_goals refine go aLs 0 ?_)
 all_goals (try simp only [go_sem])
theorem aN0 (s : aC) (l : List (Int × Int)) (hl : l.length ≤ 9223372036854775807) : FC Cx 170 [gK s, aN l] [] (Bv (l.all (fitsF s))) [] := by
 have hA : ∀ y, y = [aN l, .r (.fn 187 [.rp [.rp (bR s)]])] → aO Cx 102 y (Bv (l.any fun v => !fitsF s v)) := fun y hy => by
  subst hy
  refine aB (oR l _ [.rp [.rp (bR s)]] (fun y => ∃ v, y = valA v) (fun y => !fitsF s (valV y)) ?_ (fun x _ => ⟨x, rfl⟩) hl) Fb rfl rfl
  rintro _ ⟨v, rfl⟩
  exact aB (aEh s v.1 v.2) aP2 rfl rfl
 rw [wB l (fitsF s)]
 refine aE [ctE 102 [aN l, .r (.fn 187 [.rp [.rp (bR s)]])] (Bv (l.any fun v => !fitsF s v)) hA] Tryz.func170 Tryz.ntmps170 Tryz.results170 ?_
 refine goR ?_
 refine fzB 2 ?_
 (any_goals refine go aMt 0 ?_)
 all_goals (try simp only [go_sem])
theorem aEn (ca sh tx th en sd : List (List RV)) (aq sq : Int) (us : List (List RV)) (h : (ca = (cellsOf ca).map bA ∧ sh = (valsOf sh).map valR ∧ tx = (strsOf tx).map strR ∧ th = (threadsOf th).map aL ∧ en = (aH en).map endR ∧ sd = (valsOf sd).map valR) ∧ us = (valsOf us).map valR ∧ us.length ≤ 9223372036854775807) : FC Cx 170 [.r (.rp [.rs 4 ca, .rs 2 sh, .rs 1 tx, .rs 5 th, .rs 3 en, .rs 2 sd, .v (.int .i64 aq), .v (.int .i64 sq)]), .r (.rs 2 us)] [] (Bv ((valsOf us).all (fitsF ⟨cellsOf ca, valsOf sh, strsOf tx, threadsOf th, aH en, valsOf sd, aq, sq⟩))) [] := by
 have := aN0 ⟨cellsOf ca, valsOf sh, strsOf tx, threadsOf th, aH en, valsOf sd, aq, sq⟩ (valsOf us) (by have := congrArg List.length h.2.1; simp at this; omega)
 rwa [jR _ _ _ _ _ _ _ _ h.1, iG h.2.1] at this
def vW (args : List AV) (K : AV → Prop) : Prop := match args with
 | [.r (.rp [.rs 4 ca, .rs 2 sh, .rs 1 tx, .rs 5 th, .rs 3 en, .rs 2 sd, .v (.int .i64 aq), .v (.int .i64 sq)]), .r (.rs 2 us)] => ((ca = (cellsOf ca).map bA ∧ sh = (valsOf sh).map valR ∧ tx = (strsOf tx).map strR ∧ th = (threadsOf th).map aL ∧ en = (aH en).map endR ∧ sd = (valsOf sd).map valR) ∧ us = (valsOf us).map valR ∧ us.length ≤ 9223372036854775807) ∧ K (Bv ((valsOf us).all (fitsF ⟨cellsOf ca, valsOf sh, strsOf tx, threadsOf th, aH en, valsOf sd, aq, sq⟩)))
 | _ => False
noncomputable abbrev Bq : Ct Cx := .pure 170 vW fun args K h => by
 unfold vW at h; split at h; exact ⟨_, aB (aEn _ _ _ _ _ _ _ _ _ h.1) aNj rfl rfl, h.2⟩; exact h.elim
@[go_sem] theorem aE5 : type_of% @vW.eq_def := @vW.eq_def
theorem is_c (s : aC) (k n q : Int) : FC Cx 121 [gK s, VV k n, Iv q] [] (Bv (isF' s (k, n) q)) [] := by
 have l1 : (s.cells.map bA).length = s.cells.length := List.length_map ..
 unfold isF'
 cases hf : fitsF s (k, n) with
 | false =>
  simp only [Bool.false_and]
  refine aE [kM] Tryz.func121 Tryz.ntmps121 Tryz.results121 ?_
  refine goR ?_
  refine fzB 4 ?_
  (any_goals refine go Rt 0 ?_)
  all_goals (try simp only [go_sem])
 | true =>
 by_cases k5 : k = 5
 ·subst k5
  obtain ⟨h0, h1, h2⟩ := Gq hf
  obtain ⟨c, hc⟩ : ∃ c, s.cells[n.toNat]? = some c := ⟨s.cells[n.toNat]'(by omega), List.getElem?_eq_getElem _⟩
  have hg := aG bA hc ([] : List RV)
  rw [tA hc]
  refine aE [kM] Tryz.func121 Tryz.ntmps121 Tryz.results121 ?_
  refine goR ?_
  refine fzB 4 ?_
  (any_goals refine go Rt 0 ?_)
  all_goals (try simp only [go_sem])
 ·have d5 : decide (k = 5) = false := by simpa using k5
  simp only [d5, Bool.and_false, Bool.false_and]
  refine aE [kM] Tryz.func121 Tryz.ntmps121 Tryz.results121 ?_
  refine goR ?_
  refine fzB 4 ?_
  (any_goals refine go Rt 0 ?_)
  all_goals (try simp only [go_sem])
theorem aP9 (ca sh tx th en sd : List (List RV)) (aq sq : Int) (k n q : Int) (h : ca = (cellsOf ca).map bA ∧ sh = (valsOf sh).map valR ∧ tx = (strsOf tx).map strR ∧ th = (threadsOf th).map aL ∧ en = (aH en).map endR ∧ sd = (valsOf sd).map valR) : FC Cx 121 [.r (.rp [.rs 4 ca, .rs 2 sh, .rs 1 tx, .rs 5 th, .rs 3 en, .rs 2 sd, .v (.int .i64 aq), .v (.int .i64 sq)]), VV k n, Iv q] [] (Bv (isF' ⟨cellsOf ca, valsOf sh, strsOf tx, threadsOf th, aH en, valsOf sd, aq, sq⟩ (k, n) q)) [] := by
 have := is_c ⟨cellsOf ca, valsOf sh, strsOf tx, threadsOf th, aH en, valsOf sd, aq, sq⟩ k n q
 rwa [jR _ _ _ _ _ _ _ _ h] at this
def Bc (args : List AV) (K : AV → Prop) : Prop := match args with
 | [.r (.rp [.rs 4 ca, .rs 2 sh, .rs 1 tx, .rs 5 th, .rs 3 en, .rs 2 sd, .v (.int .i64 aq), .v (.int .i64 sq)]), .agg [.r (.v (.int .i64 k)), .r (.v (.int .i64 n))], .r (.v (.int .i64 q))] => (ca = (cellsOf ca).map bA ∧ sh = (valsOf sh).map valR ∧ tx = (strsOf tx).map strR ∧ th = (threadsOf th).map aL ∧ en = (aH en).map endR ∧ sd = (valsOf sd).map valR) ∧ K (Bv (isF' ⟨cellsOf ca, valsOf sh, strsOf tx, threadsOf th, aH en, valsOf sd, aq, sq⟩ (k, n) q))
 | _ => False
noncomputable abbrev Rb : Ct Cx := .pure 121 Bc fun args K h => by
 unfold Bc at h; split at h; exact ⟨_, aB (aP9 _ _ _ _ _ _ _ _ _ _ _ h.1) aN7 rfl rfl, h.2⟩; exact h.elim
@[go_sem] theorem aG6 : type_of% @Bc.eq_def := @Bc.eq_def
def evK {α : Type} : List α → List α
 | [] => []
 | [a] => [a]
 | a :: _ :: l => a :: evK l
theorem Ib {α : Type} : ∀ (l : List α) (j : Nat), (evK l)[j]? = l[2 * j]?
 | [], j => by simp [evK]
 | [a], j => by
  cases j with
  | zero => rfl
  | succ j => simp [evK]
 | a :: b :: l, j => by
  cases j with
  | zero => rfl
  | succ j =>
   have e : 2 * (j + 1) = 2 * j + 1 + 1 := by omega
   rw [e]
   simp only [evK, List.getElem?_cons_succ]
   exact Ib l j
theorem Kl {α : Type} : ∀ (l : List α), (evK l).length = (l.length + 1) / 2
 | [] => by simp [evK]
 | [a] => by simp [evK]
 | a :: b :: l => by simp only [evK, List.length_cons, Kl l]; omega
def nT (l : List (Int × Int)) : Bool := ((evK l).all fun v => decide (v.1 = 5)) && decide ((evK l).map (·.2)).Nodup && decide (l.length % 2 = 0)
def WI (n : Int) : Prop := (Lit.int .i64 n).wf = true
open Classical in
noncomputable def dG (S : List Int) (k : Value) : Option Value := if ∃ n ∈ S, k = .int .i64 n then some (.int .i64 1) else none
theorem wX {S : List Int} {n : Int} (h : n ∉ S) : dG S (.int .i64 n) = none := by
 unfold dG
 rw [if_neg]
 rintro ⟨q, hq, he⟩
 cases he
 exact h hq
theorem uB {S : List Int} {n : Int} (h : n ∈ S) : dG S (.int .i64 n) = some (.int .i64 1) := by
 unfold dG
 rw [if_pos ⟨n, h, rfl⟩]
theorem zJ (S : List Int) (n : Int) : updF (dG S) (.int .i64 n) (.int .i64 1) = dG (n :: S) := by
 funext k
 unfold updF dG
 by_cases h : k = .int .i64 n
 ·rw [if_pos h, if_pos ⟨n, List.mem_cons_self .., h⟩]
 ·rw [if_neg h]
  by_cases h2 : ∃ q ∈ S, k = .int .i64 q
  ·obtain ⟨q, hq, he⟩ := h2
   rw [if_pos ⟨q, hq, he⟩, if_pos ⟨q, List.mem_cons_of_mem _ hq, he⟩]
  ·rw [if_neg h2, if_neg]
   rintro ⟨q, hq, he⟩
   rcases List.mem_cons.1 hq with rfl | hq
   ·exact h he
   ·exact h2 ⟨q, hq, he⟩
theorem zX : dG [] = fun _ => none := by
 funext k; unfold dG; rw [if_neg]; simp
theorem Ir {S S' : List Int} (h : ∀ s, s ∈ S ↔ s ∈ S') : dG S = dG S' := by
 funext k
 unfold dG
 have : (∃ s ∈ S, k = .int .i64 s) ↔ ∃ s ∈ S', k = .int .i64 s := ⟨fun ⟨s, h1, h2⟩ => ⟨s, (h s).1 h1, h2⟩, fun ⟨s, h1, h2⟩ => ⟨s, (h s).2 h1, h2⟩⟩
 by_cases hx : ∃ s ∈ S, k = .int .i64 s
 ·rw [if_pos hx, if_pos (this.1 hx)]
 ·rw [if_neg hx, if_neg fun h => hx (this.2 h)]
theorem keyI (n : Int) (h : WI n) : ∃ l, keyOf Tryz.prog 3 (.int .i64 n) = some l := by
 refine ⟨.int .i64 n, ?_⟩
 simp [keyOf, mapKey, Tryz.underlying3, show (Lit.int .i64 n).wf = true from h]
theorem sT {S : List Int} (hS : ∀ s ∈ S, WI s) {n : Int} (hn : WI n) : nO Tryz.prog 109 (dG S) (.int .i64 n) := by
 refine ⟨⟨_, _, Tryz.underlying109, .int Tryz.underlying3, keyI n hn, fun k' v' h => ?_⟩⟩
 unfold dG at h
 split at h
 ·rename_i hq
  obtain ⟨q, hq, rfl⟩ := hq
  exact keyI q (hS q hq)
 ·cases h
theorem Ig {l : List (Int × Int)} (h1 : ((evK l).all fun v => decide (v.1 = 5)) = true) (h2 : ((evK l).map (·.2)).Nodup) : nT l = decide (l.length % 2 = 0) := by
 unfold nT; rw [h1, decide_eq_true h2]; rfl
theorem Hp {l : List (Int × Int)} {j : Nat} {v : Int × Int} (h : (evK l)[j]? = some v) (hv : v.1 ≠ 5) : nT l = false := by
 unfold nT
 have : ((evK l).all fun v => decide (v.1 = 5)) = false := by
  rw [Bool.eq_false_iff]; intro h3
  have := List.all_eq_true.1 h3 v (List.mem_of_getElem? h)
  simp at this; exact hv this
 rw [this]; rfl
theorem Fl {l : List (Int × Int)} {j : Nat} {v : Int × Int} (h : (evK l)[j]? = some v) (hv : v.2 ∈ ((evK l).take j).map (·.2)) : nT l = false := by
 unfold nT
 have : ¬ ((evK l).map (·.2)).Nodup := fun hn => by
  rw [List.map_take] at hv
  obtain ⟨i, hi⟩ := List.mem_iff_getElem?.1 hv
  rw [List.getElem?_take] at hi
  split at hi
  ·rename_i hij
   have hj : ((evK l).map (·.2))[j]? = some v.2 := by rw [List.getElem?_map, h]; rfl
   have h1 := (List.getElem?_eq_some_iff.1 hj).1
   have := (List.getElem?_inj h1 hn).1 (hj.trans hi.symm)
   omega
  ·cases hi
 rw [decide_eq_false this]; simp
theorem aDl (l : List (Int × Int)) (x : AV) (hl : l.length ≤ 9223372036854775800) (hw : ∀ v ∈ l, WI v.2) (hx : aW bD x = true) : FC Cx 169 [x, aN l] [] (Bv (nT l)) [] := by
 have l1 : (l.map valR).length = l.length := List.length_map ..
 refine aE [] Tryz.func169 Tryz.ntmps169 Tryz.results169 ?_
 (any_goals refine go Ek 0 ?_)
 refine dB (fun x : Nat × Nat => x.1 ≤ (evK l).length ∧ (((evK l).take x.1).all fun v => decide (v.1 = 5)) = true ∧ (((evK l).take x.1).map (·.2)).Nodup)
  (fun x => ⟨40, [(1, aN l), (5, .os 7 1), (6, Iv ((2 * x.1 : Nat) : Int))], [(7, 1, .mp (dG (((evK l).take x.1).map (·.2))) x.2)]⟩) (fun x => (evK l).length - x.1) (0, 0) ⟨Nat.zero_le _, rfl, List.nodup_nil⟩ ?_ rfl ?_ ⟨rfl, .inl ⟨rfl, by simp [zX]⟩, trivial⟩
 rotate_left
 ·exact ⟨rfl, rfl, rfl, trivial⟩
 rintro ⟨j, n⟩ ⟨hj, h5, hn⟩
 dsimp only at hj h5 hn ⊢
 have hlen := Kl l
 by_cases hlt : 2 * j < l.length
 case neg =>
  have e1 : decide (((2 * j : Nat) : Int) < (l.length : Int)) = false := by rw [decide_eq_false_iff_not]; omega
  have ej : (evK l).take j = evK l := List.take_of_length_le (by omega)
  rw [ej] at h5 hn
  have hF := Ig h5 hn
  (any_goals refine go Ek 0 ?_)
  all_goals (try simp only [go_sem])
  rw [hF]
  refine congrArg (fun b => Bv b) ?_
  rw [decide_eq_decide, show ((l.length : Int)).tmod 2 = ((l.length % 2 : Nat) : Int) from rfl]
  omega
 have e1 : decide (((2 * j : Nat) : Int) < (l.length : Int)) = true := by rw [decide_eq_true_eq]; omega
 have t1 : Int.toNat ((2 * j : Nat) : Int) = 2 * j := by omega
 have w1 : IntKind.i64.wrap (((2 * j : Nat) : Int) + 2) = ((2 * (j + 1) : Nat) : Int) := by rw [aS] <;> omega
 obtain ⟨v, hv⟩ : ∃ v, l[2 * j]? = some v := ⟨l[2 * j], List.getElem?_eq_getElem hlt⟩
 have hg := aG valR hv ([] : List RV)
 have hev : (evK l)[j]? = some v := by rw [Ib]; exact hv
 have hk : j < (evK l).length := (List.getElem?_eq_some_iff.1 hev).1
 by_cases hv5 : v.1 = 5
 case neg =>
  have d5 : decide (v.1 = 5) = false := by simpa using hv5
  have hF := Hp hev hv5
  (any_goals refine go Ek 0 ?_)
  all_goals (try simp only [go_sem, hF])
 have d5 : decide (v.1 = 5) = true := by simpa using hv5
 have hM : nO Tryz.prog 109 (dG (((evK l).take j).map (·.2))) (.int .i64 v.2) := sT (fun q hq => by
  obtain ⟨z, hz, rfl⟩ := List.mem_map.1 hq
  have := List.mem_of_mem_take hz
  obtain ⟨i, hi⟩ := List.mem_iff_getElem?.1 this
  rw [Ib] at hi
  exact hw z (List.mem_of_getElem? hi)) (hw v (List.mem_of_getElem? hv))
 by_cases hin : v.2 ∈ ((evK l).take j).map (·.2)
 ·have d6 := uB hin
  have hF := Fl hev hin
  (any_goals refine go Ek 0 ?_)
  all_goals (try simp only [go_sem, hF])
 ·have d6 := wX hin
  (any_goals refine go Ek 0 ?_)
  have et : (evK l).take (j + 1) = (evK l).take j ++ [v] := by rw [List.take_add_one, hev]; rfl
  refine ⟨(j + 1, updN (dG (((evK l).take j).map (·.2))) (.int .i64 v.2) n), ⟨by dsimp only; omega, by dsimp only; rw [et, List.all_append, h5]; simp [hv5], ?_⟩, by dsimp only; omega, ⟨rfl, mF ⟨rfl, rfl, rfl, trivial⟩, lC ⟨rfl, .inl ⟨rfl, ?_⟩, trivial⟩⟩⟩
  ·dsimp only
   rw [et, List.map_append]
   refine List.nodup_append.2 ⟨hn, by simp, fun a ha b hb => ?_⟩
   simp at hb; subst hb
   exact fun e => hin (e ▸ ha)
  ·refine congrArg (fun f => Res.mp f _) ?_
   rw [zJ]
   dsimp only
   refine Ir fun q => ?_
   rw [et, List.map_append]
   simp [or_comm]
theorem Gi (l : List aK) (f : Nat) (caps : List RV) (dom : AV → Prop) (pv : AV → Bool) (h : ∀ y, dom y → aO Cx f (y :: caps.map AV.r) (Bv (pv y))) (hd : ∀ x ∈ l, dom (dA x)) (hl : l.length ≤ 9223372036854775807) :
  FC Cx 188 [bL l, .r (.fn f caps)] [] (Iv (fidx (fun x => pv (dA x)) l)) [] := by
 have hlen : (l.map bM).length = l.length := List.length_map ..
 refine aE [ctF f caps dom pv h] Tryz.func188 Tryz.ntmps188 Tryz.results188 ?_
 (any_goals refine go Lc 0 ?_)
 refine dC [0, 1, 7, 8] (fun i => i ≤ l.length ∧ ∀ j x, j < i → l[j]? = some x → pv (dA x) = false) (fun (i : Nat) => ⟨19, [(0, bL l), (1, .r (.fn f caps)), (7, Iv l.length), (8, Iv i)], []⟩) (fun i => l.length - i) 0 rfl (by rw [← hlen]; rfl) rfl ⟨Nat.zero_le _, fun j x hj => by omega⟩ ?_
 rintro i ⟨hi, hno⟩
 by_cases hlt : i < l.length
 ·obtain ⟨x, hx⟩ : ∃ x, l[i]? = some x := ⟨l[i], List.getElem?_eq_getElem hlt⟩
  have hg := aG bM hx ([] : List RV)
  have hdx := hd x (List.mem_of_getElem? hx)
  have hw : IntKind.i64.wrap ((i : Int) + 1) = ((i + 1 : Nat) : Int) := by rw [aS] <;> omega
  have h1 : decide ((i : Int) < (l.length : Int)) = true := by rw [decide_eq_true_eq]; omega
  have h2 : Int.toNat (i : Int) = i := by omega
  cases hp : pv (dA x) with
  | true =>
   (any_goals refine go Lc 0 ?_)
   all_goals (try simp only [go_sem])
   rw [gA hx hp fun j y hj hy => hno j y hj hy]
  | false =>
   (any_goals refine go Lc 0 ?_)
   refine ⟨i + 1, ⟨by omega, fun j y hj hy => ?_⟩, by omega, dQ [0, 1, 7, 8] rfl rfl rfl⟩
   rcases Nat.lt_succ_iff_lt_or_eq.1 hj with h3 | h3
   ·exact hno j y h3 hy
   ·subst h3; rw [hx] at hy; cases hy; exact hp
 ·have h1 : decide ((i : Int) < (l.length : Int)) = false := by rw [decide_eq_false_iff_not]; omega
  (any_goals refine go Lc 0 ?_)
  all_goals (try simp only [go_sem])
  rw [eN fun j y hy => hno j y (by have := (List.getElem?_eq_some_iff.1 hy).1; omega) hy]
theorem Im (l : List aK) (f : Nat) (caps : List RV) (dom : AV → Prop) (pv : AV → Bool) (h : ∀ y, dom y → aO Cx f (y :: caps.map AV.r) (Bv (pv y))) (hd : ∀ x ∈ l, dom (dA x)) (hl : l.length ≤ 9223372036854775807) :
  FC Cx 171 [bL l, .r (.fn f caps)] [] (Bv (l.any fun x => pv (dA x))) [] := by
 have hA : ∀ y, y = [bL l, .r (.fn f caps)] → aO Cx 188 y (Iv (fidx (fun x => pv (dA x)) l)) := fun y hy => by
  subst hy; exact aB (Gi l f caps dom pv h hd hl) aLm rfl rfl
 refine aE [ctE 188 [bL l, .r (.fn f caps)] (Iv (fidx (fun x => pv (dA x)) l)) hA] Tryz.func171 Tryz.ntmps171 Tryz.results171 ?_
 (any_goals refine go aKx 0 ?_)
 all_goals (try simp only [go_sem])
 all_goals (try rw [fK])
structure Gwf (f : aK) : Prop where
 regs : f.regs.length ≤ 9223372036854775807
 tries : f.tries.length ≤ 9223372036854775807
 gen : WI f.gen
structure Cwf (c : aZ) : Prop where
 vals : c.vals.length ≤ 9223372036854775807
 val : ∀ v ∈ c.vals, WI v.2
 frames : c.frames.length ≤ 9223372036854775807
 frame : ∀ f ∈ c.frames, Gwf f
structure Swf (s : aC) : Prop where
 len : Slen s
 shapes : Sh.Wf s.shapes
 cell : ∀ c ∈ s.cells, Cwf c
 thread : ∀ t ∈ s.threads, t.frames.length ≤ 9223372036854775807 ∧ ∀ f ∈ t.frames, Gwf f
noncomputable section
def numF (s : aC) (c : aZ) : Bool :=
 if c.kind = 1 then decide (0 ≤ c.num ∧ c.num ≤ (s.shapes.length : Int) - 1) else if c.kind = 4 then decide (0 ≤ c.num) else if c.kind = 5 then decide (0 ≤ c.num ∧ c.num ≤ 2) else
 if c.kind = 6 then decide (-1 ≤ c.num ∧ c.num ≤ 4) else decide (c.num = 0)
def kP (s : aC) (c : aZ) : Bool :=
 if c.kind = 1 then numF s c && decide ((c.vals.length : Int) = ((Sh.namesF s.shapes c.num).length : Int)) else if c.kind = 2 then true else if c.kind = 3 then decide ((c.vals.length : Int) = 1) else
 if c.kind = 4 then !(c.vals.any fun v => !isF' s v 3) else if c.kind = 7 then nT c.vals else decide ((c.vals.length : Int) = 0)
def dF (c : aZ) : Int := if c.kind = 5 ∧ c.num = 0 then 1 else 0
def qK (s : aC) (f : aK) : Bool := f.regs.all (fitsF s) && fitsF s f.self
def gC (s : aC) (c : aZ) : Bool := decide (0 ≤ c.kind ∧ c.kind ≤ 7) && numF s c && kP s c && decide ((c.frames.length : Int) = dF c) && c.vals.all (fitsF s) && c.frames.all (qK s)
end
def Qf : AV → aK
 | .agg [.r (.v (.int _ a)), .r (.v (.int _ b)), .r (.v (.int _ c)), .r (.v (.int _ d)), .r (.v (.int _ k)), .r (.v (.int _ n)), .r (.rs _ rs), .r (.rs _ ts)] => ⟨a, b, c, d, (k, n), valsOf rs, triesOf ts⟩
 | _ => Jc
theorem Eo (f : aK) : Qf (dA f) = f := by
 show (⟨f.fn, f.pc, f.tov, f.gen, (f.self.1, f.self.2), valsOf (f.regs.map valR), triesOf (f.tries.map tryR)⟩ : aK) = f
 rw [nC, nR]
theorem Zt (s : aC) (k n : Int) : FC Cx 168 [VV k n, .r (.rp [.rp (bR s)])] [] (Bv (!isF' s (k, n) 3)) [] := by
 refine aE [Rb] Tryz.func168 Tryz.ntmps168 Tryz.results168 ?_
 refine goR ?_
 refine fzB 2 ?_
 (any_goals refine go aOy 0 ?_)
 all_goals (try simp only [go_sem])
theorem Wu (s : aC) (f : aK) (hf : Gwf f) : FC Cx 172 [dA f, .r (.rp [.rp (bR s)])] [] (Bv (!qK s f)) [] := by
 have l1 : (f.regs.map valR).length = f.regs.length := List.length_map ..
 have h1 := hf.regs
 unfold qK
 cases hb : f.regs.all (fitsF s)
 all_goals
  refine aE [Bq, kM] Tryz.func172 Tryz.ntmps172 Tryz.results172 ?_
  refine goR ?_
  refine fzB 2 ?_
  (any_goals refine go aK0 0 ?_)
  all_goals (try simp only [go_sem])
  all_goals simp
theorem Nk (n lo hi : Int) : FC Cx 120 [Iv n, Iv lo, Iv hi] [] (Bv (decide (lo ≤ n ∧ n ≤ hi))) [] := by
 refine aE [] Tryz.func120 Tryz.ntmps120 Tryz.results120 ?_
 (any_goals refine go aM1 0 ?_)
 all_goals (try simp only [go_sem])
 all_goals simp_all
 all_goals omega
def nB (args : List AV) (K : AV → Prop) : Prop := match args with
 | [.r (.v (.int .i64 n)), .r (.v (.int .i64 lo)), .r (.v (.int .i64 hi))] => K (Bv (decide (lo ≤ n ∧ n ≤ hi)))
 | _ => False
noncomputable abbrev qQ : Ct Cx := .pure 120 nB fun args K h => by
 unfold nB at h; split at h; exact ⟨_, aB (Nk _ _ _) aMl rfl rfl, h⟩; exact h.elim
@[go_sem] theorem Wi : type_of% @nB.eq_def := @nB.eq_def
theorem Yj (x : RV) (us : List (List RV)) (h : us = (valsOf us).map valR ∧ (valsOf us).length ≤ 1000 ∧ ∀ v ∈ valsOf us, WI v.2) : FC Cx 169 [.r x, .r (.rs 2 us)] [] (Bv (nT (valsOf us))) [] := by
 have := aDl (valsOf us) (.r x) (by omega) h.2.2 rfl
 rwa [iG h.1] at this
def tD (args : List AV) (K : AV → Prop) : Prop := match args with
 | [.r x, .r (.rs 2 us)] => (us = (valsOf us).map valR ∧ (valsOf us).length ≤ 1000 ∧ ∀ v ∈ valsOf us, WI v.2) ∧ K (Bv (nT (valsOf us)))
 | _ => False
noncomputable abbrev Fg : Ct Cx := .pure 169 tD fun args K h => by
 unfold tD at h; split at h; exact ⟨_, aB (Yj _ _ h.1) aLl rfl rfl, h.2⟩; exact h.elim
@[go_sem] theorem aCg : type_of% @tD.eq_def := @tD.eq_def
theorem aGv (s : aC) (c : aZ) (hs : Swf s) (hc : Cwf c) (hv6 : c.vals.length ≤ 600) : FC Cx 115 [gK s, cW c] [] (Bv (gC s c)) [] := by
 have l1 : (c.vals.map valR).length = c.vals.length := List.length_map ..
 have l2 : (c.frames.map bM).length = c.frames.length := List.length_map ..
 have l3 : (s.shapes.map valR).length = s.shapes.length := List.length_map ..
 have hsl := hs.len.shapes
 have hcf := hc.frames
 have hw := hs.shapes
 have hwi := hc.val
 have hv7 : c.vals.length ≤ 1000 := by omega
 have w1 : IntKind.i64.wrap ((s.shapes.length : Int) - 1) = (s.shapes.length : Int) - 1 := by rw [aS] <;> omega
 have ln : ((Sh.namesF s.shapes c.num).map Sh.intR).length = (Sh.namesF s.shapes c.num).length := List.length_map ..
 have hA : ∀ y, y = [aN c.vals, .r (.fn 168 [.rp [.rp (bR s)]])] → aO Cx 102 y (Bv (c.vals.any fun v => !isF' s v 3)) := fun y hy => by
  subst hy
  refine aB (oR c.vals _ [.rp [.rp (bR s)]] (fun y => ∃ v, y = valA v) (fun y => !isF' s (valV y) 3) ?_ (fun x _ => ⟨x, rfl⟩) (by omega)) Fb rfl rfl
  rintro _ ⟨v, rfl⟩
  exact aB (Zt s v.1 v.2) aO7 rfl rfl
 have hB : ∀ y, y = [bL c.frames, .r (.fn 172 [.rp [.rp (bR s)]])] → aO Cx 171 y (Bv (c.frames.any fun f => !qK s f)) := fun y hy => by
  subst hy
  have h := Im c.frames 172 [.rp [.rp (bR s)]] (fun y => ∃ f, Gwf f ∧ y = dA f) (fun y => !qK s (Qf y)) (by
   rintro _ ⟨f, hf, rfl⟩
   have := Wu s f hf
   rw [Eo]
   exact aB this aL6 rfl rfl) (fun x hx => ⟨x, hc.frame x hx, rfl⟩) hcf
  simp only [Eo] at h
  exact aB h aO1 rfl rfl
 have eC : gC s c = (decide (0 ≤ c.kind ∧ c.kind ≤ 7) && !(!numF s c || !kP s c || !decide ((c.frames.length : Int) = dF c) || !(c.vals.all (fitsF s))) && !(c.frames.any fun f => !qK s f)) := by
  unfold gC
  rw [wB c.frames]
  simp only [Bool.not_or, Bool.not_not, Bool.and_assoc]
 by_cases hk : 0 ≤ c.kind ∧ c.kind ≤ 7
 case neg =>
  rw [eC, decide_eq_false hk, Bool.false_and, Bool.false_and]
  have d0 : decide (c.kind = 0) = false := by rw [decide_eq_false_iff_not]; omega
  have d1 : decide (c.kind = 1) = false := by rw [decide_eq_false_iff_not]; omega
  have d2 : decide (c.kind = 2) = false := by rw [decide_eq_false_iff_not]; omega
  have d3 : decide (c.kind = 3) = false := by rw [decide_eq_false_iff_not]; omega
  have d4 : decide (c.kind = 4) = false := by rw [decide_eq_false_iff_not]; omega
  have d5 : decide (c.kind = 5) = false := by rw [decide_eq_false_iff_not]; omega
  have d6 : decide (c.kind = 6) = false := by rw [decide_eq_false_iff_not]; omega
  have d7 : decide (c.kind = 7) = false := by rw [decide_eq_false_iff_not]; omega
  refine aE [qQ, Sh.ct_Names, Fg, Bq] Tryz.func115 Tryz.ntmps115 Tryz.results115 ?_
  refine goR ?_
  refine fzB 2 ?_
  refine fzB 3 ?_
  (any_goals refine go mC 0 ?_)
  all_goals (try simp only [go_sem])
 rw [eC, decide_eq_true hk, Bool.true_and]
 refine aE [qQ, Sh.ct_Names, Fg, Bq, ctE 102 [aN c.vals, .r (.fn 168 [.rp [.rp (bR s)]])] (Bv (c.vals.any fun v => !isF' s v 3)) hA, ctE 171 [bL c.frames, .r (.fn 172 [.rp [.rp (bR s)]])] (Bv (c.frames.any fun f => !qK s f)) hB] Tryz.func115 Tryz.ntmps115 Tryz.results115 ?_
 refine goR ?_
 refine fzB 2 ?_
 refine fzB 3 ?_
 (any_goals refine go (iS 2 mC) 0 ?_)
 refine goR1 mC 0 ?_
 refine Zy (st' := ⟨107, [(2, .r (.rp [.rp (bR s)])), (3, .r (.rp (bA c))), (5, Bv (numF s c)), (6, Bv (kP s c)), (7, Iv (dF c))], [(2, 2, .gone), (3, 2, .gone)]⟩) True rfl ?_ fun _ => ?_
 ·clear eC
  obtain ⟨kind, num, vals, frames⟩ := c
  dsimp only at *
  have k8 : kind = 0 ∨ kind = 1 ∨ kind = 2 ∨ kind = 3 ∨ kind = 4 ∨ kind = 5 ∨ kind = 6 ∨ kind = 7 := by omega
  rcases k8 with rfl | rfl | rfl | rfl | rfl | rfl | rfl | rfl
  ·rw [show numF s ⟨0, num, vals, frames⟩ = decide (num = 0) from rfl, show kP s ⟨0, num, vals, frames⟩ = decide ((vals.length : Int) = 0) from rfl, show dF ⟨0, num, vals, frames⟩ = 0 from rfl]
   (any_goals refine go mC 0 ?_)
   all_goals (try simp only [go_sem])
   exact Lx.le bQ
  ·rw [show numF s ⟨1, num, vals, frames⟩ = decide (0 ≤ num ∧ num ≤ (s.shapes.length : Int) - 1) from rfl, show kP s ⟨1, num, vals, frames⟩ = (decide (0 ≤ num ∧ num ≤ (s.shapes.length : Int) - 1) && decide ((vals.length : Int) = ((Sh.namesF s.shapes num).length : Int))) from rfl, show dF ⟨1, num, vals, frames⟩ = 0 from rfl]
   cases hb : decide (0 ≤ num ∧ num ≤ (s.shapes.length : Int) - 1)
   all_goals
    (any_goals refine go mC 0 ?_)
    all_goals (try simp only [go_sem])
    exact Lx.le bQ
  ·rw [show numF s ⟨2, num, vals, frames⟩ = decide (num = 0) from rfl, show kP s ⟨2, num, vals, frames⟩ = true from rfl, show dF ⟨2, num, vals, frames⟩ = 0 from rfl]
   (any_goals refine go mC 0 ?_)
   all_goals (try simp only [go_sem])
   exact Lx.le bQ
  ·rw [show numF s ⟨3, num, vals, frames⟩ = decide (num = 0) from rfl, show kP s ⟨3, num, vals, frames⟩ = decide ((vals.length : Int) = 1) from rfl, show dF ⟨3, num, vals, frames⟩ = 0 from rfl]
   (any_goals refine go mC 0 ?_)
   all_goals (try simp only [go_sem])
   exact Lx.le bQ
  ·rw [show numF s ⟨4, num, vals, frames⟩ = decide (0 ≤ num) from rfl, show kP s ⟨4, num, vals, frames⟩ = !(vals.any fun v => !isF' s v 3) from rfl, show dF ⟨4, num, vals, frames⟩ = 0 from rfl]
   (any_goals refine go mC 0 ?_)
   all_goals (try simp only [go_sem])
   exact Lx.le bQ
  ·rw [show numF s ⟨5, num, vals, frames⟩ = decide (0 ≤ num ∧ num ≤ 2) from rfl, show kP s ⟨5, num, vals, frames⟩ = decide ((vals.length : Int) = 0) from rfl]
   by_cases n0 : num = 0
   ·subst n0
    rw [show dF ⟨5, 0, vals, frames⟩ = 1 from rfl]
    (any_goals refine go mC 0 ?_)
    all_goals (try simp only [go_sem])
    exact Lx.le bQ
   ·have d0 : decide (num = 0) = false := by simpa using n0
    rw [show dF ⟨5, num, vals, frames⟩ = 0 from if_neg (fun h => n0 h.2)]
    (any_goals refine go mC 0 ?_)
    all_goals (try simp only [go_sem])
    exact Lx.le bQ
  ·rw [show numF s ⟨6, num, vals, frames⟩ = decide (-1 ≤ num ∧ num ≤ 4) from rfl, show kP s ⟨6, num, vals, frames⟩ = decide ((vals.length : Int) = 0) from rfl, show dF ⟨6, num, vals, frames⟩ = 0 from rfl]
   (any_goals refine go mC 0 ?_)
   all_goals (try simp only [go_sem])
   exact Lx.le bQ
  ·rw [show numF s ⟨7, num, vals, frames⟩ = decide (num = 0) from rfl, show kP s ⟨7, num, vals, frames⟩ = nT vals from rfl, show dF ⟨7, num, vals, frames⟩ = 0 from rfl]
   (any_goals refine go mC 0 ?_)
   all_goals (try simp only [go_sem])
   exact Lx.le bQ
 generalize numF s c = b1
 generalize kP s c = b2
 generalize dF c = b3
 generalize hb4 : c.vals.all (fitsF s) = b4
 clear eC
 (any_goals refine go mC 0 ?_)
 repeat' (first | (refine Br.go (fun h h' => ?_) (fun h h' => ?_)) | (refine Br.mk (fun h => ?_) (fun h => ?_)))
 all_goals (try simp only [go_sem])
 all_goals clear hb4 hA hB hwi
 all_goals (simp_all; done)
theorem Ye (ca sh tx th en sd : List (List RV)) (aq sq : Int) (c1 c2 : Int) (us vs : List (List RV)) (h : ((ca = (cellsOf ca).map bA ∧ sh = (valsOf sh).map valR ∧ tx = (strsOf tx).map strR ∧ th = (threadsOf th).map aL ∧ en = (aH en).map endR ∧ sd = (valsOf sd).map valR) ∧ us = (valsOf us).map valR ∧ vs = (framesOf vs).map bM) ∧ Swf ⟨cellsOf ca, valsOf sh, strsOf tx, threadsOf th, aH en, valsOf sd, aq, sq⟩ ∧ Cwf ⟨c1, c2, valsOf us, framesOf vs⟩ ∧ (valsOf us).length ≤ 600) : FC Cx 115 [.r (.rp [.rs 4 ca, .rs 2 sh, .rs 1 tx, .rs 5 th, .rs 3 en, .rs 2 sd, .v (.int .i64 aq), .v (.int .i64 sq)]), .agg [Iv c1, Iv c2, .r (.rs 2 us), .r (.rs 8 vs)]] [] (Bv (gC ⟨cellsOf ca, valsOf sh, strsOf tx, threadsOf th, aH en, valsOf sd, aq, sq⟩ ⟨c1, c2, valsOf us, framesOf vs⟩)) [] := by
 have := aGv ⟨cellsOf ca, valsOf sh, strsOf tx, threadsOf th, aH en, valsOf sd, aq, sq⟩ ⟨c1, c2, valsOf us, framesOf vs⟩ h.2.1 h.2.2.1 h.2.2.2
 rwa [jR _ _ _ _ _ _ _ _ h.1.1, show cW ⟨c1, c2, valsOf us, framesOf vs⟩ = .agg [Iv c1, Iv c2, .r (.rs 2 us), .r (.rs 8 vs)] from by
  show AV.agg [Iv c1, Iv c2, aN (valsOf us), bL (framesOf vs)] = _
  rw [iG h.1.2.1, Gy h.1.2.2]] at this
def tC (args : List AV) (K : AV → Prop) : Prop := match args with
 | [.r (.rp [.rs 4 ca, .rs 2 sh, .rs 1 tx, .rs 5 th, .rs 3 en, .rs 2 sd, .v (.int .i64 aq), .v (.int .i64 sq)]), .agg [.r (.v (.int .i64 c1)), .r (.v (.int .i64 c2)), .r (.rs 2 us), .r (.rs 8 vs)]] => (((ca = (cellsOf ca).map bA ∧ sh = (valsOf sh).map valR ∧ tx = (strsOf tx).map strR ∧ th = (threadsOf th).map aL ∧ en = (aH en).map endR ∧ sd = (valsOf sd).map valR) ∧ us = (valsOf us).map valR ∧ vs = (framesOf vs).map bM) ∧ Swf ⟨cellsOf ca, valsOf sh, strsOf tx, threadsOf th, aH en, valsOf sd, aq, sq⟩ ∧ Cwf ⟨c1, c2, valsOf us, framesOf vs⟩ ∧ (valsOf us).length ≤ 600) ∧ K (Bv (gC ⟨cellsOf ca, valsOf sh, strsOf tx, threadsOf th, aH en, valsOf sd, aq, sq⟩ ⟨c1, c2, valsOf us, framesOf vs⟩))
 | _ => False
noncomputable abbrev Ph : Ct Cx := .pure 115 tC fun args K h => by
 unfold tC at h; split at h; exact ⟨_, aB (Ye _ _ _ _ _ _ _ _ _ _ _ _ h.1) aOr rfl rfl, h.2⟩; exact h.elim
@[go_sem] theorem aC8 : type_of% @tC.eq_def := @tC.eq_def
end Go.Proofs.YtbhnmolmkembdaaGreatDoor
namespace Go.Proofs.YtbhnmolmkembdaaGreatDoor
set_option linter.unusedVariables false
set_option linter.unusedSimpArgs false
set_option maxHeartbeats 10000000
open Go Go.ChangeShapes Go.WideShapes Go.ChangeAt Go.RowKit
theorem aP1 : Tryz.prog.cellsOf 81 = 2 := by kernel_rfl
theorem Kv : Tryz.prog.cellsOf 61 = 8 := by kernel_rfl
theorem aDt : Tryz.prog.cellsOf 48 = 4 := by kernel_rfl
theorem Rx : Tryz.prog.cellsOf 56 = 5 := by kernel_rfl
theorem aJz : Tryz.prog.cellsOf 127 = 3 := by kernel_rfl
theorem Yc : Tryz.prog.cellsOf 97 = 2 := by kernel_rfl
theorem gQ {α : Type} {P : Program} {t e sz : Nat} {row : List RV} (f : α → List RV) (p : α → Prop) (h : Ro P t row) (ht : P.underlying t = some (.slice e)) (hc : P.cellsOf e = sz) (hx : ∀ r, Ro P e r → ∃ x, r = f x ∧ p x) : ∃ l : List α, row = [.rs sz (l.map f)] ∧ l.length ≤ 9223372036854775807 ∧ ∀ x ∈ l, p x := by
 obtain ⟨rows, rfl, hm, h2⟩ := lU h ht
 obtain ⟨l, rfl, hl⟩ := jT (f := f) (p := p) fun r hr => hx r (h2 r hr)
 have := pD
 rw [List.length_map] at hm
 exact ⟨l, by rw [hc], by omega, hl⟩
theorem pZ {row : List RV} (h : Ro Tryz.prog 50 row) : ∃ v : Int × Int, row = valR v ∧ WI v.2 := by
 obtain ⟨rows, rfl, h1, h2⟩ := dJ h Tryz.underlying50
 match rows, h1 with
 | [a, b], _ =>
  obtain ⟨x1, rfl, _⟩ := cI (h2 0 _ a rfl rfl) Tryz.underlying3
  obtain ⟨x2, rfl, q⟩ := cI (h2 1 _ b rfl rfl) Tryz.underlying3
  exact ⟨(x1, x2), rfl, q⟩
theorem Ng {row : List RV} (h : Ro Tryz.prog 97 row) : ∃ v : Int × Int, row = valR v ∧ Sh.WfS v := by
 obtain ⟨rows, rfl, h1, h2⟩ := dJ h Tryz.underlying97
 match rows, h1 with
 | [a, b], _ =>
  obtain ⟨x1, rfl, q1⟩ := cI (h2 0 _ a rfl rfl) Tryz.underlying3
  obtain ⟨x2, rfl, q2⟩ := cI (h2 1 _ b rfl rfl) Tryz.underlying3
  exact ⟨(x1, x2), rfl, q1, q2⟩
theorem Xu {row : List RV} (h : Ro Tryz.prog 81 row) : ∃ v : Int × Int, row = tryR v ∧ True := by
 obtain ⟨rows, rfl, h1, h2⟩ := dJ h Tryz.underlying81
 match rows, h1 with
 | [a, b], _ =>
  obtain ⟨x1, rfl, q1⟩ := cI (h2 0 _ a rfl rfl) Tryz.underlying3
  obtain ⟨x2, rfl, q2⟩ := cI (h2 1 _ b rfl rfl) Tryz.underlying3
  exact ⟨(x1, x2), rfl, trivial⟩
theorem Ej {row : List RV} (h : Ro Tryz.prog 61 row) : ∃ f : aK, row = bM f ∧ Gwf f := by
 obtain ⟨rows, rfl, h1, h2⟩ := dJ h Tryz.underlying61
 match rows, h1 with
 | [a, b, c, d, e, u, v], _ =>
  obtain ⟨x1, rfl, _⟩ := cI (h2 0 _ a rfl rfl) Tryz.underlying3
  obtain ⟨x2, rfl, _⟩ := cI (h2 1 _ b rfl rfl) Tryz.underlying3
  obtain ⟨x3, rfl, _⟩ := cI (h2 2 _ c rfl rfl) Tryz.underlying3
  obtain ⟨x4, rfl, q4⟩ := cI (h2 3 _ d rfl rfl) Tryz.underlying3
  obtain ⟨x5, rfl, _⟩ := pZ (h2 4 _ e rfl rfl)
  obtain ⟨x6, rfl, m6, _⟩ := gQ valR (fun v => WI v.2) (h2 5 _ u rfl rfl) Tryz.underlying23 Kg fun r hr => pZ hr
  obtain ⟨x7, rfl, m7, _⟩ := gQ tryR (fun _ => True) (h2 6 _ v rfl rfl) Tryz.underlying59 aP1 fun r hr => Xu hr
  exact ⟨⟨x1, x2, x3, x4, x5, x6, x7⟩, rfl, m6, m7, q4⟩
theorem Zl {row : List RV} (h : Ro Tryz.prog 48 row) : ∃ c : aZ, row = bA c ∧ Cwf c := by
 obtain ⟨rows, rfl, h1, h2⟩ := dJ h Tryz.underlying48
 match rows, h1 with
 | [a, b, u, v], _ =>
  obtain ⟨x1, rfl, _⟩ := cI (h2 0 _ a rfl rfl) Tryz.underlying3
  obtain ⟨x2, rfl, _⟩ := cI (h2 1 _ b rfl rfl) Tryz.underlying3
  obtain ⟨x3, rfl, m3, q3⟩ := gQ valR (fun v => WI v.2) (h2 2 _ u rfl rfl) Tryz.underlying23 Kg fun r hr => pZ hr
  obtain ⟨x4, rfl, m4, q4⟩ := gQ bM Gwf (h2 3 _ v rfl rfl) Tryz.underlying46 Kv fun r hr => Ej hr
  exact ⟨⟨x1, x2, x3, x4⟩, rfl, m3, q3, m4, q4⟩
theorem Nm {row : List RV} (h : Ro Tryz.prog 56 row) : ∃ t : aJ, row = aL t ∧ t.frames.length ≤ 9223372036854775807 ∧ ∀ f ∈ t.frames, Gwf f := by
 obtain ⟨rows, rfl, h1, h2⟩ := dJ h Tryz.underlying56
 match rows, h1 with
 | [v, a, b, c], _ =>
  obtain ⟨x4, rfl, m4, q4⟩ := gQ bM Gwf (h2 0 _ v rfl rfl) Tryz.underlying46 Kv fun r hr => Ej hr
  obtain ⟨x1, rfl, _⟩ := cI (h2 1 _ a rfl rfl) Tryz.underlying3
  obtain ⟨x2, rfl, _⟩ := cI (h2 2 _ b rfl rfl) Tryz.underlying3
  obtain ⟨x3, rfl, _⟩ := pZ (h2 3 _ c rfl rfl)
  exact ⟨⟨x4, x1, x2, x3⟩, rfl, m4, q4⟩
theorem aFg {row : List RV} (h : Ro Tryz.prog 127 row) : ∃ e : EndT, row = endR e ∧ True := by
 obtain ⟨rows, rfl, h1, h2⟩ := dJ h Tryz.underlying127
 match rows, h1 with
 | [a, b], _ =>
  obtain ⟨x1, rfl, _⟩ := cI (h2 0 _ a rfl rfl) Tryz.underlying3
  obtain ⟨x2, rfl, _⟩ := pZ (h2 1 _ b rfl rfl)
  exact ⟨⟨x1, x2⟩, rfl, trivial⟩
theorem Pq {row : List RV} (h : Ro Tryz.prog 32 row) : ∃ s : aC, row = bR s ∧ Swf s := by
 obtain ⟨rows, rfl, h1, h2⟩ := dJ h Tryz.underlying32
 match rows, h1 with
 | [a, b, c, d, e, u, v, w], _ =>
  obtain ⟨x1, rfl, m1, q1⟩ := gQ bA Cwf (h2 0 _ a rfl rfl) Tryz.underlying27 aDt fun r hr => Zl hr
  obtain ⟨x2, rfl, m2, q2⟩ := gQ valR Sh.WfS (h2 1 _ b rfl rfl) Tryz.underlying28 Yc fun r hr => Ng hr
  obtain ⟨x3, rfl, m3, _⟩ := gQ strR (fun _ => True) (h2 2 _ c rfl rfl) Tryz.underlying24 aCd fun r hr => by
   obtain ⟨s, hs, _⟩ := Un hr Tryz.underlying9
   exact ⟨s, hs, trivial⟩
  obtain ⟨x4, rfl, m4, q4⟩ := gQ aL (fun t => t.frames.length ≤ 9223372036854775807 ∧ ∀ f ∈ t.frames, Gwf f) (h2 3 _ d rfl rfl) Tryz.underlying29 Rx fun r hr => Nm hr
  obtain ⟨x5, rfl, m5, _⟩ := gQ endR (fun _ => True) (h2 4 _ e rfl rfl) Tryz.underlying30 aJz fun r hr => aFg hr
  obtain ⟨x6, rfl, m6, _⟩ := gQ valR (fun v => WI v.2) (h2 5 _ u rfl rfl) Tryz.underlying23 Kg fun r hr => pZ hr
  obtain ⟨x7, rfl, _⟩ := cI (h2 6 _ v rfl rfl) Tryz.underlying3
  obtain ⟨x8, rfl, _⟩ := cI (h2 7 _ w rfl rfl) Tryz.underlying3
  exact ⟨⟨x1, x2, x3, x4, x5, x6, x7, x8⟩, rfl, ⟨m1, m2, m3, m4, m5, m6⟩, q2, q1, q4⟩
end Go.Proofs.YtbhnmolmkembdaaGreatDoor
namespace Go.Proofs.YtbhnmolmkembdaaGreatDoor
set_option linter.unusedVariables false
set_option linter.unusedSimpArgs false
set_option maxHeartbeats 10000000
open Go
set_option maxRecDepth 10000
inductive NilD : RV → RV → Prop
 | same (x : RV) : NilD x x
 | nil (sz : Nat) : NilD (.v (.slice none 0 0)) (.rs sz [])
 | rs (sz : Nat) (rows rows' : List (List RV)) (hl : rows'.length = rows.length) (hr : ∀ (i : Nat) (row row' : List RV), rows[i]? = some row → rows'[i]? = some row' → row'.length = row.length)
   (h : ∀ (i j : Nat) (row row' : List RV) (x y : RV), rows[i]? = some row → rows'[i]? = some row' → row[j]? = some x → row'[j]? = some y → NilD x y) : NilD (.rs sz rows) (.rs sz rows')
theorem RR.nilD {w : World} {N : Nat → Prop} {x y : RV} (h : NilD x y) : ∀ {v : Value}, RR w N x v → RR w N y v := by
 induction h with
 | same x => exact fun h => h
 | nil sz => intro v h; cases h; exact .nil sz
 | rs sz rows rows' hl hr _ ih =>
  intro v hv
  cases hv with
  | nil =>
   have : rows' = [] := List.length_eq_zero_iff.1 hl
   subst this; exact .nil sz
  | rs _ _ a cap c hb hcap hw hc hrr =>
   have hget : ∀ (i : Nat) (row' : List RV), rows'[i]? = some row' → ∃ row, rows[i]? = some row := fun i row' hi => by
    have := (List.getElem?_eq_some_iff.1 hi).1
    exact ⟨_, List.getElem?_eq_getElem (by omega)⟩
   rw [← hl]
   refine .rs sz rows' a cap c (fun hne => hb fun h0 => hne (by subst h0; exact List.length_eq_zero_iff.1 hl)) (by omega) (fun row' hrow' => ?_) (fun i j hi hj => hc i j (by omega) hj) (fun i j row' y hi hj => ?_)
   ·obtain ⟨i, hi⟩ := List.mem_iff_getElem?.1 hrow'
    obtain ⟨row, h1⟩ := hget i row' hi
    rw [hr i row row' h1 hi]; exact hw row (List.mem_of_getElem? h1)
   ·obtain ⟨row, h1⟩ := hget i row' hi
    have h2 := hr i row row' h1 hi
    have hlt := (List.getElem?_eq_some_iff.1 hj).1
    have hx : row[j]? = some (row[j]'(by omega)) := List.getElem?_eq_getElem (by omega)
    exact ih i j row row' _ y h1 hi hx hj (hrr i j row _ h1 hx)
theorem AR.nilD {cur : Nat → Nat} {g : Gh} {w : World} {N : Nat → Prop} {xs ys : List RV} {v : Value} (hl : ys.length = xs.length) (h : ∀ (j : Nat) (x y : RV), xs[j]? = some x → ys[j]? = some y → NilD x y) (hv : AR cur g w N (.agg (xs.map .r)) v) : AR cur g w N (.agg (ys.map .r)) v := by
 cases hv with
 | agg _ us hs hu =>
  refine .agg _ us (by simp at hs ⊢; omega) fun j y u hy hju => ?_
  rw [List.getElem?_map] at hy
  cases hyj : ys[j]? with
  | none => simp [hyj] at hy
  | some z =>
   simp [hyj] at hy; subst hy
   have hlt := (List.getElem?_eq_some_iff.1 hyj).1
   have hx : xs[j]? = some (xs[j]'(by omega)) := List.getElem?_eq_getElem (by omega)
   have := hu j (.r (xs[j]'(by omega))) u (by rw [List.getElem?_map, hx]; rfl) hju
   cases this with | r this => exact .r (RR.nilD (h j _ z hx hyj) this)
theorem Sy {C : Ctx} {f : Nat} {args : List AV} {rs0 : List (Nat × Nat × Res)} {r r' : AV} (hf : FC C f args rs0 r []) (h : ∀ cur g w N v, AR cur g w N r v → AR cur g w N r' v) : FC C f args rs0 r' [] := by
 refine ⟨fun e g w vs hok hs hvs => (hf.run e g w vs hok hs hvs).mono ?_⟩
 rintro x w' ⟨v, g', rfl, hs', hv, hk⟩
 exact ⟨v, g', rfl, hs', h _ _ _ _ _ hv, hk⟩
theorem aJ8 (n : Int) : FC Cx 89 [Iv n] [] (VV 2 n) [] := by
 refine aE [] Tryz.func89 Tryz.ntmps89 Tryz.results89 ?_
 (any_goals refine go lv89 0 ?_)
 all_goals (try simp only [go_sem])
def Cc (args : List AV) (K : AV → Prop) : Prop := match args with
 | [.r (.v (.int .i64 n))] => K (VV 2 n)
 | _ => False
noncomputable abbrev Ic : Ct Cx := .pure 89 Cc fun args K h => by
 unfold Cc at h; split at h; exact ⟨_, aB (aJ8 _) en89 rfl rfl, h⟩; exact h.elim
@[go_sem] theorem aIs : type_of% @Cc.eq_def := @Cc.eq_def
def lR (l : List InsT) : aI := ⟨[⟨0, 3, false, [], l⟩], [(2, 1)], bP⟩
theorem Rf (l : List InsT) : FC Cx 49 [mI l] [] (.agg [.r (.rs 5 [[.v (.int .i64 0), .v (.int .i64 3), .v (.bool false), .v (.slice none 0 0), .rs 5 (l.map insR)]]), .r (.rs 2 [[.v (.int .i64 2), .v (.int .i64 1)]]), bN bP]) [] := by
 refine mR [Ic, nP] Tryz.func49 rfl Tryz.ntmps49 (by simp) Tryz.results49 rfl ?_
 refine rnst ?_
 (any_goals refine go lv49 0 ?_)
 all_goals (try simp only [go_sem])
theorem Xq (l : List InsT) : FC Cx 49 [mI l] [] (cV (lR l)) [] := by
 refine Sy (Rf l) fun cur g w N v hv => ?_
 refine AR.nilD (xs := [.rs 5 [[.v (.int .i64 0), .v (.int .i64 3), .v (.bool false), .v (.slice none 0 0), .rs 5 (l.map insR)]], .rs 2 [[.v (.int .i64 2), .v (.int .i64 1)]], .rs 1 (bP.map strR)]) (ys := jG (lR l)) rfl (fun j x y hx hy => ?_) hv
 match j with
 | 0 =>
  simp at hx hy; subst hx; subst hy
  refine .rs 5 _ _ rfl (fun i row row' h1 h2 => ?_) fun i j row row' x y h1 h2 h3 h4 => ?_
  ·match i with
   | 0 => simp [lR] at h1 h2; subst h1; subst h2; rfl
   | i + 1 => simp at h1
  ·match i with
   | 0 =>
    simp [lR] at h1 h2; subst h1; subst h2
    match j with
    | 0 => simp at h3 h4; subst h3; subst h4; exact .same _
    | 1 => simp at h3 h4; subst h3; subst h4; exact .same _
    | 2 => simp at h3 h4; subst h3; subst h4; exact .same _
    | 3 => simp at h3 h4; subst h3; subst h4; exact .nil 1
    | 4 => simp at h3 h4; subst h3; subst h4; exact .same _
    | j + 5 => simp at h3
   | i + 1 => simp at h1
 | 1 => simp at hx hy; subst hx; subst hy; exact .same _
 | 2 => simp at hx hy; subst hx; subst hy; exact .same _
 | j + 3 => simp at hx
@[go_sem] theorem aCn (k1 k2 k3 k4 k5 : IntKind) (o a b c l : Int) (xs : List (List RV)) : aR ([.v (.int k1 o), .v (.int k2 a), .v (.int k3 b), .v (.int k4 c), .v (.int k5 l)] :: xs) = ⟨o, a, b, c, l⟩ :: aR xs := rfl
@[go_sem] theorem aEa : aR [] = [] := rfl
theorem Ql (l : List InsT) (hl : l.length ≤ 100) : Pwf (lR l) := ⟨⟨by simp [lR], by simp [lR], by simp [lR, bP]⟩, fun f hf => by simp [lR] at hf; subst hf; simp; omega⟩
structure To (f : FnT) (W : WT) (t : Int) (l : List (Int × Int)) : Prop where
 lo : 0 ≤ t
 hi : t < f.code.length
 few : l.length ≤ 20
 seen : W.seen.getD t.toNat false = true
 out : W.out.getD t.toNat [] = l
theorem iK {α : Type} {l : List α} {i : Nat} {x d : α} (h : i < l.length) : (l.set i x).getD i d = x := by
 simp [List.getD, List.getElem?_set, h]
theorem iN {α : Type} {l : List α} {i j : Nat} {x d : α} (h : i ≠ j) : (l.set i x).getD j d = l.getD j d := by
 simp [List.getD, List.getElem?_set, h]
theorem nS {f : FnT} {n : Int} {l : List (Int × Int)} {W : WT} (h : W.bad = true) : (bF f n l W).bad = true := by
 unfold bF; split
 ·rfl
 ·split
  ·exact h
  ·split
   ·exact h
   ·rfl
theorem sQ {f : FnT} {n : Int} {l : List (Int × Int)} {W : WT} (hi : Wiv f W) (hn : 0 ≤ n) (h : (bF f n l W).bad = false) : To f (bF f n l W) n l := by
 unfold bF at h ⊢
 split at h
 ·cases h
 ·rename_i hb
  rw [if_neg hb]
  have h1 := hi.seen
  have h2 := hi.out
  split at h
  ·rename_i hs
   rw [if_pos hs]
   exact ⟨hn, by omega, by omega, iK (by omega), iK (by omega)⟩
  ·rename_i hs
   rw [if_neg hs]
   split at h
   ·rename_i ho
    rw [if_pos ho]
    exact ⟨hn, by omega, by omega, by simpa using hs, ho⟩
   ·cases h
theorem bY {f : FnT} {n t : Int} {l l' : List (Int × Int)} {W : WT} (h : To f W t l') : To f (bF f n l W) t l' := by
 obtain ⟨h1, h2, h3, h4, h5⟩ := h
 unfold bF
 split
 ·exact ⟨h1, h2, h3, h4, h5⟩
 ·split
  ·rename_i hs
   have hne : n.toNat ≠ t.toNat := fun e => by rw [e, h4] at hs; cases hs
   exact ⟨h1, h2, h3, by rw [iN hne]; exact h4, by rw [iN hne]; exact h5⟩
  ·split
   ·exact ⟨h1, h2, h3, h4, h5⟩
   ·exact ⟨h1, h2, h3, h4, h5⟩
theorem uO {f : FnT} {n : Int} {l : List (Int × Int)} {W : WT} (hn : 0 ≤ n) {k : Nat} (h : (bF f n l W).seen.getD k false = true) : W.seen.getD k false = true ∨ (k : Int) ∈ (bF f n l W).todo := by
 unfold bF at h ⊢
 split at h
 ·exact .inl h
 ·rename_i hb
  rw [if_neg hb]
  split at h
  ·rename_i hs
   rw [if_pos hs]
   by_cases hk : n.toNat = k
   ·subst hk
    right; simp; right; omega
   ·left; dsimp only at h; rwa [iN hk] at h
  ·rename_i hs
   rw [if_neg hs]
   left
   split at h <;> exact h
theorem sJ {f : FnT} {n : Int} {l : List (Int × Int)} {W : WT} {t : Int} (h : t ∈ W.todo) : t ∈ (bF f n l W).todo := by
 unfold bF; split
 ·exact h
 ·split
  ·exact List.mem_append_left _ h
  ·split <;> exact h
def closed (f : FnT) (W : WT) (n : Int) (l : List (Int × Int)) : Prop :=
 let i := f.code.getD n.toNat ins0
 if i.op = 28 ∨ i.op = 29 then True else if i.op = 13 ∨ i.op = 14 then To f W i.a l else
 if i.op = 15 then To f W i.b l ∧ To f W (n + 1) l else if i.op = 30 then To f W i.b l ∧ To f W (n + 1) (l ++ [(i.a, i.b)]) else
 if i.op = 31 then l ≠ [] ∧ To f W (n + 1) (l.take (l.length - 1)) else To f W (n + 1) l
structure Fr (f : FnT) (n : Int) (W : WT) : Prop where
 bad : W.bad = true → (bT f n W).bad = true
 keeps : ∀ t l, To f W t l → To f (bT f n W) t l
 seen : ∀ k : Nat, (bT f n W).seen.getD k false = true → W.seen.getD k false = true ∨ (k : Int) ∈ (bT f n W).todo
 sub : ∀ t, t ∈ W.todo → t ∈ (bT f n W).todo
 closed : (bT f n W).bad = false → Go.Proofs.YtbhnmolmkembdaaGreatDoor.closed f (bT f n W) n (W.out.getD n.toNat [])
theorem Ya {f : FnT} {n : Int} {W : WT} (h : Wiv f W) (hc : Cok f) (hn : 0 ≤ n) : Fr f n W := by
 have hi : f.code.getD n.toNat ins0 = ins0 ∨ f.code.getD n.toNat ins0 ∈ f.code := by
  cases hg : f.code[n.toNat]? with
  | none => left; simp [List.getD, hg]
  | some i => right; simp only [List.getD, hg, Option.getD_some]; exact List.mem_of_getElem? hg
 have hA : (f.code.getD n.toNat ins0).op = 13 ∨ (f.code.getD n.toNat ins0).op = 14 → 0 ≤ (f.code.getD n.toNat ins0).a := fun ho => hi.elim (fun h => by rw [h] at ho; rcases ho with ho | ho <;> cases ho) (fun h => hc.a _ h ho)
 have hB : (f.code.getD n.toNat ins0).op = 15 ∨ (f.code.getD n.toNat ins0).op = 30 → 0 ≤ (f.code.getD n.toNat ins0).b := fun ho => hi.elim (fun h => by rw [h] at ho; rcases ho with ho | ho <;> cases ho) (fun h => hc.b _ h ho)
 have one : ∀ (t : Int) (l : List (Int × Int)), 0 ≤ t → bT f n W = bF f t l W → (closed f (bF f t l W) n (W.out.getD n.toNat []) ↔ To f (bF f t l W) t l) → Fr f n W := fun t l ht he hcl => by
  refine ⟨fun hb => by rw [he]; exact nS hb, fun t' l' hT => by rw [he]; exact bY hT, fun k hk => by rw [he] at hk ⊢; exact uO ht hk, fun t' ht' => by rw [he]; exact sJ ht', fun hb => ?_⟩
  rw [he] at hb ⊢
  exact hcl.2 (sQ h ht hb)
 have two : ∀ (t t2 : Int) (l l2 : List (Int × Int)), 0 ≤ t → 0 ≤ t2 → bT f n W = bF f t2 l2 (bF f t l W) → (closed f (bF f t2 l2 (bF f t l W)) n (W.out.getD n.toNat []) ↔ To f (bF f t2 l2 (bF f t l W)) t l ∧ To f (bF f t2 l2 (bF f t l W)) t2 l2) → Fr f n W := fun t t2 l l2 ht ht2 he hcl => by
  have h2 := (eU (n := t) (l := l) h ht).1
  refine ⟨fun hb => by rw [he]; exact nS (nS hb), fun t' l' hT => by rw [he]; exact bY (bY hT), fun k hk => ?_, fun t' ht' => by rw [he]; exact sJ (sJ ht'), fun hb => ?_⟩
  ·rw [he] at hk ⊢
   rcases uO ht2 hk with hk | hk
   ·rcases uO ht hk with hk | hk
    ·exact .inl hk
    ·exact .inr (sJ hk)
   ·exact .inr hk
  ·rw [he] at hb ⊢
   have hb1 : (bF f t l W).bad = false := by
    cases hx : (bF f t l W).bad with
    | false => rfl
    | true => rw [nS hx] at hb; cases hb
   exact hcl.2 ⟨bY (sQ h ht hb1), sQ h2 ht2 hb⟩
 by_cases h1 : (f.code.getD n.toNat ins0).op = 28 ∨ (f.code.getD n.toNat ins0).op = 29
 ·have he : bT f n W = W := by unfold bT; dsimp only; rw [if_pos h1]
  refine ⟨fun hb => by rw [he]; exact hb, fun t l hT => by rw [he]; exact hT, fun k hk => by rw [he] at hk; exact .inl hk, fun t ht => by rw [he]; exact ht, fun _ => ?_⟩
  unfold closed; dsimp only; rw [if_pos h1]; trivial
 by_cases h2 : (f.code.getD n.toNat ins0).op = 13 ∨ (f.code.getD n.toNat ins0).op = 14
 ·exact one (f.code.getD n.toNat ins0).a (W.out.getD n.toNat []) (hA h2) (by unfold bT; dsimp only; rw [if_neg h1, if_pos h2]) (by unfold closed; dsimp only; rw [if_neg h1, if_pos h2])
 by_cases h3 : (f.code.getD n.toNat ins0).op = 15
 ·exact two (f.code.getD n.toNat ins0).b (n + 1) (W.out.getD n.toNat []) (W.out.getD n.toNat []) (hB (.inl h3)) (by omega) (by unfold bT; dsimp only; rw [if_neg h1, if_neg h2, if_pos h3]) (by unfold closed; dsimp only; rw [if_neg h1, if_neg h2, if_pos h3])
 by_cases h4 : (f.code.getD n.toNat ins0).op = 30
 ·exact two (f.code.getD n.toNat ins0).b (n + 1) (W.out.getD n.toNat []) (W.out.getD n.toNat [] ++ [((f.code.getD n.toNat ins0).a, (f.code.getD n.toNat ins0).b)]) (hB (.inr h4)) (by omega) (by unfold bT; dsimp only; rw [if_neg h1, if_neg h2, if_neg h3, if_pos h4]) (by unfold closed; dsimp only; rw [if_neg h1, if_neg h2, if_neg h3, if_pos h4])
 by_cases h5 : (f.code.getD n.toNat ins0).op = 31
 ·by_cases hl : W.out.getD n.toNat [] = []
  ·have he : bT f n W = { W with bad := true } := by unfold bT; dsimp only; rw [if_neg h1, if_neg h2, if_neg h3, if_neg h4, if_pos h5, if_pos hl]
   exact ⟨fun _ => by rw [he], fun t l hT => by rw [he]; exact ⟨hT.lo, hT.hi, hT.few, hT.seen, hT.out⟩, fun k hk => by rw [he] at hk; exact .inl hk, fun t ht => by rw [he]; exact ht, fun hb => by rw [he] at hb; cases hb⟩
  ·exact one (n + 1) ((W.out.getD n.toNat []).take ((W.out.getD n.toNat []).length - 1)) (by omega) (by unfold bT; dsimp only; rw [if_neg h1, if_neg h2, if_neg h3, if_neg h4, if_pos h5, if_neg hl]) (by unfold closed; dsimp only; rw [if_neg h1, if_neg h2, if_neg h3, if_neg h4, if_pos h5]; exact ⟨fun x => x.2, fun x => ⟨hl, x⟩⟩)
 ·exact one (n + 1) (W.out.getD n.toNat []) (by omega) (by unfold bT; dsimp only; rw [if_neg h1, if_neg h2, if_neg h3, if_neg h4, if_neg h5]) (by unfold closed; dsimp only; rw [if_neg h1, if_neg h2, if_neg h3, if_neg h4, if_neg h5])
theorem Kt {f : FnT} {W : WT} (h : Wiv f W) {k : Nat} (hk : W.seen.getD k false = true) : To f W k (W.out.getD k []) := by
 have hlt : k < W.seen.length := by
  rcases Nat.lt_or_ge k W.seen.length with h | h
  ·exact h
  ·simp [List.getD, List.getElem?_eq_none h] at hk
 have h1 := h.seen
 have h2 := h.out
 refine ⟨by omega, by omega, ?_, hk, rfl⟩
 have hx : W.out[k]? = some (W.out[k]'(by omega)) := List.getElem?_eq_getElem (by omega)
 simp only [List.getD, hx, Option.getD_some]
 exact h.outs _ (List.mem_of_getElem? hx)
section
variable {f0 : FnT} {rest : List FnT} {cs : List (Int × Int)} {ts : List ByteArray} {k : Nat}
end
theorem Je (l : List aZ) (f : Nat) (caps : List RV) (dom : AV → Prop) (pv : AV → Bool) (h : ∀ y, dom y → aO Cx f (y :: caps.map AV.r) (Bv (pv y))) (hd : ∀ x ∈ l, dom (cW x)) (hl : l.length ≤ 9223372036854775807) :
  FC Cx 166 [bW l, .r (.fn f caps)] [] (Iv (fidx (fun x => pv (cW x)) l)) [] := by
 have hlen : (l.map bA).length = l.length := List.length_map ..
 refine aE [ctF f caps dom pv h] Tryz.func166 Tryz.ntmps166 Tryz.results166 ?_
 (any_goals refine go Jp 0 ?_)
 refine dC [0, 1, 7, 8] (fun i => i ≤ l.length ∧ ∀ j x, j < i → l[j]? = some x → pv (cW x) = false) (fun (i : Nat) => ⟨19, [(0, bW l), (1, .r (.fn f caps)), (7, Iv l.length), (8, Iv i)], []⟩) (fun i => l.length - i) 0 rfl (by rw [← hlen]; rfl) rfl ⟨Nat.zero_le _, fun j x hj => by omega⟩ ?_
 rintro i ⟨hi, hno⟩
 by_cases hlt : i < l.length
 ·obtain ⟨x, hx⟩ : ∃ x, l[i]? = some x := ⟨l[i], List.getElem?_eq_getElem hlt⟩
  have hg := aG bA hx ([] : List RV)
  have hdx := hd x (List.mem_of_getElem? hx)
  have hw : IntKind.i64.wrap ((i : Int) + 1) = ((i + 1 : Nat) : Int) := by rw [aS] <;> omega
  have h1 : decide ((i : Int) < (l.length : Int)) = true := by rw [decide_eq_true_eq]; omega
  have h2 : Int.toNat (i : Int) = i := by omega
  cases hp : pv (cW x) with
  | true =>
   (any_goals refine go Jp 0 ?_)
   all_goals (try simp only [go_sem])
   rw [gA hx hp fun j y hj hy => hno j y hj hy]
  | false =>
   (any_goals refine go Jp 0 ?_)
   refine ⟨i + 1, ⟨by omega, fun j y hj hy => ?_⟩, by omega, dQ [0, 1, 7, 8] rfl rfl rfl⟩
   rcases Nat.lt_succ_iff_lt_or_eq.1 hj with h3 | h3
   ·exact hno j y h3 hy
   ·subst h3; rw [hx] at hy; cases hy; exact hp
 ·have h1 : decide ((i : Int) < (l.length : Int)) = false := by rw [decide_eq_false_iff_not]; omega
  (any_goals refine go Jp 0 ?_)
  all_goals (try simp only [go_sem])
  rw [eN fun j y hy => hno j y (by have := (List.getElem?_eq_some_iff.1 hy).1; omega) hy]
theorem uJ (l : List aZ) (f : Nat) (caps : List RV) (dom : AV → Prop) (pv : AV → Bool) (h : ∀ y, dom y → aO Cx f (y :: caps.map AV.r) (Bv (pv y))) (hd : ∀ x ∈ l, dom (cW x)) (hl : l.length ≤ 9223372036854775807) :
  FC Cx 113 [bW l, .r (.fn f caps)] [] (Bv (l.any fun x => pv (cW x))) [] := by
 have hA : ∀ y, y = [bW l, .r (.fn f caps)] → aO Cx 166 y (Iv (fidx (fun x => pv (cW x)) l)) := fun y hy => by
  subst hy; exact aB (Je l f caps dom pv h hd hl) aJu rfl rfl
 refine aE [ctE 166 [bW l, .r (.fn f caps)] (Iv (fidx (fun x => pv (cW x)) l)) hA] Tryz.func113 Tryz.ntmps113 Tryz.results113 ?_
 (any_goals refine go aNo 0 ?_)
 all_goals (try simp only [go_sem])
 all_goals (try rw [fK])
def Ls : AV → aZ
 | .agg [.r (.v (.int _ a)), .r (.v (.int _ b)), .r (.rs _ vs), .r (.rs _ fs)] => ⟨a, b, valsOf vs, framesOf fs⟩
 | _ => cS
theorem pY (c : aZ) : Ls (cW c) = c := by
 show (⟨c.kind, c.num, valsOf (c.vals.map valR), framesOf (c.frames.map bM)⟩ : aZ) = c
 rw [nC, jM]
def bigC (c : aZ) : Bool := decide ((100 : Int) < (c.vals.length : Int)) && (!decide (c.kind = 7) || decide ((600 : Int) < (c.vals.length : Int)))
def lT (s : aC) : Bool := decide ((300 : Int) < (s.cells.length : Int)) || decide ((300 : Int) < (s.texts.length : Int)) || decide ((200 : Int) < (s.said.length : Int)) || decide ((100 : Int) < (s.ends.length : Int)) || s.texts.any bigS || s.cells.any bigC
theorem Oj (t : ByteArray) : FC Cx 162 [Sv t] [] (Bv (bigS t)) [] := by
 refine aE [] Tryz.func162 Tryz.ntmps162 Tryz.results162 ?_
 (any_goals refine go aNh 0 ?_)
 all_goals (try simp only [go_sem])
 all_goals rfl
theorem Mw (c : aZ) : FC Cx 163 [cW c] [] (Bv (bigC c)) [] := by
 have l1 : (c.vals.map valR).length = c.vals.length := List.length_map ..
 refine aE [] Tryz.func163 Tryz.ntmps163 Tryz.results163 ?_
 refine goR ?_
 refine fzB 1 ?_
 (any_goals refine go aM5 0 ?_)
 all_goals (try simp only [go_sem])
 all_goals (unfold bigC; simp_all)
theorem Pe (s : aC) (hl : Slen s) : FC Cx 108 [gK s] [] (Bv (lT s)) [] := by
 have l1 : (s.cells.map bA).length = s.cells.length := List.length_map ..
 have l2 : (s.texts.map strR).length = s.texts.length := List.length_map ..
 have l3 : (s.said.map valR).length = s.said.length := List.length_map ..
 have l4 : (s.ends.map endR).length = s.ends.length := List.length_map ..
 have hA : ∀ y, y = [bN s.texts, .r (.fn 162 [])] → aO Cx 99 y (Bv (s.texts.any bigS)) := fun y hy => by
  subst hy
  have h := Gr s.texts 162 [] (fun y => ∃ t, y = strA t) (fun y => match y with | .r (.v (.string t)) => bigS t | _ => false) (by
   rintro _ ⟨t, rfl⟩
   exact aB (Oj t) aPj rfl rfl) (fun x _ => ⟨x, rfl⟩) hl.texts
  exact aB h en99 rfl rfl
 have hB : ∀ y, y = [bW s.cells, .r (.fn 163 [])] → aO Cx 113 y (Bv (s.cells.any bigC)) := fun y hy => by
  subst hy
  have h := uJ s.cells 163 [] (fun y => ∃ c, y = cW c) (fun y => bigC (Ls y)) (by
   rintro _ ⟨c, rfl⟩
   rw [pY]
   exact aB (Mw c) aM9 rfl rfl) (fun x _ => ⟨x, rfl⟩) hl.cells
  simp only [pY] at h
  exact aB h Tm rfl rfl
 unfold lT
 generalize hb5 : s.texts.any bigS = b5 at *
 generalize hb6 : s.cells.any bigC = b6 at *
 refine aE [ctE 99 [bN s.texts, .r (.fn 162 [])] (Bv b5) hA, ctE 113 [bW s.cells, .r (.fn 163 [])] (Bv b6) hB] Tryz.func108 Tryz.ntmps108 Tryz.results108 ?_
 (any_goals refine go aLb 0 ?_)
 all_goals (try simp only [go_sem])
 all_goals (clear hA hB; simp_all; done)
theorem Mv (ca sh tx th en sd : List (List RV)) (aq sq : Int) (h : (ca = (cellsOf ca).map bA ∧ sh = (valsOf sh).map valR ∧ tx = (strsOf tx).map strR ∧ th = (threadsOf th).map aL ∧ en = (aH en).map endR ∧ sd = (valsOf sd).map valR) ∧ Slen ⟨cellsOf ca, valsOf sh, strsOf tx, threadsOf th, aH en, valsOf sd, aq, sq⟩) : FC Cx 108 [.r (.rp [.rs 4 ca, .rs 2 sh, .rs 1 tx, .rs 5 th, .rs 3 en, .rs 2 sd, .v (.int .i64 aq), .v (.int .i64 sq)])] [] (Bv (lT ⟨cellsOf ca, valsOf sh, strsOf tx, threadsOf th, aH en, valsOf sd, aq, sq⟩)) [] := by
 have := Pe ⟨cellsOf ca, valsOf sh, strsOf tx, threadsOf th, aH en, valsOf sd, aq, sq⟩ h.2
 rwa [jR _ _ _ _ _ _ _ _ h.1] at this
def mO (args : List AV) (K : AV → Prop) : Prop := match args with
 | [.r (.rp [.rs 4 ca, .rs 2 sh, .rs 1 tx, .rs 5 th, .rs 3 en, .rs 2 sd, .v (.int .i64 aq), .v (.int .i64 sq)])] => ((ca = (cellsOf ca).map bA ∧ sh = (valsOf sh).map valR ∧ tx = (strsOf tx).map strR ∧ th = (threadsOf th).map aL ∧ en = (aH en).map endR ∧ sd = (valsOf sd).map valR) ∧ Slen ⟨cellsOf ca, valsOf sh, strsOf tx, threadsOf th, aH en, valsOf sd, aq, sq⟩) ∧ K (Bv (lT ⟨cellsOf ca, valsOf sh, strsOf tx, threadsOf th, aH en, valsOf sd, aq, sq⟩))
 | _ => False
noncomputable abbrev qY : Ct Cx := .pure 108 mO fun args K h => by
 unfold mO at h; split at h; exact ⟨_, aB (Mv _ _ _ _ _ _ _ _ h.1) aMi rfl rfl, h.2⟩; exact h.elim
@[go_sem] theorem Vb : type_of% @mO.eq_def := @mO.eq_def
def kI (l : List ByteArray) : Bool := decide (19 ≤ l.length) && decide (l.take 19 = bP) && decide l.Nodup
theorem Al {l : List ByteArray} {k : Nat} {t : ByteArray} (h : l[k]? = some t) (hb : t ∈ l.take k ∨ k < 19 ∧ bP[k]? ≠ some t) : kI l = false := by
 unfold kI
 rcases hb with hb | ⟨h1, h2⟩
 ·rw [decide_eq_false (As h hb)]; simp
 ·have : ¬ l.take 19 = bP := fun he => h2 (by rw [← he, List.getElem?_take, if_pos h1]; exact h)
  rw [decide_eq_false this]; simp
theorem Pl {l : List ByteArray} (h : ∀ j t, l[j]? = some t → t ∉ l.take j ∧ (j < 19 → bP[j]? = some t)) : kI l = decide (19 ≤ l.length) := by
 unfold kI
 have hn : l.Nodup := by
  have := rF l.length (Nat.le_refl _) fun j t _ ht => (h j t ht).1
  rwa [List.take_length] at this
 by_cases h19 : 19 ≤ l.length
 ·have : l.take 19 = bP := List.ext_getElem? fun j => by
   rw [List.getElem?_take]
   by_cases hj : j < 19
   ·rw [if_pos hj]
    have hx : l[j]? = some (l[j]'(by omega)) := List.getElem?_eq_getElem _
    rw [hx, (h j _ hx).2 hj]
   ·rw [if_neg hj, List.getElem?_eq_none (by rw [show bP.length = 19 from rfl]; omega)]
  rw [decide_eq_true this, decide_eq_true hn, decide_eq_true h19]; rfl
 ·rw [decide_eq_false h19]; rfl
theorem Ul (l : List ByteArray) (hl : l.length ≤ 300) (h2 : ∀ t ∈ l, t.size ≤ 200) : FC Cx 110 [bN l] [] (Bv (kI l)) [] := by
 have l1 : (l.map strR).length = l.length := List.length_map ..
 refine aE [nP] Tryz.func110 Tryz.ntmps110 Tryz.results110 ?_
 (any_goals refine go zB 0 ?_)
 refine dB (fun x : Nat × Nat => x.1 ≤ l.length ∧ ∀ j t, j < x.1 → l[j]? = some t → t ∉ l.take j ∧ (j < 19 → bP[j]? = some t))
  (fun x => ⟨42, [(0, bN l), (3, bN bP), (4, .os 8 1), (9, bN l), (10, Iv l.length), (11, Iv x.1)], [(8, 1, .mp (eL (l.take x.1)) x.2)]⟩) (fun x => l.length - x.1) (0, 0) ⟨Nat.zero_le _, fun j t hj => by omega⟩ ?_ rfl ?_ ⟨rfl, .inl ⟨rfl, by simp [Ac]⟩, trivial⟩
 rotate_left
 ·exact ⟨rfl, rfl, rfl, rfl, by simp [aT], rfl, trivial⟩
 rintro ⟨k, n⟩ ⟨hk, hno⟩
 dsimp only at hk hno ⊢
 by_cases hlt : k < l.length
 case neg =>
  obtain rfl : k = l.length := by omega
  have e1 : decide ((l.length : Int) < (l.length : Int)) = false := by rw [decide_eq_false_iff_not]; omega
  have hF := Pl (l := l) fun j t hj => hno j t (List.getElem?_eq_some_iff.1 hj).1 hj
  (any_goals refine go zB 0 ?_)
  all_goals (try simp only [go_sem])
  rw [hF]
  refine congrArg (fun b => Bv b) ?_
  rw [decide_eq_decide]; omega
 have e1 : decide ((k : Int) < (l.length : Int)) = true := by rw [decide_eq_true_eq]; omega
 have t1 : Int.toNat (k : Int) = k := by omega
 have w1 : IntKind.i64.wrap ((k : Int) + 1) = ((k + 1 : Nat) : Int) := by rw [aS] <;> omega
 obtain ⟨t, ht⟩ : ∃ v, l[k]? = some v := ⟨l[k], List.getElem?_eq_getElem hlt⟩
 have hg := aG strR ht ([] : List RV)
 have hM : nO Tryz.prog 154 (eL (l.take k)) (.string t) := Dm (fun q hq => h2 q (List.mem_of_mem_take hq)) (h2 t (List.mem_of_getElem? ht))
 by_cases hin : t ∈ l.take k
 ·have d6 := Aa hin
  have hF := Al ht (.inl hin)
  (any_goals refine go zB 0 ?_)
  all_goals (try simp only [go_sem, hF])
 have d6 := Fh hin
 have fin : (k < 19 → bP[k]? = some t) → ∃ y : Nat × Nat, (y.1 ≤ l.length ∧ ∀ j t, j < y.1 → l[j]? = some t → t ∉ l.take j ∧ (j < 19 → bP[j]? = some t)) ∧ l.length - y.1 < l.length - k ∧ y.1 = k + 1 ∧ Res.mp (updF (eL (l.take k)) (.string t) (.int .i64 1)) (updN (eL (l.take k)) (.string t) n) = Res.mp (eL (l.take y.1)) y.2 := fun hw => by
  have et : l.take (k + 1) = l.take k ++ [t] := by rw [List.take_add_one, ht]; rfl
  refine ⟨(k + 1, updN (eL (l.take k)) (.string t) n), ⟨by dsimp only; omega, fun j q hj hq => ?_⟩, by dsimp only; omega, rfl, ?_⟩
  ·rcases Nat.lt_succ_iff_lt_or_eq.1 hj with h3 | h3
   ·exact hno j q h3 hq
   ·subst h3
    rw [ht] at hq; cases hq; exact ⟨hin, hw⟩
  ·refine congrArg (fun f => Res.mp f _) ?_
   rw [Ap]
   dsimp only
   refine xH fun q => ?_
   rw [et]
   simp [or_comm]
 by_cases h19 : k < 19
 ·have e2 : decide ((k : Int) < 19) = true := by rw [decide_eq_true_eq]; omega
  obtain ⟨x, hx⟩ : ∃ x, bP[k]? = some x := ⟨bP[k]'(by rw [show bP.length = 19 from rfl]; omega), List.getElem?_eq_getElem _⟩
  have hgw := aG strR hx ([] : List RV)
  by_cases htx : t = x
  ·have e3 : decide (t = x) = true := by simpa using htx
   replace fin := fin fun _ => by rw [hx, htx]
   clear htx
   (any_goals refine go zB 0 ?_)
   obtain ⟨y, y1, y2, y3, y4⟩ := fin
   refine ⟨y, y1, y2, ⟨rfl, mF ⟨rfl, rfl, rfl, rfl, rfl, by rw [y3]; rfl, trivial⟩, lC ⟨rfl, .inl ⟨rfl, y4⟩, trivial⟩⟩⟩
  ·have e3 : decide (t = x) = false := by simpa using htx
   have hF := Al ht (.inr ⟨h19, by rw [hx]; intro h; exact htx (by cases h; rfl)⟩)
   (any_goals refine go zB 0 ?_)
   all_goals (try simp only [go_sem, hF])
 ·have e2 : decide ((k : Int) < 19) = false := by rw [decide_eq_false_iff_not]; omega
  (any_goals refine go zB 0 ?_)
  obtain ⟨y, y1, y2, y3, y4⟩ := fin fun h => absurd h h19
  refine ⟨y, y1, y2, ⟨rfl, mF ⟨rfl, rfl, rfl, rfl, rfl, by rw [y3]; rfl, trivial⟩, lC ⟨rfl, .inl ⟨rfl, y4⟩, trivial⟩⟩⟩
theorem Mt (xs : List (List RV)) (h : xs = (strsOf xs).map strR ∧ (strsOf xs).length ≤ 300 ∧ ∀ t ∈ strsOf xs, t.size ≤ 200) : FC Cx 110 [.r (.rs 1 xs)] [] (Bv (kI (strsOf xs))) [] := by
 have := Ul (strsOf xs) h.2.1 h.2.2
 rwa [mL h.1] at this
def mS (args : List AV) (K : AV → Prop) : Prop := match args with
 | [.r (.rs 1 xs)] => (xs = (strsOf xs).map strR ∧ (strsOf xs).length ≤ 300 ∧ ∀ t ∈ strsOf xs, t.size ≤ 200) ∧ K (Bv (kI (strsOf xs)))
 | _ => False
noncomputable abbrev Ho : Ct Cx := .pure 110 mS fun args K h => by
 unfold mS at h; split at h; exact ⟨_, aB (Mt _ h.1) aOh rfl rfl, h.2⟩; exact h.elim
@[go_sem] theorem Vr : type_of% @mS.eq_def := @mS.eq_def
theorem Ff (l : List (Int × Int)) (f : Nat) (caps : List RV) (dom : AV → Prop) (pv : AV → Bool) (h : ∀ y, dom y → aO Cx f (y :: caps.map AV.r) (Bv (pv y))) (hd : ∀ x ∈ l, dom (valA x)) (hl : l.length ≤ 9223372036854775807) :
  FC Cx 165 [aN l, .r (.fn f caps)] [] (Iv (fidx (fun x => pv (valA x)) l)) [] := by
 have hlen : (l.map valR).length = l.length := List.length_map ..
 refine aE [ctF f caps dom pv h] Tryz.func165 Tryz.ntmps165 Tryz.results165 ?_
 (any_goals refine go Jm 0 ?_)
 refine dC [0, 1, 7, 8] (fun i => i ≤ l.length ∧ ∀ j x, j < i → l[j]? = some x → pv (valA x) = false) (fun (i : Nat) => ⟨19, [(0, aN l), (1, .r (.fn f caps)), (7, Iv l.length), (8, Iv i)], []⟩) (fun i => l.length - i) 0 rfl (by rw [← hlen]; rfl) rfl ⟨Nat.zero_le _, fun j x hj => by omega⟩ ?_
 rintro i ⟨hi, hno⟩
 by_cases hlt : i < l.length
 ·obtain ⟨x, hx⟩ : ∃ x, l[i]? = some x := ⟨l[i], List.getElem?_eq_getElem hlt⟩
  have hg := aG valR hx ([] : List RV)
  have hdx := hd x (List.mem_of_getElem? hx)
  have hw : IntKind.i64.wrap ((i : Int) + 1) = ((i + 1 : Nat) : Int) := by rw [aS] <;> omega
  have h1 : decide ((i : Int) < (l.length : Int)) = true := by rw [decide_eq_true_eq]; omega
  have h2 : Int.toNat (i : Int) = i := by omega
  cases hp : pv (valA x) with
  | true =>
   (any_goals refine go Jm 0 ?_)
   all_goals (try simp only [go_sem])
   rw [gA hx hp fun j y hj hy => hno j y hj hy]
  | false =>
   (any_goals refine go Jm 0 ?_)
   refine ⟨i + 1, ⟨by omega, fun j y hj hy => ?_⟩, by omega, dQ [0, 1, 7, 8] rfl rfl rfl⟩
   rcases Nat.lt_succ_iff_lt_or_eq.1 hj with h3 | h3
   ·exact hno j y h3 hy
   ·subst h3; rw [hx] at hy; cases hy; exact hp
 ·have h1 : decide ((i : Int) < (l.length : Int)) = false := by rw [decide_eq_false_iff_not]; omega
  (any_goals refine go Jm 0 ?_)
  all_goals (try simp only [go_sem])
  rw [eN fun j y hy => hno j y (by have := (List.getElem?_eq_some_iff.1 hy).1; omega) hy]
theorem Hy (l : List (Int × Int)) (f : Nat) (caps : List RV) (dom : AV → Prop) (pv : AV → Bool) (h : ∀ y, dom y → aO Cx f (y :: caps.map AV.r) (Bv (pv y))) (hd : ∀ x ∈ l, dom (valA x)) (hl : l.length ≤ 9223372036854775807) :
  FC Cx 111 [aN l, .r (.fn f caps)] [] (Bv (l.any fun x => pv (valA x))) [] := by
 have hA : ∀ y, y = [aN l, .r (.fn f caps)] → aO Cx 165 y (Iv (fidx (fun x => pv (valA x)) l)) := fun y hy => by
  subst hy; exact aB (Ff l f caps dom pv h hd hl) aOx rfl rfl
 refine aE [ctE 165 [aN l, .r (.fn f caps)] (Iv (fidx (fun x => pv (valA x)) l)) hA] Tryz.func111 Tryz.ntmps111 Tryz.results111 ?_
 (any_goals refine go aNu 0 ?_)
 all_goals (try simp only [go_sem])
 all_goals (try rw [fK])
theorem Mj (l : List EndT) (f : Nat) (caps : List RV) (dom : AV → Prop) (pv : AV → Bool) (h : ∀ y, dom y → aO Cx f (y :: caps.map AV.r) (Bv (pv y))) (hd : ∀ x ∈ l, dom (endA x)) (hl : l.length ≤ 9223372036854775807) :
  FC Cx 173 [cA l, .r (.fn f caps)] [] (Iv (fidx (fun x => pv (endA x)) l)) [] := by
 have hlen : (l.map endR).length = l.length := List.length_map ..
 refine aE [ctF f caps dom pv h] Tryz.func173 Tryz.ntmps173 Tryz.results173 ?_
 (any_goals refine go Jo 0 ?_)
 refine dC [0, 1, 7, 8] (fun i => i ≤ l.length ∧ ∀ j x, j < i → l[j]? = some x → pv (endA x) = false) (fun (i : Nat) => ⟨19, [(0, cA l), (1, .r (.fn f caps)), (7, Iv l.length), (8, Iv i)], []⟩) (fun i => l.length - i) 0 rfl (by rw [← hlen]; rfl) rfl ⟨Nat.zero_le _, fun j x hj => by omega⟩ ?_
 rintro i ⟨hi, hno⟩
 by_cases hlt : i < l.length
 ·obtain ⟨x, hx⟩ : ∃ x, l[i]? = some x := ⟨l[i], List.getElem?_eq_getElem hlt⟩
  have hg := aG endR hx ([] : List RV)
  have hdx := hd x (List.mem_of_getElem? hx)
  have hw : IntKind.i64.wrap ((i : Int) + 1) = ((i + 1 : Nat) : Int) := by rw [aS] <;> omega
  have h1 : decide ((i : Int) < (l.length : Int)) = true := by rw [decide_eq_true_eq]; omega
  have h2 : Int.toNat (i : Int) = i := by omega
  cases hp : pv (endA x) with
  | true =>
   (any_goals refine go Jo 0 ?_)
   all_goals (try simp only [go_sem])
   rw [gA hx hp fun j y hj hy => hno j y hj hy]
  | false =>
   (any_goals refine go Jo 0 ?_)
   refine ⟨i + 1, ⟨by omega, fun j y hj hy => ?_⟩, by omega, dQ [0, 1, 7, 8] rfl rfl rfl⟩
   rcases Nat.lt_succ_iff_lt_or_eq.1 hj with h3 | h3
   ·exact hno j y h3 hy
   ·subst h3; rw [hx] at hy; cases hy; exact hp
 ·have h1 : decide ((i : Int) < (l.length : Int)) = false := by rw [decide_eq_false_iff_not]; omega
  (any_goals refine go Jo 0 ?_)
  all_goals (try simp only [go_sem])
  rw [eN fun j y hy => hno j y (by have := (List.getElem?_eq_some_iff.1 hy).1; omega) hy]
theorem Ug (l : List EndT) (f : Nat) (caps : List RV) (dom : AV → Prop) (pv : AV → Bool) (h : ∀ y, dom y → aO Cx f (y :: caps.map AV.r) (Bv (pv y))) (hd : ∀ x ∈ l, dom (endA x)) (hl : l.length ≤ 9223372036854775807) :
  FC Cx 118 [cA l, .r (.fn f caps)] [] (Bv (l.any fun x => pv (endA x))) [] := by
 have hA : ∀ y, y = [cA l, .r (.fn f caps)] → aO Cx 173 y (Iv (fidx (fun x => pv (endA x)) l)) := fun y hy => by
  subst hy; exact aB (Mj l f caps dom pv h hd hl) aKe rfl rfl
 refine aE [ctE 173 [cA l, .r (.fn f caps)] (Iv (fidx (fun x => pv (endA x)) l)) hA] Tryz.func118 Tryz.ntmps118 Tryz.results118 ?_
 (any_goals refine go aOe 0 ?_)
 all_goals (try simp only [go_sem])
 all_goals (try rw [fK])
def endV : AV → EndT
 | .agg [.r (.v (.int _ a)), .r (.v (.int _ b)), .r (.v (.int _ c))] => ⟨a, (b, c)⟩
 | _ => ⟨0, (0, 0)⟩
def badE (s : aC) (e : EndT) : Bool := !decide (0 ≤ e.cell ∧ e.cell ≤ (s.cells.length : Int) - 1) || !isF' s e.fn 4
def badS (s : aC) (v : Int × Int) : Bool := !decide (v.1 = 4) || !fitsF s v
noncomputable def fC (s : aC) : Int :=
 if lT s = true then 2 else if Sh.checkF s.shapes ≠ 0 then Sh.checkF s.shapes else
 if (!kI s.texts || (s.shapes.any fun x => decide ((s.texts.length : Int) ≤ x.2)) || (s.cells.any fun c => !gC s c)) = true then 3 else
 if s.said.any (badS s) = true then 3 else if s.ends.any (badE s) = true then 3 else 0
theorem aAk (s : aC) (a b : Int) : FC Cx 112 [VV a b, .r (.rp (bR s))] [] (Bv (decide ((s.texts.length : Int) ≤ b))) [] := by
 have l1 : (s.texts.map strR).length = s.texts.length := List.length_map ..
 refine aE [] Tryz.func112 Tryz.ntmps112 Tryz.results112 ?_
 refine goR ?_
 refine fzB 2 ?_
 (any_goals refine go aPz 0 ?_)
 all_goals (try simp only [go_sem])
theorem aAo (s : aC) (c : aZ) (hs : Swf s) (hc : Cwf c) (h6 : c.vals.length ≤ 600) : FC Cx 114 [cW c, gK s] [] (Bv (!gC s c)) [] := by
 refine aE [Ph] Tryz.func114 Tryz.ntmps114 Tryz.results114 ?_
 refine goR ?_
 refine fzB 2 ?_
 (any_goals refine go aLg 0 ?_)
 all_goals (try simp only [go_sem])
theorem aA0 (s : aC) (k n : Int) : FC Cx 116 [VV k n, gK s] [] (Bv (badS s (k, n))) [] := by
 unfold badS
 refine aE [kM] Tryz.func116 Tryz.ntmps116 Tryz.results116 ?_
 refine goR ?_
 refine fzB 2 ?_
 (any_goals refine go aMp 0 ?_)
 repeat' (first | (refine Br.go (fun h h' => ?_) (fun h h' => ?_)) | (refine Br.mk (fun h => ?_) (fun h => ?_)))
 all_goals (try simp only [go_sem])
 all_goals (simp_all; done)
theorem Xn (s : aC) (e : EndT) (hs : s.cells.length ≤ 300) : FC Cx 119 [endA e, gK s] [] (Bv (badE s e)) [] := by
 have l1 : (s.cells.map bA).length = s.cells.length := List.length_map ..
 have w1 : IntKind.i64.wrap ((s.cells.length : Int) - 1) = (s.cells.length : Int) - 1 := by rw [aS] <;> omega
 unfold badE
 cases hb : decide (0 ≤ e.cell ∧ e.cell ≤ (s.cells.length : Int) - 1)
 all_goals
  refine aE [qQ, Rb] Tryz.func119 Tryz.ntmps119 Tryz.results119 ?_
  refine goR ?_
  refine fzB 2 ?_
  (any_goals refine go aLi 0 ?_)
  all_goals (try simp only [go_sem])
structure Sok (s : aC) : Prop where
 cells : s.cells.length ≤ 300
 texts : s.texts.length ≤ 300
 said : s.said.length ≤ 200
 ends : s.ends.length ≤ 100
 bytes : ∀ t ∈ s.texts, t.size ≤ 200
 vals : ∀ c ∈ s.cells, c.vals.length ≤ 600
theorem Dt {s : aC} (h : lT s = false) : Sok s := by
 simp only [lT, Bool.or_eq_false_iff, decide_eq_false_iff_not] at h
 obtain ⟨⟨⟨⟨⟨h1, h2⟩, h3⟩, h4⟩, h5⟩, h6⟩ := h
 refine ⟨by omega, by omega, by omega, by omega, fun t ht => ?_, fun c hc => ?_⟩
 ·have := List.any_eq_false.1 h5 t ht
  simp [bigS] at this; omega
 ·have := List.any_eq_false.1 h6 c hc
  simp [bigC] at this; omega
theorem Ri (s : aC) (hs : Swf s) : FC Cx 57 [cE s] [] (Iv (fC s)) [] := by
 have hl := hs.len
 have hw := hs.shapes
 unfold fC
 cases hL : lT s with
 | true =>
  rw [if_pos rfl]
  refine aE [qY] Tryz.func57 Tryz.ntmps57 Tryz.results57 ?_
  refine goR ?_
  refine fzB 1 ?_
  (any_goals refine go lv57 0 ?_)
  all_goals (try simp only [go_sem])
 | false =>
 rw [if_neg (by simp)]
 have ok := Dt hL
 by_cases hsh : Sh.checkF s.shapes = 0
 case neg =>
  rw [if_pos hsh]
  have d0 : decide (Sh.checkF s.shapes = 0) = false := by simpa using hsh
  refine aE [qY, Sh.ct_check'] Tryz.func57 Tryz.ntmps57 Tryz.results57 ?_
  refine goR ?_
  refine fzB 1 ?_
  (any_goals refine go lv57 0 ?_)
  all_goals (try simp only [go_sem])
 rw [if_neg (by simpa using hsh)]
 have d0 : decide (Sh.checkF s.shapes = 0) = true := by simpa using hsh
 have ot := ok.texts
 have ob := ok.bytes
 have hA : ∀ y, y = [aN s.shapes, .r (.fn 112 [.rp (bR s)])] → aO Cx 111 y (Bv (s.shapes.any fun x => decide ((s.texts.length : Int) ≤ x.2))) := fun y hy => by
  subst hy
  have h := Hy s.shapes 112 [.rp (bR s)] (fun y => ∃ v, y = valA v) (fun y => decide ((s.texts.length : Int) ≤ (valV y).2)) (by
   rintro _ ⟨v, rfl⟩
   exact aB (aAk s v.1 v.2) aJ4 rfl rfl) (fun x _ => ⟨x, rfl⟩) hl.shapes
  exact aB h aPc rfl rfl
 have hB : ∀ y, y = [bW s.cells, .r (.fn 114 [.rp (bR s)])] → aO Cx 113 y (Bv (s.cells.any fun c => !gC s c)) := fun y hy => by
  subst hy
  have h := uJ s.cells 114 [.rp (bR s)] (fun y => ∃ c, (Cwf c ∧ c.vals.length ≤ 600) ∧ y = cW c) (fun y => !gC s (Ls y)) (by
   rintro _ ⟨c, ⟨h1, h2⟩, rfl⟩
   rw [pY]
   exact aB (aAo s c hs h1 h2) aK6 rfl rfl) (fun x hx => ⟨x, ⟨hs.cell x hx, ok.vals x hx⟩, rfl⟩) hl.cells
  simp only [pY] at h
  exact aB h Tm rfl rfl
 have hC : ∀ y, y = [aN s.said, .r (.fn 116 [.rp (bR s)])] → aO Cx 102 y (Bv (s.said.any (badS s))) := fun y hy => by
  subst hy
  have h := oR s.said 116 [.rp (bR s)] (fun y => ∃ v, y = valA v) (fun y => badS s (valV y)) (by
   rintro _ ⟨v, rfl⟩
   exact aB (aA0 s v.1 v.2) aOg rfl rfl) (fun x _ => ⟨x, rfl⟩) hl.said
  exact aB h Fb rfl rfl
 have hE : ∀ y, y = [cA s.ends, .r (.fn 119 [.rp (bR s)])] → aO Cx 118 y (Bv (s.ends.any (badE s))) := fun y hy => by
  subst hy
  have h := Ug s.ends 119 [.rp (bR s)] (fun y => ∃ v, y = endA v) (fun y => badE s (endV y)) (by
   rintro _ ⟨v, rfl⟩
   exact aB (Xn s v ok.cells) aKt rfl rfl) (fun x _ => ⟨x, rfl⟩) hl.ends
  exact aB h aPb rfl rfl
 generalize hb1 : kI s.texts = b1 at *
 generalize (s.shapes.any fun x => decide ((s.texts.length : Int) ≤ x.2)) = b2 at *
 generalize (s.cells.any fun c => !gC s c) = b3 at *
 generalize s.said.any (badS s) = b4 at *
 generalize s.ends.any (badE s) = b5 at *
 refine aE [qY, Sh.ct_check', Ho, ctE 111 [aN s.shapes, .r (.fn 112 [.rp (bR s)])] (Bv b2) hA, ctE 113 [bW s.cells, .r (.fn 114 [.rp (bR s)])] (Bv b3) hB, ctE 102 [aN s.said, .r (.fn 116 [.rp (bR s)])] (Bv b4) hC, ctE 118 [cA s.ends, .r (.fn 119 [.rp (bR s)])] (Bv b5) hE] Tryz.func57 Tryz.ntmps57 Tryz.results57 ?_
 refine goR ?_
 refine fzB 1 ?_
 (any_goals refine go lv57 0 ?_)
 repeat' (first | (refine Br.go (fun h h' => ?_) (fun h h' => ?_)) | (refine Br.mk (fun h => ?_) (fun h => ?_)))
 all_goals (try simp only [go_sem])
 all_goals (clear hA hB hC hE; simp_all; done)
theorem Ny (ca sh tx th en sd : List (List RV)) (aq sq : Int) (h : (ca = (cellsOf ca).map bA ∧ sh = (valsOf sh).map valR ∧ tx = (strsOf tx).map strR ∧ th = (threadsOf th).map aL ∧ en = (aH en).map endR ∧ sd = (valsOf sd).map valR) ∧ Swf ⟨cellsOf ca, valsOf sh, strsOf tx, threadsOf th, aH en, valsOf sd, aq, sq⟩) : FC Cx 57 [.agg [.r (.rs 4 ca), .r (.rs 2 sh), .r (.rs 1 tx), .r (.rs 5 th), .r (.rs 3 en), .r (.rs 2 sd), Iv aq, Iv sq]] [] (Iv (fC ⟨cellsOf ca, valsOf sh, strsOf tx, threadsOf th, aH en, valsOf sd, aq, sq⟩)) [] := by
 have := Ri ⟨cellsOf ca, valsOf sh, strsOf tx, threadsOf th, aH en, valsOf sd, aq, sq⟩ h.2
 rwa [Fq _ _ _ _ _ _ _ _ h.1] at this
def nE (args : List AV) (K : AV → Prop) : Prop := match args with
 | [.agg [.r (.rs 4 ca), .r (.rs 2 sh), .r (.rs 1 tx), .r (.rs 5 th), .r (.rs 3 en), .r (.rs 2 sd), .r (.v (.int .i64 aq)), .r (.v (.int .i64 sq))]] => ((ca = (cellsOf ca).map bA ∧ sh = (valsOf sh).map valR ∧ tx = (strsOf tx).map strR ∧ th = (threadsOf th).map aL ∧ en = (aH en).map endR ∧ sd = (valsOf sd).map valR) ∧ Swf ⟨cellsOf ca, valsOf sh, strsOf tx, threadsOf th, aH en, valsOf sd, aq, sq⟩) ∧ K (Iv (fC ⟨cellsOf ca, valsOf sh, strsOf tx, threadsOf th, aH en, valsOf sd, aq, sq⟩))
 | _ => False
noncomputable abbrev xZ : Ct Cx := .pure 57 nE fun args K h => by
 unfold nE at h; split at h; exact ⟨_, aB (Ny _ _ _ _ _ _ _ _ h.1) en57 rfl rfl, h.2⟩; exact h.elim
@[go_sem] theorem Wd : type_of% @nE.eq_def := @nE.eq_def
@[go_sem] theorem Sk {α : Type} (n : Nat) (st : St) (g : α → RV) : ∀ (l : List α) (K : List Loc → List (List RV) → Prop), qG (eV n st) (l.map fun x => [AV.r (g x)]) K = K [] (l.map fun x => [g x])
 | [], K => rfl
 | x :: l, K => by
  cases n <;> (simp only [List.map_cons, qG, lX, eV]; rw [Sk _ st g l]; rfl)
abbrev outR (f : FnT) : RV := .rs 1 ((bU f).out.map trsR)
abbrev gU (f : FnT) : RV := .rs 1 ((bU f).seen.map yZ)
abbrev outC (f : FnT) : List AV := [.r (outR f)]
abbrev Lz (f : FnT) : List AV := [.r (gU f)]
theorem aLz (p : aI) (hl : p.fns.length ≤ 60) (hc : ∀ f ∈ p.fns, Cok f) : FC Cx 60 [cV p] [] (.tup [.r (.rs 1 (p.fns.map fun f => [outR f])), .r (.rs 1 (p.fns.map fun f => [gU f]))]) [] := by
 have l1 : (p.fns.map fnR).length = p.fns.length := List.length_map ..
 refine mR [qL] Tryz.func60 rfl Tryz.ntmps60 (by simp) Tryz.results60 rfl ?_
 refine rnst ?_
 refine goR ?_
 refine fzB 1 ?_
 (any_goals refine go lv60 0 ?_)
 (apply uM 4 1004 160 1; (exact rfl); (exact rfl); (intro K0; (try simp only [go_sem]); exact ⟨id⟩))
 (apply uM 5 1005 147 1; (exact rfl); (exact rfl); (intro K0; (try simp only [go_sem]); exact ⟨id⟩))
 refine dB (fun x : Nat × Nat => x.1 ≤ p.fns.length) (fun x => ⟨35, [(4, .os 1004 (1 + x.1)), (5, .os 1005 (1 + x.1)), (12, fnsV p.fns), (13, Iv p.fns.length), (14, Iv x.1)], [(1, 2, .gone), (1004, 1 + x.1, .sl 160 1 ((p.fns.take x.1).map outC)), (1005, 1 + x.1, .sl 147 1 ((p.fns.take x.1).map Lz)), (7, x.2, .gone), (26, x.2, .gone), (30, x.2, .gone)]⟩) (fun x => p.fns.length - x.1) (0, 0) (Nat.zero_le _) ?_
 rintro ⟨i, u⟩ hi
 dsimp only at hi ⊢
 by_cases hlt : i < p.fns.length
 case neg =>
  obtain rfl : i = p.fns.length := by omega
  have e1 : decide ((p.fns.length : Int) < (p.fns.length : Int)) = false := by rw [decide_eq_false_iff_not]; omega
  rw [List.take_length]
  (any_goals refine go lv60 0 ?_)
  all_goals (try simp only [go_sem])
 have e1 : decide ((i : Int) < (p.fns.length : Int)) = true := by rw [decide_eq_true_eq]; omega
 have t1 : Int.toNat (i : Int) = i := by omega
 have w1 : IntKind.i64.wrap ((i : Int) + 1) = ((i + 1 : Nat) : Int) := by rw [aS] <;> omega
 obtain ⟨f, hf⟩ : ∃ v, p.fns[i]? = some v := ⟨p.fns[i], List.getElem?_eq_getElem hlt⟩
 have hg := aG fnR hf ([] : List RV)
 have hcf := hc f (List.mem_of_getElem? hf)
 have lt1 : ((p.fns.take i).map outC).length = i := by simp; omega
 have lt2 : ((p.fns.take i).map Lz).length = i := by simp; omega
 (any_goals refine go lv60 0 ?_)
 have hm1 : (p.fns.take (i + 1)).map outC = (p.fns.take i).map outC ++ [[Lj (bU f).out]] := by rw [List.take_add_one, hf]; simp
 have hm2 : (p.fns.take (i + 1)).map Lz = (p.fns.take i).map Lz ++ [[Az (bU f).seen]] := by rw [List.take_add_one, hf]; simp
 refine ⟨(i + 1, u + 9), by dsimp only; omega, by dsimp only; omega, ?_⟩
 dsimp only
 rw [hm1, hm2]
 exact bQ
theorem aE9 (xs ys zs : List (List RV)) (h : (xs = (fnsOf xs).map fnR ∧ ys = (valsOf ys).map valR ∧ zs = (strsOf zs).map strR) ∧ (fnsOf xs).length ≤ 60 ∧ ∀ f ∈ fnsOf xs, Cok f) : FC Cx 60 [.agg [.r (.rs 5 xs), .r (.rs 2 ys), .r (.rs 1 zs)]] [] (.tup [.r (.rs 1 ((fnsOf xs).map fun f => [outR f])), .r (.rs 1 ((fnsOf xs).map fun f => [gU f]))]) [] := by
 have := aLz ⟨fnsOf xs, valsOf ys, strsOf zs⟩ h.2.1 h.2.2
 rwa [pF h.1] at this
def vQ (args : List AV) (K : AV → Prop) : Prop := match args with
 | [.agg [.r (.rs 5 xs), .r (.rs 2 ys), .r (.rs 1 zs)]] => ((xs = (fnsOf xs).map fnR ∧ ys = (valsOf ys).map valR ∧ zs = (strsOf zs).map strR) ∧ (fnsOf xs).length ≤ 60 ∧ ∀ f ∈ fnsOf xs, Cok f) ∧ K (.tup [.r (.rs 1 ((fnsOf xs).map fun f => [outR f])), .r (.rs 1 ((fnsOf xs).map fun f => [gU f]))])
 | _ => False
noncomputable abbrev Zj : Ct Cx := .pure 60 vQ fun args K h => by
 unfold vQ at h; split at h; exact ⟨_, aB (aE9 _ _ _ h.1) en60 rfl rfl, h.2⟩; exact h.elim
@[go_sem] theorem aEv : type_of% @vQ.eq_def := @vQ.eq_def
abbrev lkR (p : aI) (s : aC) : List RV := [.rs 5 (p.fns.map fnR), .rs 2 (p.consts.map valR), .rs 1 (p.texts.map strR), .rp (bR s), .rs 1 (p.fns.map fun f => [outR f]), .rs 1 (p.fns.map fun f => [gU f]), .un]
abbrev lkP (p : aI) (s : aC) : AV := .r (.rp (lkR p s))
theorem Ow (xs ys zs ca sh tx th en sd tr wy : List (List RV)) (aq sq : Int) (h : ((xs = (fnsOf xs).map fnR ∧ ys = (valsOf ys).map valR ∧ zs = (strsOf zs).map strR) ∧ ca = (cellsOf ca).map bA ∧ sh = (valsOf sh).map valR ∧ tx = (strsOf tx).map strR ∧ th = (threadsOf th).map aL ∧ en = (aH en).map endR ∧ sd = (valsOf sd).map valR) ∧ (tr = (fnsOf xs).map fun f => [outR f]) ∧ (wy = (fnsOf xs).map fun f => [gU f])) : lkP ⟨fnsOf xs, valsOf ys, strsOf zs⟩ ⟨cellsOf ca, valsOf sh, strsOf tx, threadsOf th, aH en, valsOf sd, aq, sq⟩ = .r (.rp [.rs 5 xs, .rs 2 ys, .rs 1 zs, .rp [.rs 4 ca, .rs 2 sh, .rs 1 tx, .rs 5 th, .rs 3 en, .rs 2 sd, .v (.int .i64 aq), .v (.int .i64 sq)], .rs 1 tr, .rs 1 wy, .un]) := by
 obtain ⟨⟨⟨h1, h2, h3⟩, h4⟩, h5, h6⟩ := h
 show AV.r (.rp [.rs 5 ((fnsOf xs).map fnR), .rs 2 ((valsOf ys).map valR), .rs 1 ((strsOf zs).map strR), .rp (bR ⟨cellsOf ca, valsOf sh, strsOf tx, threadsOf th, aH en, valsOf sd, aq, sq⟩), .rs 1 ((fnsOf xs).map fun f => [outR f]), .rs 1 ((fnsOf xs).map fun f => [gU f]), .un]) = _
 rw [tW _ _ _ _ _ _ _ _ h4, ← h1, ← h2, ← h3, ← h5, ← h6]
theorem Ns (n lo hi : Int) : FC Cx 123 [Iv n, Iv lo, Iv hi] [] (Bv (decide (lo ≤ n ∧ n ≤ hi))) [] := by
 refine aE [] Tryz.func123 Tryz.ntmps123 Tryz.results123 ?_
 (any_goals refine go aOp 0 ?_)
 all_goals (try simp only [go_sem])
 all_goals simp_all
 all_goals omega
def mX (args : List AV) (K : AV → Prop) : Prop := match args with
 | [.r (.v (.int .i64 n)), .r (.v (.int .i64 lo)), .r (.v (.int .i64 hi))] => K (Bv (decide (lo ≤ n ∧ n ≤ hi)))
 | _ => False
noncomputable abbrev dD : Ct Cx := .pure 123 mX fun args K h => by
 unfold mX at h; split at h; exact ⟨_, aB (Ns _ _ _) aQa rfl rfl, h⟩; exact h.elim
@[go_sem] theorem Vq : type_of% @mX.eq_def := @mX.eq_def
def refF (s : aC) (v : Int × Int) (q : Int) : Bool := decide (v.1 = 5) && decide (0 ≤ v.2) && decide (v.2 < (s.cells.length : Int)) && decide ((s.cells.getD v.2.toNat cS).kind = q)
def Gu : AV := .agg [Iv 0, Iv 0, .r (.v (.slice none 0 0)), .r (.v (.slice none 0 0))]
def jI (s : aC) (v : Int × Int) (q : Int) : AV := bif refF s v q then cW (s.cells.getD v.2.toNat cS) else Gu
theorem Zg (p : aI) (s : aC) (k n q : Int) : FC Cx 175 [lkP p s, VV k n, Iv q] [] (.tup [jI s (k, n) q, Bv (refF s (k, n) q)]) [] := by
 have l1 : (s.cells.map bA).length = s.cells.length := List.length_map ..
 cases hr : refF s (k, n) q with
 | true =>
  have hr' := hr
  unfold refF at hr'
  simp only [Bool.and_eq_true, decide_eq_true_eq] at hr'
  obtain ⟨⟨⟨rfl, h0⟩, h1⟩, h2⟩ := hr'
  obtain ⟨c, hc⟩ : ∃ c, s.cells[n.toNat]? = some c := ⟨s.cells[n.toNat]'(by omega), List.getElem?_eq_getElem _⟩
  have hg := aG bA hc ([] : List RV)
  rw [tA hc] at h2
  have d1 : decide (n < 0) = false := by rw [decide_eq_false_iff_not]; omega
  have d2 : decide ((s.cells.length : Int) ≤ n) = false := by rw [decide_eq_false_iff_not]; omega
  have d3 : decide (c.kind = q) = true := by simpa using h2
  have e : jI s (5, n) q = cW c := by unfold jI; rw [hr, tA hc]; rfl
  rw [e]
  clear h2
  refine aE [] Tryz.func175 Tryz.ntmps175 Tryz.results175 ?_
  refine goR ?_
  refine fzB 4 ?_
  (any_goals refine go Dy 0 ?_)
  all_goals (try simp only [go_sem])
 | false =>
  have e : jI s (k, n) q = Gu := by unfold jI; rw [hr]; rfl
  rw [e]
  unfold Gu
  by_cases k5 : k = 5
  case neg =>
   have d0 : decide (k = 5) = false := by simpa using k5
   refine aE [] Tryz.func175 Tryz.ntmps175 Tryz.results175 ?_
   refine goR ?_
   refine fzB 4 ?_
   (any_goals refine go Dy 0 ?_)
   all_goals (try simp only [go_sem])
  subst k5
  by_cases h0 : n < 0
  ·have d1 : decide (n < 0) = true := by simpa using h0
   refine aE [] Tryz.func175 Tryz.ntmps175 Tryz.results175 ?_
   refine goR ?_
   refine fzB 4 ?_
   (any_goals refine go Dy 0 ?_)
   all_goals (try simp only [go_sem])
  have d1 : decide (n < 0) = false := by simpa using h0
  by_cases h1 : (s.cells.length : Int) ≤ n
  ·have d2 : decide ((s.cells.length : Int) ≤ n) = true := by simpa using h1
   refine aE [] Tryz.func175 Tryz.ntmps175 Tryz.results175 ?_
   refine goR ?_
   refine fzB 4 ?_
   (any_goals refine go Dy 0 ?_)
   all_goals (try simp only [go_sem])
  have d2 : decide ((s.cells.length : Int) ≤ n) = false := by simpa using h1
  obtain ⟨c, hc⟩ : ∃ c, s.cells[n.toNat]? = some c := ⟨s.cells[n.toNat]'(by omega), List.getElem?_eq_getElem _⟩
  have hg := aG bA hc ([] : List RV)
  have d3 : decide (c.kind = q) = false := by
   unfold refF at hr
   rw [tA hc] at hr
   cases hd : decide (c.kind = q) with
   | false => rfl
   | true =>
    rw [hd] at hr
    simp at hr; omega
  refine aE [] Tryz.func175 Tryz.ntmps175 Tryz.results175 ?_
  refine goR ?_
  refine fzB 4 ?_
  (any_goals refine go Dy 0 ?_)
  all_goals (try simp only [go_sem])
theorem Gg (xs ys zs ca sh tx th en sd tr wy : List (List RV)) (aq sq : Int) (k n q : Int) (h : ((xs = (fnsOf xs).map fnR ∧ ys = (valsOf ys).map valR ∧ zs = (strsOf zs).map strR) ∧ ca = (cellsOf ca).map bA ∧ sh = (valsOf sh).map valR ∧ tx = (strsOf tx).map strR ∧ th = (threadsOf th).map aL ∧ en = (aH en).map endR ∧ sd = (valsOf sd).map valR) ∧ (tr = (fnsOf xs).map fun f => [outR f]) ∧ (wy = (fnsOf xs).map fun f => [gU f])) : FC Cx 175 [.r (.rp [.rs 5 xs, .rs 2 ys, .rs 1 zs, .rp [.rs 4 ca, .rs 2 sh, .rs 1 tx, .rs 5 th, .rs 3 en, .rs 2 sd, .v (.int .i64 aq), .v (.int .i64 sq)], .rs 1 tr, .rs 1 wy, .un]), VV k n, Iv q] [] (.tup [jI ⟨cellsOf ca, valsOf sh, strsOf tx, threadsOf th, aH en, valsOf sd, aq, sq⟩ (k, n) q, Bv (refF ⟨cellsOf ca, valsOf sh, strsOf tx, threadsOf th, aH en, valsOf sd, aq, sq⟩ (k, n) q)]) [] := by
 have := Zg ⟨fnsOf xs, valsOf ys, strsOf zs⟩ ⟨cellsOf ca, valsOf sh, strsOf tx, threadsOf th, aH en, valsOf sd, aq, sq⟩ k n q
 rwa [Ow _ _ _ _ _ _ _ _ _ _ _ _ _ h] at this
@[go_sem] theorem Cd (s : aC) (v : Int × Int) (q : Int) : aW bD (jI s v q) = true := by unfold jI; cases refF s v q <;> rfl
def pA (args : List AV) (K : AV → Prop) : Prop := match args with
 | [.r (.rp [.rs 5 xs, .rs 2 ys, .rs 1 zs, .rp [.rs 4 ca, .rs 2 sh, .rs 1 tx, .rs 5 th, .rs 3 en, .rs 2 sd, .v (.int .i64 aq), .v (.int .i64 sq)], .rs 1 tr, .rs 1 wy, .un]), .agg [.r (.v (.int .i64 k)), .r (.v (.int .i64 n))], .r (.v (.int .i64 q))] => (((xs = (fnsOf xs).map fnR ∧ ys = (valsOf ys).map valR ∧ zs = (strsOf zs).map strR) ∧ ca = (cellsOf ca).map bA ∧ sh = (valsOf sh).map valR ∧ tx = (strsOf tx).map strR ∧ th = (threadsOf th).map aL ∧ en = (aH en).map endR ∧ sd = (valsOf sd).map valR) ∧ (tr = (fnsOf xs).map fun f => [outR f]) ∧ (wy = (fnsOf xs).map fun f => [gU f])) ∧ K (.tup [jI ⟨cellsOf ca, valsOf sh, strsOf tx, threadsOf th, aH en, valsOf sd, aq, sq⟩ (k, n) q, Bv (refF ⟨cellsOf ca, valsOf sh, strsOf tx, threadsOf th, aH en, valsOf sd, aq, sq⟩ (k, n) q)])
 | _ => False
noncomputable abbrev iE : Ct Cx := .pure 175 pA fun args K h => by
 unfold pA at h; split at h; exact ⟨_, aB (Gg _ _ _ _ _ _ _ _ _ _ _ _ _ _ _ _ h.1) aBt rfl (by simp only [aW, aP, Cd]; rfl), h.2⟩; exact h.elim
@[go_sem] theorem Xi : type_of% @pA.eq_def := @pA.eq_def
structure Pgo (p : aI) : Prop where
 fns : p.fns.length ≤ 60
 cok : ∀ f ∈ p.fns, Cok f
 go : ∀ f ∈ p.fns, (bU f).bad = false
theorem wR {p : aI} (hw : Pwf p) (h : checkF p = 0) : Pgo p := by
 have hL : kF p = false := by
  unfold checkF at h
  split at h
  ·cases h
  ·rename_i h1; simpa using h1
 exact ⟨(xU hw hL).fns, fun f hf => (lZ hw h hf).2.2.1, fun f hf => (lZ hw h hf).2.2.2⟩
def cR (p : aI) (s : aC) (f : aK) : Bool :=
 decide (0 ≤ f.fn ∧ f.fn ≤ (p.fns.length : Int) - 1) && refF s f.self 4 && decide ((s.cells.getD f.self.2.toNat cS).num = f.fn) && decide ((f.regs.length : Int) = (p.fns.getD f.fn.toNat fn0).regs) &&
 decide (0 ≤ f.pc ∧ f.pc ≤ ((p.fns.getD f.fn.toNat fn0).code.length : Int) - 1) && (bU (p.fns.getD f.fn.toNat fn0)).seen.getD f.pc.toNat false &&
 decide (f.tries = (bU (p.fns.getD f.fn.toNat fn0)).out.getD f.pc.toNat []) && f.regs.all (fitsF s)
theorem Qe (p : aI) (s : aC) (k n : Int) : FC Cx 192 [VV k n, .r (.rp [.rp (lkR p s)])] [] (Bv (!fitsF s (k, n))) [] := by
 refine aE [gW] Tryz.func192 Tryz.ntmps192 Tryz.results192 ?_
 refine goR ?_
 refine fzB 2 ?_
 (any_goals refine go aN8 0 ?_)
 all_goals (try simp only [go_sem])
theorem Xr (p : aI) (s : aC) (f : aK) (hp : Pgo p) (hf : Gwf f) : FC Cx 189 [lkP p s, dA f] [] (Bv (cR p s f)) [] := by
 have l0 : (p.fns.map fnR).length = p.fns.length := List.length_map ..
 have l1 : (f.regs.map valR).length = f.regs.length := List.length_map ..
 have l2 : (p.fns.map fun f => [gU f]).length = p.fns.length := List.length_map ..
 have l3 : (p.fns.map fun f => [outR f]).length = p.fns.length := List.length_map ..
 have h60 := hp.fns
 have w1 : IntKind.i64.wrap ((p.fns.length : Int) - 1) = (p.fns.length : Int) - 1 := by rw [aS] <;> omega
 have lt : (f.tries.map tryR).length = f.tries.length := List.length_map ..
 have ht := hf.tries
 have hA : ∀ y, y = [aN f.regs, .r (.fn 192 [.rp [.rp (lkR p s)]])] → aO Cx 102 y (Bv (f.regs.any fun v => !fitsF s v)) := fun y hy => by
  subst hy
  have h := oR f.regs 192 [.rp [.rp (lkR p s)]] (fun y => ∃ v, y = valA v) (fun y => !fitsF s (valV y)) (by
   rintro _ ⟨v, rfl⟩
   exact aB (Qe p s v.1 v.2) aJ5 rfl rfl) (fun x _ => ⟨x, rfl⟩) hf.regs
  exact aB h Fb rfl rfl
 have eF : cR p s f = (decide (0 ≤ f.fn ∧ f.fn ≤ (p.fns.length : Int) - 1) && refF s f.self 4 && decide ((s.cells.getD f.self.2.toNat cS).num = f.fn) && decide ((f.regs.length : Int) = (p.fns.getD f.fn.toNat fn0).regs) &&
  decide (0 ≤ f.pc ∧ f.pc ≤ ((p.fns.getD f.fn.toNat fn0).code.length : Int) - 1) && (bU (p.fns.getD f.fn.toNat fn0)).seen.getD f.pc.toNat false &&
  decide (f.tries = (bU (p.fns.getD f.fn.toNat fn0)).out.getD f.pc.toNat []) && !(f.regs.any fun v => !fitsF s v)) := by unfold cR; rw [wB f.regs]
 rw [eF]
 generalize hb4 : (f.regs.any fun v => !fitsF s v) = b4 at *
 obtain ⟨fn, pc, tov, gen, ⟨sk, sn⟩, regs, tries⟩ := f
 dsimp only at *
 cases hfn : decide (0 ≤ fn ∧ fn ≤ (p.fns.length : Int) - 1) with
 | false =>
  simp only [Bool.false_and]
  refine aE [dD, iE, dH, ctE 102 [aN regs, .r (.fn 192 [.rp [.rp (lkR p s)]])] (Bv b4) hA] Tryz.func189 Tryz.ntmps189 Tryz.results189 ?_
  refine goR ?_
  refine fzB 2 ?_
  refine fzB 3 ?_
  (any_goals refine go xI 0 ?_)
  all_goals (try simp only [go_sem])
 | true =>
 have hfn' : 0 ≤ fn ∧ fn ≤ (p.fns.length : Int) - 1 := by simpa using hfn
 obtain ⟨F, hF⟩ : ∃ F, p.fns[fn.toNat]? = some F := ⟨p.fns[fn.toNat]'(by omega), List.getElem?_eq_getElem _⟩
 have gF := aG fnR hF ([] : List RV)
 have gS := aG (fun f => [gU f]) hF ([] : List RV)
 have gO := aG (fun f => [outR f]) hF ([] : List RV)
 have eFn : p.fns.getD fn.toNat fn0 = F := by simp [List.getD, hF]
 rw [eFn]
 have hcok := hp.cok F (List.mem_of_getElem? hF)
 have iv := Lm hcok
 have h600 := hcok.len
 have lc : (F.code.map insR).length = F.code.length := List.length_map ..
 have w2 : IntKind.i64.wrap ((F.code.length : Int) - 1) = (F.code.length : Int) - 1 := by rw [aS] <;> omega
 cases hre : refF s (sk, sn) 4 with
 | false =>
  have hX : jI s (sk, sn) 4 = Gu := by unfold jI; rw [hre]; rfl
  unfold Gu at hX
  simp only [Bool.and_false, Bool.false_and]
  refine aE [dD, iE, dH, ctE 102 [aN regs, .r (.fn 192 [.rp [.rp (lkR p s)]])] (Bv b4) hA] Tryz.func189 Tryz.ntmps189 Tryz.results189 ?_
  refine goR ?_
  refine fzB 2 ?_
  refine fzB 3 ?_
  (any_goals refine go xI 0 ?_)
  all_goals (try simp only [go_sem])
 | true =>
 have hX : jI s (sk, sn) 4 = cW (s.cells.getD sn.toNat cS) := by unfold jI; rw [hre]; rfl
 generalize s.cells.getD sn.toNat cS = c at *
 cases hnum : decide (c.num = fn) with
 | false =>
  simp only [Bool.and_false, Bool.false_and]
  refine aE [dD, iE, dH, ctE 102 [aN regs, .r (.fn 192 [.rp [.rp (lkR p s)]])] (Bv b4) hA] Tryz.func189 Tryz.ntmps189 Tryz.results189 ?_
  refine goR ?_
  refine fzB 2 ?_
  refine fzB 3 ?_
  (any_goals refine go xI 0 ?_)
  all_goals (try simp only [go_sem])
 | true =>
 cases hre2 : decide ((regs.length : Int) = F.regs) with
 | false =>
  simp only [Bool.and_false, Bool.false_and]
  refine aE [dD, iE, dH, ctE 102 [aN regs, .r (.fn 192 [.rp [.rp (lkR p s)]])] (Bv b4) hA] Tryz.func189 Tryz.ntmps189 Tryz.results189 ?_
  refine goR ?_
  refine fzB 2 ?_
  refine fzB 3 ?_
  (any_goals refine go xI 0 ?_)
  all_goals (try simp only [go_sem])
 | true =>
 cases hpc : decide (0 ≤ pc ∧ pc ≤ (F.code.length : Int) - 1) with
 | false =>
  simp only [Bool.and_false, Bool.false_and]
  refine aE [dD, iE, dH, ctE 102 [aN regs, .r (.fn 192 [.rp [.rp (lkR p s)]])] (Bv b4) hA] Tryz.func189 Tryz.ntmps189 Tryz.results189 ?_
  refine goR ?_
  refine fzB 2 ?_
  refine fzB 3 ?_
  (any_goals refine go xI 0 ?_)
  all_goals (try simp only [go_sem])
 | true =>
 have hpc' : 0 ≤ pc ∧ pc ≤ (F.code.length : Int) - 1 := by simpa using hpc
 have q1 : pc.toNat < (bU F).seen.length := by rw [iv.seen]; omega
 have q2 : pc.toNat < (bU F).out.length := by rw [iv.out]; omega
 have ls : ((bU F).seen.map yZ).length = F.code.length := by rw [List.length_map, iv.seen]
 have lo : ((bU F).out.map trsR).length = F.code.length := by rw [List.length_map, iv.out]
 obtain ⟨b, hbi⟩ : ∃ b, (bU F).seen[pc.toNat]? = some b := ⟨_, List.getElem?_eq_getElem q1⟩
 obtain ⟨o, hoi⟩ : ∃ b, (bU F).out[pc.toNat]? = some b := ⟨_, List.getElem?_eq_getElem q2⟩
 have gb := aG yZ hbi ([] : List RV)
 have go' := aG trsR hoi ([] : List RV)
 have eb : (bU F).seen.getD pc.toNat false = b := by simp [List.getD, hbi]
 have eo : (bU F).out.getD pc.toNat [] = o := by simp [List.getD, hoi]
 rw [eb, eo]
 cases b with
 | false =>
  simp only [Bool.and_false, Bool.false_and]
  refine aE [dD, iE, dH, ctE 102 [aN regs, .r (.fn 192 [.rp [.rp (lkR p s)]])] (Bv b4) hA] Tryz.func189 Tryz.ntmps189 Tryz.results189 ?_
  refine goR ?_
  refine fzB 2 ?_
  refine fzB 3 ?_
  (any_goals refine go xI 0 ?_)
  all_goals (try simp only [go_sem])
 | true =>
  simp only [Bool.and_true, Bool.true_and]
  cases hto : decide (tries = o)
  all_goals
   refine aE [dD, iE, dH, ctE 102 [aN regs, .r (.fn 192 [.rp [.rp (lkR p s)]])] (Bv b4) hA] Tryz.func189 Tryz.ntmps189 Tryz.results189 ?_
   refine goR ?_
   refine fzB 2 ?_
   refine fzB 3 ?_
   (any_goals refine go xI 0 ?_)
   all_goals (try simp only [go_sem])
theorem Uc (xs ys zs ca sh tx th en sd tr wy : List (List RV)) (aq sq : Int) (f1 f2 f3 f4 f5 f6 : Int) (us vs : List (List RV)) (h : (((xs = (fnsOf xs).map fnR ∧ ys = (valsOf ys).map valR ∧ zs = (strsOf zs).map strR) ∧ ca = (cellsOf ca).map bA ∧ sh = (valsOf sh).map valR ∧ tx = (strsOf tx).map strR ∧ th = (threadsOf th).map aL ∧ en = (aH en).map endR ∧ sd = (valsOf sd).map valR) ∧ (tr = (fnsOf xs).map fun f => [outR f]) ∧ (wy = (fnsOf xs).map fun f => [gU f])) ∧ (us = (valsOf us).map valR ∧ vs = (triesOf vs).map tryR) ∧ Pgo ⟨fnsOf xs, valsOf ys, strsOf zs⟩ ∧ Gwf ⟨f1, f2, f3, f4, (f5, f6), valsOf us, triesOf vs⟩) : FC Cx 189 [.r (.rp [.rs 5 xs, .rs 2 ys, .rs 1 zs, .rp [.rs 4 ca, .rs 2 sh, .rs 1 tx, .rs 5 th, .rs 3 en, .rs 2 sd, .v (.int .i64 aq), .v (.int .i64 sq)], .rs 1 tr, .rs 1 wy, .un]), .agg [Iv f1, Iv f2, Iv f3, Iv f4, Iv f5, Iv f6, .r (.rs 2 us), .r (.rs 2 vs)]] [] (Bv (cR ⟨fnsOf xs, valsOf ys, strsOf zs⟩ ⟨cellsOf ca, valsOf sh, strsOf tx, threadsOf th, aH en, valsOf sd, aq, sq⟩ ⟨f1, f2, f3, f4, (f5, f6), valsOf us, triesOf vs⟩)) [] := by
 have := Xr ⟨fnsOf xs, valsOf ys, strsOf zs⟩ ⟨cellsOf ca, valsOf sh, strsOf tx, threadsOf th, aH en, valsOf sd, aq, sq⟩ ⟨f1, f2, f3, f4, (f5, f6), valsOf us, triesOf vs⟩ h.2.2.1 h.2.2.2
 rwa [Ow _ _ _ _ _ _ _ _ _ _ _ _ _ h.1, show dA ⟨f1, f2, f3, f4, (f5, f6), valsOf us, triesOf vs⟩ = .agg [Iv f1, Iv f2, Iv f3, Iv f4, Iv f5, Iv f6, .r (.rs 2 us), .r (.rs 2 vs)] from by
  show AV.agg [Iv f1, Iv f2, Iv f3, Iv f4, Iv f5, Iv f6, aN (valsOf us), gJ (triesOf vs)] = _
  rw [iG h.2.1.1, kK h.2.1.2]] at this
def pL (args : List AV) (K : AV → Prop) : Prop := match args with
 | [.r (.rp [.rs 5 xs, .rs 2 ys, .rs 1 zs, .rp [.rs 4 ca, .rs 2 sh, .rs 1 tx, .rs 5 th, .rs 3 en, .rs 2 sd, .v (.int .i64 aq), .v (.int .i64 sq)], .rs 1 tr, .rs 1 wy, .un]), .agg [.r (.v (.int .i64 f1)), .r (.v (.int .i64 f2)), .r (.v (.int .i64 f3)), .r (.v (.int .i64 f4)), .r (.v (.int .i64 f5)), .r (.v (.int .i64 f6)), .r (.rs 2 us), .r (.rs 2 vs)]] => ((((xs = (fnsOf xs).map fnR ∧ ys = (valsOf ys).map valR ∧ zs = (strsOf zs).map strR) ∧ ca = (cellsOf ca).map bA ∧ sh = (valsOf sh).map valR ∧ tx = (strsOf tx).map strR ∧ th = (threadsOf th).map aL ∧ en = (aH en).map endR ∧ sd = (valsOf sd).map valR) ∧ (tr = (fnsOf xs).map fun f => [outR f]) ∧ (wy = (fnsOf xs).map fun f => [gU f])) ∧ (us = (valsOf us).map valR ∧ vs = (triesOf vs).map tryR) ∧ Pgo ⟨fnsOf xs, valsOf ys, strsOf zs⟩ ∧ Gwf ⟨f1, f2, f3, f4, (f5, f6), valsOf us, triesOf vs⟩) ∧ K (Bv (cR ⟨fnsOf xs, valsOf ys, strsOf zs⟩ ⟨cellsOf ca, valsOf sh, strsOf tx, threadsOf th, aH en, valsOf sd, aq, sq⟩ ⟨f1, f2, f3, f4, (f5, f6), valsOf us, triesOf vs⟩))
 | _ => False
noncomputable abbrev oW : Ct Cx := .pure 189 pL fun args K h => by
 unfold pL at h; split at h; exact ⟨_, aB (Uc _ _ _ _ _ _ _ _ _ _ _ _ _ _ _ _ _ _ _ _ _ h.1) aOk rfl rfl, h.2⟩; exact h.elim
@[go_sem] theorem aAu : type_of% @pL.eq_def := @pL.eq_def
theorem sD {p : aI} {s : aC} {f : aK} (h : cR p s f = true) : (0 ≤ f.fn ∧ f.fn < (p.fns.length : Int)) ∧ 0 ≤ f.pc ∧ f.pc < ((p.fns.getD f.fn.toNat fn0).code.length : Int) := by
 unfold cR at h
 simp only [Bool.and_eq_true, decide_eq_true_eq] at h
 obtain ⟨⟨⟨⟨⟨⟨⟨h1, _⟩, _⟩, _⟩, h2⟩, _⟩, _⟩, _⟩ := h
 exact ⟨⟨h1.1, by omega⟩, h2.1, by omega⟩
def hJ (p : aI) (s : aC) (f : aK) : Bool := cR p s f && decide (f.tov = -1) && decide (f.gen = -1) && (p.fns.getD f.fn.toNat fn0).gen && (decide (f.pc = 0) || decide (((p.fns.getD f.fn.toNat fn0).code.getD (f.pc - 1).toNat ins0).op = 32))
theorem aAc (p : aI) (s : aC) (f : aK) (hp : Pgo p) (hf : Gwf f) : FC Cx 174 [lkP p s, dA f] [] (Bv (hJ p s f)) [] := by
 have l0 : (p.fns.map fnR).length = p.fns.length := List.length_map ..
 obtain ⟨fn, pc, tov, gen, ⟨sk, sn⟩, regs, tries⟩ := f
 cases hfr : cR p s ⟨fn, pc, tov, gen, (sk, sn), regs, tries⟩ with
 | false =>
  have e : hJ p s ⟨fn, pc, tov, gen, (sk, sn), regs, tries⟩ = false := by unfold hJ; rw [hfr]; rfl
  rw [e]
  refine aE [oW] Tryz.func174 Tryz.ntmps174 Tryz.results174 ?_
  refine goR ?_
  refine fzB 3 ?_
  (any_goals refine go Qc 0 ?_)
  all_goals (try simp only [go_sem])
 | true =>
  obtain ⟨⟨h1, h2⟩, h3, h4⟩ := sD hfr
  dsimp only at h1 h2 h3 h4
  obtain ⟨F, hF⟩ : ∃ F, p.fns[fn.toNat]? = some F := ⟨p.fns[fn.toNat]'(by omega), List.getElem?_eq_getElem _⟩
  have gF := aG fnR hF ([] : List RV)
  have gF2 : p.fns.getD fn.toNat fn0 = F := by simp [List.getD, hF]
  have lc : (F.code.map insR).length = F.code.length := List.length_map ..
  rw [gF2] at h4
  have e : hJ p s ⟨fn, pc, tov, gen, (sk, sn), regs, tries⟩ = (decide (tov = -1) && decide (gen = -1) && F.gen && (decide (pc = 0) || decide ((F.code.getD (pc - 1).toNat ins0).op = 32))) := by
   unfold hJ; rw [hfr, Bool.true_and]; dsimp only; rw [gF2]
  rw [e]
  clear gF2 e
  by_cases hp0 : pc = 0
  ·have d0 : decide (pc = 0) = true := by simpa using hp0
   clear hp0
   rw [d0]
   cases t1 : decide (tov = -1) <;> cases t2 : decide (gen = -1) <;> cases t3 : F.gen
   all_goals
    refine aE [oW] Tryz.func174 Tryz.ntmps174 Tryz.results174 ?_
    refine goR ?_
    refine fzB 3 ?_
    (any_goals refine go Qc 0 ?_)
    all_goals (try simp only [go_sem])
  ·have d0 : decide (pc = 0) = false := by simpa using hp0
   have w1 : IntKind.i64.wrap (pc - 1) = pc - 1 := by have := hp.fns; have := (hp.cok F (List.mem_of_getElem? hF)).len; rw [aS] <;> omega
   obtain ⟨I, hI⟩ : ∃ I, F.code[(pc - 1).toNat]? = some I := ⟨F.code[(pc - 1).toNat]'(by omega), List.getElem?_eq_getElem _⟩
   have gI := aG insR hI ([] : List RV)
   have gI2 : F.code.getD (pc - 1).toNat ins0 = I := by rw [List.getD_eq_getElem?_getD, hI]; rfl
   have hp1 : 1 ≤ pc := by omega
   rw [d0, gI2]
   clear gI2 hp0
   cases t1 : decide (tov = -1) <;> cases t2 : decide (gen = -1) <;> cases t3 : F.gen
   all_goals
    refine aE [oW] Tryz.func174 Tryz.ntmps174 Tryz.results174 ?_
    refine goR ?_
    refine fzB 3 ?_
    (any_goals refine go Qc 0 ?_)
    all_goals (try simp only [go_sem])
theorem Pd (xs ys zs ca sh tx th en sd tr wy : List (List RV)) (aq sq : Int) (f1 f2 f3 f4 f5 f6 : Int) (us vs : List (List RV)) (h : (((xs = (fnsOf xs).map fnR ∧ ys = (valsOf ys).map valR ∧ zs = (strsOf zs).map strR) ∧ ca = (cellsOf ca).map bA ∧ sh = (valsOf sh).map valR ∧ tx = (strsOf tx).map strR ∧ th = (threadsOf th).map aL ∧ en = (aH en).map endR ∧ sd = (valsOf sd).map valR) ∧ (tr = (fnsOf xs).map fun f => [outR f]) ∧ (wy = (fnsOf xs).map fun f => [gU f])) ∧ (us = (valsOf us).map valR ∧ vs = (triesOf vs).map tryR) ∧ Pgo ⟨fnsOf xs, valsOf ys, strsOf zs⟩ ∧ Gwf ⟨f1, f2, f3, f4, (f5, f6), valsOf us, triesOf vs⟩) : FC Cx 174 [.r (.rp [.rs 5 xs, .rs 2 ys, .rs 1 zs, .rp [.rs 4 ca, .rs 2 sh, .rs 1 tx, .rs 5 th, .rs 3 en, .rs 2 sd, .v (.int .i64 aq), .v (.int .i64 sq)], .rs 1 tr, .rs 1 wy, .un]), .agg [Iv f1, Iv f2, Iv f3, Iv f4, Iv f5, Iv f6, .r (.rs 2 us), .r (.rs 2 vs)]] [] (Bv (hJ ⟨fnsOf xs, valsOf ys, strsOf zs⟩ ⟨cellsOf ca, valsOf sh, strsOf tx, threadsOf th, aH en, valsOf sd, aq, sq⟩ ⟨f1, f2, f3, f4, (f5, f6), valsOf us, triesOf vs⟩)) [] := by
 have := aAc ⟨fnsOf xs, valsOf ys, strsOf zs⟩ ⟨cellsOf ca, valsOf sh, strsOf tx, threadsOf th, aH en, valsOf sd, aq, sq⟩ ⟨f1, f2, f3, f4, (f5, f6), valsOf us, triesOf vs⟩ h.2.2.1 h.2.2.2
 rwa [Ow _ _ _ _ _ _ _ _ _ _ _ _ _ h.1, show dA ⟨f1, f2, f3, f4, (f5, f6), valsOf us, triesOf vs⟩ = .agg [Iv f1, Iv f2, Iv f3, Iv f4, Iv f5, Iv f6, .r (.rs 2 us), .r (.rs 2 vs)] from by
  show AV.agg [Iv f1, Iv f2, Iv f3, Iv f4, Iv f5, Iv f6, aN (valsOf us), gJ (triesOf vs)] = _
  rw [iG h.2.1.1, kK h.2.1.2]] at this
def pW (args : List AV) (K : AV → Prop) : Prop := match args with
 | [.r (.rp [.rs 5 xs, .rs 2 ys, .rs 1 zs, .rp [.rs 4 ca, .rs 2 sh, .rs 1 tx, .rs 5 th, .rs 3 en, .rs 2 sd, .v (.int .i64 aq), .v (.int .i64 sq)], .rs 1 tr, .rs 1 wy, .un]), .agg [.r (.v (.int .i64 f1)), .r (.v (.int .i64 f2)), .r (.v (.int .i64 f3)), .r (.v (.int .i64 f4)), .r (.v (.int .i64 f5)), .r (.v (.int .i64 f6)), .r (.rs 2 us), .r (.rs 2 vs)]] => ((((xs = (fnsOf xs).map fnR ∧ ys = (valsOf ys).map valR ∧ zs = (strsOf zs).map strR) ∧ ca = (cellsOf ca).map bA ∧ sh = (valsOf sh).map valR ∧ tx = (strsOf tx).map strR ∧ th = (threadsOf th).map aL ∧ en = (aH en).map endR ∧ sd = (valsOf sd).map valR) ∧ (tr = (fnsOf xs).map fun f => [outR f]) ∧ (wy = (fnsOf xs).map fun f => [gU f])) ∧ (us = (valsOf us).map valR ∧ vs = (triesOf vs).map tryR) ∧ Pgo ⟨fnsOf xs, valsOf ys, strsOf zs⟩ ∧ Gwf ⟨f1, f2, f3, f4, (f5, f6), valsOf us, triesOf vs⟩) ∧ K (Bv (hJ ⟨fnsOf xs, valsOf ys, strsOf zs⟩ ⟨cellsOf ca, valsOf sh, strsOf tx, threadsOf th, aH en, valsOf sd, aq, sq⟩ ⟨f1, f2, f3, f4, (f5, f6), valsOf us, triesOf vs⟩))
 | _ => False
noncomputable abbrev mG : Ct Cx := .pure 174 pW fun args K h => by
 unfold pW at h; split at h; exact ⟨_, aB (Pd _ _ _ _ _ _ _ _ _ _ _ _ _ _ _ _ _ _ _ _ _ h.1) aOq rfl rfl, h.2⟩; exact h.elim
@[go_sem] theorem aAv : type_of% @pW.eq_def := @pW.eq_def
def dW (p : aI) (s : aC) (c : aZ) : Bool :=
 if c.kind = 4 then decide (c.num < (p.fns.length : Int)) && decide ((c.vals.length : Int) = ((p.fns.getD c.num.toNat fn0).caught.length : Int)) else if c.kind = 5 then !decide (c.num = 0) || hJ p s (c.frames.getD 0 Jc) else true
theorem aGe (p : aI) (s : aC) (c : aZ) (hp : Pgo p) (hc : Cwf c) (h4 : c.kind = 4 → 0 ≤ c.num) (h5 : c.kind = 5 → c.num = 0 → c.frames.length = 1) : FC Cx 125 [lkP p s, cW c] [] (Bv (dW p s c)) [] := by
 have l0 : (p.fns.map fnR).length = p.fns.length := List.length_map ..
 have lv : (c.vals.map valR).length = c.vals.length := List.length_map ..
 have lf : (c.frames.map bM).length = c.frames.length := List.length_map ..
 obtain ⟨kind, num, vals, frames⟩ := c
 dsimp only at *
 by_cases k4 : kind = 4
 ·subst k4
  have n0 := h4 rfl
  clear h4 h5
  have e : dW p s ⟨4, num, vals, frames⟩ = (decide (num < (p.fns.length : Int)) && decide ((vals.length : Int) = ((p.fns.getD num.toNat fn0).caught.length : Int))) := by unfold dW; rw [if_pos rfl]
  rw [e]
  clear e
  cases hl : decide (num < (p.fns.length : Int)) with
  | false =>
   refine aE [mG] Tryz.func125 Tryz.ntmps125 Tryz.results125 ?_
   refine goR ?_
   refine fzB 3 ?_
   (any_goals refine go Es 0 ?_)
   all_goals (try simp only [go_sem])
  | true =>
   have hl' : num < (p.fns.length : Int) := by simpa using hl
   obtain ⟨F, hF⟩ : ∃ F, p.fns[num.toNat]? = some F := ⟨p.fns[num.toNat]'(by omega), List.getElem?_eq_getElem _⟩
   have gF := aG fnR hF ([] : List RV)
   have gF2 : p.fns.getD num.toNat fn0 = F := by simp [List.getD, hF]
   have lc : (F.caught.map intR).length = F.caught.length := List.length_map ..
   rw [gF2]
   clear gF2
   refine aE [mG] Tryz.func125 Tryz.ntmps125 Tryz.results125 ?_
   refine goR ?_
   refine fzB 3 ?_
   (any_goals refine go Es 0 ?_)
   all_goals (try simp only [go_sem])
 have d4 : decide (kind = 4) = false := by simpa using k4
 by_cases k5 : kind = 5
 ·subst k5
  by_cases n0 : num = 0
  ·subst n0
   have hl := h5 rfl rfl
   clear h4 h5
   obtain ⟨f0, rfl⟩ : ∃ f0, frames = [f0] := by
    match frames, hl with
    | [f0], _ => exact ⟨f0, rfl⟩
   have hf0 := hc.frame f0 (List.mem_singleton.2 rfl)
   have e : dW p s ⟨5, 0, vals, [f0]⟩ = hJ p s f0 := by unfold dW; rw [if_neg (show ¬ (5 : Int) = 4 from by decide), if_pos rfl]; rfl
   rw [e]
   clear e hc
   obtain ⟨fn, pc, tov, gen, ⟨sk, sn⟩, regs, tries⟩ := f0
   refine aE [mG] Tryz.func125 Tryz.ntmps125 Tryz.results125 ?_
   refine goR ?_
   refine fzB 3 ?_
   (any_goals refine go Es 0 ?_)
   all_goals (try simp only [go_sem])
  ·have dn : decide (num = 0) = false := by simpa using n0
   have e : dW p s ⟨5, num, vals, frames⟩ = true := by unfold dW; rw [if_neg (show ¬ (5 : Int) = 4 from by decide), if_pos rfl]; dsimp only; rw [dn]; rfl
   rw [e]
   clear e h4 h5
   refine aE [mG] Tryz.func125 Tryz.ntmps125 Tryz.results125 ?_
   refine goR ?_
   refine fzB 3 ?_
   (any_goals refine go Es 0 ?_)
   all_goals (try simp only [go_sem])
 have d5 : decide (kind = 5) = false := by simpa using k5
 have e : dW p s ⟨kind, num, vals, frames⟩ = true := by unfold dW; rw [if_neg k4, if_neg k5]
 rw [e]
 clear e h4 h5
 refine aE [mG] Tryz.func125 Tryz.ntmps125 Tryz.results125 ?_
 refine goR ?_
 refine fzB 3 ?_
 (any_goals refine go Es 0 ?_)
 all_goals (try simp only [go_sem])
def onF (p : aI) (s : aC) (low : Int) (f : aK) : Bool := cR p s f && decide (-1 ≤ f.tov ∧ f.tov ≤ low - 1) && ((p.fns.getD f.fn.toNat fn0).gen == decide (0 ≤ f.gen)) && !decide (f.gen < -1)
def gZ (s : aC) (k : Nat) (f : aK) : Bool := !decide (k = 0) && refF s (5, f.gen) 5 && decide ((s.cells.getD f.gen.toNat cS).num = 1)
noncomputable def stackG (p : aI) (s : aC) : Nat → Int → List aK → List Int → Bool × List Int
 | _, _, [], S => (true, S)
 | k, low, f :: fs, S =>
  if onF p s low f = true then
   if (p.fns.getD f.fn.toNat fn0).gen = true then
    if gZ s k f = true ∧ f.gen ∉ S then stackG p s (k + 1) f.regs.length fs (f.gen :: S) else (false, S)
   else stackG p s (k + 1) f.regs.length fs S
  else (false, S)
def qH (fs : List aK) (i : Nat) : Int := if i = 0 then 0 else ((fs.getD (i - 1) Jc).regs.length : Int)
def jF (p : aI) (s : aC) (t : aJ) : Bool :=
 (decide (t.state = 3 ∨ t.state = 4) == decide (t.frames.length = 0)) && (decide (t.state = 3 ∨ t.state = 4) || decide (t.val = (0, 0))) && fitsF s t.val && decide (0 ≤ t.state ∧ t.state ≤ 4) &&
 (if t.state = 1 then refF s (5, t.on) 6 else if t.state = 2 then decide (0 ≤ t.on ∧ t.on ≤ (s.threads.length : Int) - 1) else decide (t.on = 0))
noncomputable def threadG (p : aI) (s : aC) (t : aJ) (S : List Int) : Bool × List Int := if jF p s t = true then stackG p s 0 0 t.frames S else (false, S)
noncomputable def threadsG (p : aI) (s : aC) : List aJ → List Int → Bool × List Int
 | [], S => (true, S)
 | t :: ts, S => if (threadG p s t S).1 = true then threadsG p s ts (threadG p s t S).2 else (false, (threadG p s t S).2)
def gensL (fs : List aK) : List Int := (fs.filter fun f => decide (0 ≤ f.gen)).map (·.gen)
def fH (p : aI) (s : aC) : Nat → Int → List aK → Prop
 | _, _, [] => True
 | k, low, f :: fs => (onF p s low f = true ∧ (0 ≤ f.gen → gZ s k f = true)) ∧ fH p s (k + 1) f.regs.length fs
theorem Ze {p : aI} {s : aC} {low : Int} {f : aK} (h : onF p s low f = true) : (p.fns.getD f.fn.toNat fn0).gen = decide (0 ≤ f.gen) := by
 unfold onF at h
 simp only [Bool.and_eq_true, beq_iff_eq] at h
 exact h.1.2
theorem qO (p : aI) (s : aC) : ∀ (fs : List aK) (k : Nat) (low : Int) (S S' : List Int), S.Nodup → (stackG p s k low fs S = (true, S') ↔ fH p s k low fs ∧ S' = (gensL fs).reverse ++ S ∧ S'.Nodup)
 | [], k, low, S, S', hS => by
  unfold stackG fH gensL
  simp only [Prod.mk.injEq, true_and, List.filter_nil, List.map_nil, List.reverse_nil, List.nil_append]
  exact ⟨fun h => ⟨h.symm, h ▸ hS⟩, fun h => h.1.symm⟩
 | f :: fs, k, low, S, S', hS => by
  unfold stackG fH
  by_cases h1 : onF p s low f = true
  ·rw [if_pos h1, Ze h1]
   by_cases h2 : 0 ≤ f.gen
   ·rw [if_pos (by simpa using h2)]
    have eg : gensL (f :: fs) = f.gen :: gensL fs := by unfold gensL; rw [List.filter_cons_of_pos (by simpa using h2), List.map_cons]
    rw [eg, List.reverse_cons, List.append_assoc, List.singleton_append]
    by_cases h3 : gZ s k f = true ∧ f.gen ∉ S
    ·rw [if_pos h3, qO p s fs (k + 1) f.regs.length (f.gen :: S) S' (List.nodup_cons.2 ⟨h3.2, hS⟩)]
     exact ⟨fun h => ⟨⟨⟨h1, fun _ => h3.1⟩, h.1⟩, h.2⟩, fun h => ⟨h.1.2, h.2⟩⟩
    ·rw [if_neg h3]
     refine ⟨fun h => by simp at h, fun ⟨⟨⟨_, h5⟩, _⟩, h6, h7⟩ => absurd ⟨h5 h2, fun h8 => ?_⟩ h3⟩
     rw [h6] at h7
     have := (List.nodup_append.1 h7).2.1
     exact (List.nodup_cons.1 this).1 h8
   ·rw [if_neg (by simpa using h2)]
    have eg : gensL (f :: fs) = gensL fs := by unfold gensL; rw [List.filter_cons_of_neg (by simpa using h2)]
    rw [eg, qO p s fs (k + 1) f.regs.length S S' hS]
    exact ⟨fun h => ⟨⟨⟨h1, fun h => absurd h h2⟩, h.1⟩, h.2⟩, fun h => ⟨h.1.2, h.2⟩⟩
  ·rw [if_neg h1]
   exact ⟨fun h => by simp at h, fun h => absurd h.1.1.1 h1⟩
theorem Ai {α : Type} {l : List α} : l.reverse.Nodup ↔ l.Nodup := by
 unfold List.Nodup
 rw [List.pairwise_reverse]
 exact ⟨fun h => h.imp fun h => h.symm, fun h => h.imp fun h => h.symm⟩
def iM (ts : List aJ) : List Int := (ts.map fun t => gensL t.frames).flatten
def oL (p : aI) (s : aC) (t : aJ) : Prop := jF p s t = true ∧ fH p s 0 0 t.frames
theorem uQ (p : aI) (s : aC) (t : aJ) (S S' : List Int) (hS : S.Nodup) : threadG p s t S = (true, S') ↔ oL p s t ∧ S' = (gensL t.frames).reverse ++ S ∧ S'.Nodup := by
 unfold threadG oL
 by_cases h : jF p s t = true
 ·rw [if_pos h, qO p s _ _ _ _ _ hS]
  exact ⟨fun h1 => ⟨⟨h, h1.1⟩, h1.2⟩, fun h1 => ⟨h1.1.2, h1.2⟩⟩
 ·rw [if_neg h]
  exact ⟨fun h1 => by simp at h1, fun h1 => absurd h1.1.1 h⟩
theorem jJ (p : aI) (s : aC) : ∀ (ts : List aJ) (S S' : List Int), S.Nodup → (threadsG p s ts S = (true, S') ↔ (∀ t ∈ ts, oL p s t) ∧ S' = (iM ts).reverse ++ S ∧ S'.Nodup)
 | [], S, S', hS => by
  unfold threadsG iM
  simp only [Prod.mk.injEq, true_and, List.map_nil, List.flatten_nil, List.reverse_nil, List.nil_append]
  exact ⟨fun h => ⟨(fun _ h1 => by simp at h1), h.symm, h ▸ hS⟩, fun h => h.2.1.symm⟩
 | t :: ts, S, S', hS => by
  have eg : iM (t :: ts) = gensL t.frames ++ iM ts := rfl
  unfold threadsG
  rw [eg, List.reverse_append, List.append_assoc]
  by_cases h : (threadG p s t S).1 = true
  ·obtain ⟨h1, h2, h3⟩ := (uQ p s t S (threadG p s t S).2 hS).1 (by rw [← h])
   rw [if_pos h, jJ p s ts _ S' h3, h2]
   exact ⟨fun h4 => ⟨fun u hu => (List.mem_cons.1 hu).elim (fun e => e ▸ h1) (h4.1 u), h4.2⟩, fun h4 => ⟨fun u hu => h4.1 u (List.mem_cons_of_mem _ hu), h4.2⟩⟩
  ·rw [if_neg h]
   refine ⟨fun h1 => by simp at h1, fun ⟨h1, h2, h3⟩ => absurd ?_ h⟩
   rw [(uQ p s t S _ hS).2 ⟨h1 t (List.mem_cons_self ..), rfl, ?_⟩]
   rw [h2] at h3
   exact (List.nodup_append.1 h3).2.1
theorem qJ {p : aI} {s : aC} {ts : List aJ} : (threadsG p s ts []).1 = true ↔ (∀ t ∈ ts, oL p s t) ∧ (iM ts).Nodup := by
 constructor
 ·intro h
  have := (jJ p s ts [] (threadsG p s ts []).2 List.nodup_nil).1 (by rw [← h])
  refine ⟨this.1, ?_⟩
  have h2 := this.2.2
  rw [this.2.1, List.append_nil] at h2
  exact Ai.1 h2
 ·intro h
  rw [(jJ p s ts [] _ List.nodup_nil).2 ⟨h.1, rfl, by rw [List.append_nil]; exact Ai.2 h.2⟩]
theorem sZ {p : aI} {s : aC} {ts : List aJ} (h : (threadsG p s ts []).1 = true) (g : Int) : g ∈ (threadsG p s ts []).2 ↔ g ∈ iM ts := by
 have := (jJ p s ts [] (threadsG p s ts []).2 List.nodup_nil).1 (by rw [← h])
 rw [this.2.1, List.append_nil, List.mem_reverse]
noncomputable def xA (p : aI) (s : aC) : Bool :=
 decide (p.texts.length ≤ s.texts.length) && decide (s.texts.take p.texts.length = p.texts) && decide (0 ≤ s.steps ∧ s.steps ≤ 1000000000) && decide (0 ≤ s.asked ∧ s.asked ≤ 1000000000) && !decide (s.threads.length = 0) &&
 s.cells.all (dW p s) && (threadsG p s s.threads []).1 && (s.cells.zipIdx.all fun x => !(decide (x.1.kind = 5) && decide (x.1.num = 1)) || decide ((x.2 : Int) ∈ (threadsG p s s.threads []).2))
def uW (s : aC) : Bool := decide ((5 : Int) < (s.threads.length : Int)) || s.threads.any fun t => decide ((30 : Int) < (t.frames.length : Int))
noncomputable def cP (p : aI) (s : aC) : Int :=
 if checkF p ≠ 0 then checkF p else if fC s ≠ 0 then fC s else if uW s = true then 2 else if xA p s = true then 0 else 3
structure oP (p : aI) (s : aC) : Prop where
 prog : checkF p = 0
 heap : fC s = 0
 few : uW s = false
 texts : s.texts.take p.texts.length = p.texts
 steps : 0 ≤ s.steps ∧ s.steps ≤ 1000000000
 asked : 0 ≤ s.asked ∧ s.asked ≤ 1000000000
 any : s.threads.length ≠ 0
 cells : ∀ c ∈ s.cells, dW p s c = true
 threads : ∀ t ∈ s.threads, oL p s t
 gens : (iM s.threads).Nodup
 runs : ∀ (k : Nat) (c : aZ), s.cells[k]? = some c → c.kind = 5 → c.num = 1 → (k : Int) ∈ iM s.threads
theorem gL {p : aI} {s : aC} : cP p s = 0 ↔ oP p s := by
 unfold cP
 constructor
 ·intro h
  split at h
  ·rename_i h1; exact absurd h h1
  rename_i h1
  split at h
  ·rename_i h2; exact absurd h h2
  rename_i h2
  split at h
  ·cases h
  rename_i h3
  split at h
  ·rename_i h4
   unfold xA at h4
   simp only [Bool.and_eq_true, decide_eq_true_eq, Bool.not_eq_true', decide_eq_false_iff_not] at h4
   obtain ⟨⟨⟨⟨⟨⟨⟨_, a2⟩, a3⟩, a4⟩, a5⟩, a6⟩, a7⟩, a8⟩ := h4
   have a9 := qJ.1 a7
   refine ⟨Classical.not_not.1 h1, Classical.not_not.1 h2, by simpa using h3, a2, a3, a4, a5, List.all_eq_true.1 a6, a9.1, a9.2, fun k c hk k5 n1 => ?_⟩
   have := List.all_eq_true.1 a8 (c, k) (by rw [List.mem_zipIdx_iff_getElem?]; exact hk)
   simp only [k5, n1, decide_true, Bool.and_true, Bool.not_true, Bool.false_or, decide_eq_true_eq] at this
   exact (sZ a7 _).1 this
  ·cases h
 ·intro h
  have a7 : (threadsG p s s.threads []).1 = true := qJ.2 ⟨h.threads, h.gens⟩
  rw [if_neg (fun h1 => h1 h.prog), if_neg (fun h1 => h1 h.heap), h.few, if_neg (by simp), if_pos]
  unfold xA
  simp only [Bool.and_eq_true, decide_eq_true_eq, Bool.not_eq_true', decide_eq_false_iff_not]
  refine ⟨⟨⟨⟨⟨⟨⟨?_, h.texts⟩, h.steps⟩, h.asked⟩, h.any⟩, List.all_eq_true.2 h.cells⟩, a7⟩, List.all_eq_true.2 fun x hx => ?_⟩
  ·have := congrArg List.length h.texts
   rw [List.length_take] at this; omega
  ·obtain ⟨c, k⟩ := x
   rw [List.mem_zipIdx_iff_getElem?] at hx
   dsimp only
   cases hb : decide (c.kind = 5) && decide (c.num = 1) with
   | false => rfl
   | true =>
    simp only [Bool.and_eq_true, decide_eq_true_eq] at hb
    simp only [Bool.not_true, Bool.false_or, decide_eq_true_eq]
    exact (sZ a7 _).2 (h.runs k c hx hb.1 hb.2)
theorem FC.weak {C : Ctx} {f : Nat} {args : List AV} {rs0 rs1 : List (Nat × Nat × Res)} {r r' : AV} (h : FC C f args rs0 r rs1) (hw : ∀ (cur : Nat → Nat) (g : Gh) (w : World) (N : Nat → Prop) (v : Value), AR cur g w N r v → AR cur g w N r' v) : FC C f args rs0 r' rs1 :=
 ⟨fun e g w vs hok hs hvs => (h.run e g w vs hok hs hvs).mono fun _ _ ⟨v, g', h1, h2, h3, h4⟩ => ⟨v, g', h1, h2, hw _ _ _ _ _ h3, h4⟩⟩
inductive Lss : AV → AV → Prop
 | same (x : AV) : Lss x x
 | ln (sz : Nat) (rows : List (List RV)) : Lss (.r (.rs sz rows)) (.r (.ln rows.length))
 | nil : Lss NilS (.r (.ln 0))
 | agg (cs ds : List AV) (hn : ds.length = cs.length) (h : ∀ (j : Nat) (x y : AV), cs[j]? = some x → ds[j]? = some y → Lss x y) : Lss (.agg cs) (.agg ds)
 | tup (cs ds : List AV) (hn : ds.length = cs.length) (h : ∀ (j : Nat) (x y : AV), cs[j]? = some x → ds[j]? = some y → Lss x y) : Lss (.tup cs) (.tup ds)
theorem Lss.ok {x y : AV} (h : Lss x y) {cur : Nat → Nat} {g : Gh} {w : World} {N : Nat → Prop} : ∀ {v : Value}, AR cur g w N x v → AR cur g w N y v := by
 induction h with
 | same x => exact id
 | ln sz rows =>
  intro v hv
  cases hv with | r h => cases h with
   | nil => exact .r (.ln 0 none 0)
   | rs _ _ a cap => exact .r (.ln _ _ _)
 | nil => intro v hv; rw [bO hv]; exact .r (.ln 0 none 0)
 | agg cs ds hn _ ih =>
  intro v hv
  cases hv with
  | agg _ xs hs h =>
   refine .agg ds xs (by omega) fun j y u hy hu => ?_
   ·have hj := (List.getElem?_eq_some_iff.1 hy).1
    have hx : cs[j]? = some (cs[j]'(by omega)) := List.getElem?_eq_getElem (by omega)
    exact ih j _ y hx hy (h j _ u hx hu)
 | tup cs ds hn _ ih =>
  intro v hv
  cases hv with
  | tup _ xs hs h =>
   refine .tup ds xs (by omega) fun j y u hy hu => ?_
   ·have hj := (List.getElem?_eq_some_iff.1 hy).1
    have hx : cs[j]? = some (cs[j]'(by omega)) := List.getElem?_eq_getElem (by omega)
    exact ih j _ y hx hy (h j _ u hx hu)
abbrev Ka (c : aZ) : AV := .agg [Iv c.kind, Iv c.num, .r (.ln c.vals.length), .r (.ln c.frames.length)]
def xP (s : aC) (v : Int × Int) (q : Int) : aZ := bif refF s v q then s.cells.getD v.2.toNat cS else ⟨0, 0, [], []⟩
theorem aAj (s : aC) (v : Int × Int) (q : Int) : Lss (jI s v q) (Ka (xP s v q)) := by
 unfold jI xP
 cases refF s v q
 all_goals
  refine .agg _ _ rfl fun j x y hx hy => ?_
  match j with
  | 0 => simp at hx hy; subst hx; subst hy; exact .same _
  | 1 => simp at hx hy; subst hx; subst hy; exact .same _
  | 2 => simp at hx hy; subst hx; subst hy; first | exact .nil | (have := Lss.ln 2 ((s.cells.getD v.2.toNat cS).vals.map valR); rwa [List.length_map] at this)
  | 3 => simp at hx hy; subst hx; subst hy; first | exact .nil | (have := Lss.ln 8 ((s.cells.getD v.2.toNat cS).frames.map bM); rwa [List.length_map] at this)
  | j + 4 => simp at hx
theorem Tb (xs ys zs ca sh tx th en sd tr wy : List (List RV)) (aq sq : Int) (k n q : Int) (h : ((xs = (fnsOf xs).map fnR ∧ ys = (valsOf ys).map valR ∧ zs = (strsOf zs).map strR) ∧ ca = (cellsOf ca).map bA ∧ sh = (valsOf sh).map valR ∧ tx = (strsOf tx).map strR ∧ th = (threadsOf th).map aL ∧ en = (aH en).map endR ∧ sd = (valsOf sd).map valR) ∧ (tr = (fnsOf xs).map fun f => [outR f]) ∧ (wy = (fnsOf xs).map fun f => [gU f])) : FC Cx 175 [.r (.rp [.rs 5 xs, .rs 2 ys, .rs 1 zs, .rp [.rs 4 ca, .rs 2 sh, .rs 1 tx, .rs 5 th, .rs 3 en, .rs 2 sd, .v (.int .i64 aq), .v (.int .i64 sq)], .rs 1 tr, .rs 1 wy, .un]), VV k n, Iv q] [] (.tup [Ka (xP ⟨cellsOf ca, valsOf sh, strsOf tx, threadsOf th, aH en, valsOf sd, aq, sq⟩ (k, n) q), Bv (refF ⟨cellsOf ca, valsOf sh, strsOf tx, threadsOf th, aH en, valsOf sd, aq, sq⟩ (k, n) q)]) [] := by
 refine (Gg xs ys zs ca sh tx th en sd tr wy aq sq k n q h).weak fun cur g w N v hv => (Lss.tup [jI ⟨cellsOf ca, valsOf sh, strsOf tx, threadsOf th, aH en, valsOf sd, aq, sq⟩ (k, n) q, Bv (refF ⟨cellsOf ca, valsOf sh, strsOf tx, threadsOf th, aH en, valsOf sd, aq, sq⟩ (k, n) q)] [Ka (xP ⟨cellsOf ca, valsOf sh, strsOf tx, threadsOf th, aH en, valsOf sd, aq, sq⟩ (k, n) q), Bv (refF ⟨cellsOf ca, valsOf sh, strsOf tx, threadsOf th, aH en, valsOf sd, aq, sq⟩ (k, n) q)] rfl fun j x y hx hy => ?_).ok hv
 match j with
 | 0 => simp at hx hy; subst hx; subst hy; exact aAj _ _ _
 | 1 => simp at hx hy; subst hx; subst hy; exact .same _
 | j + 2 => simp at hx
def pI (args : List AV) (K : AV → Prop) : Prop := match args with
 | [.r (.rp [.rs 5 xs, .rs 2 ys, .rs 1 zs, .rp [.rs 4 ca, .rs 2 sh, .rs 1 tx, .rs 5 th, .rs 3 en, .rs 2 sd, .v (.int .i64 aq), .v (.int .i64 sq)], .rs 1 tr, .rs 1 wy, .un]), .agg [.r (.v (.int .i64 k)), .r (.v (.int .i64 n))], .r (.v (.int .i64 q))] => (((xs = (fnsOf xs).map fnR ∧ ys = (valsOf ys).map valR ∧ zs = (strsOf zs).map strR) ∧ ca = (cellsOf ca).map bA ∧ sh = (valsOf sh).map valR ∧ tx = (strsOf tx).map strR ∧ th = (threadsOf th).map aL ∧ en = (aH en).map endR ∧ sd = (valsOf sd).map valR) ∧ (tr = (fnsOf xs).map fun f => [outR f]) ∧ (wy = (fnsOf xs).map fun f => [gU f])) ∧ K (.tup [Ka (xP ⟨cellsOf ca, valsOf sh, strsOf tx, threadsOf th, aH en, valsOf sd, aq, sq⟩ (k, n) q), Bv (refF ⟨cellsOf ca, valsOf sh, strsOf tx, threadsOf th, aH en, valsOf sd, aq, sq⟩ (k, n) q)])
 | _ => False
noncomputable abbrev zC : Ct Cx := .pure 175 pI fun args K h => by
 unfold pI at h; split at h; exact ⟨_, aB (Tb _ _ _ _ _ _ _ _ _ _ _ _ _ _ _ _ h.1) aBt rfl rfl, h.2⟩; exact h.elim
@[go_sem] theorem Xo : type_of% @pI.eq_def := @pI.eq_def
abbrev lkC (p : aI) (s : aC) : List AV := [.r (.rs 5 (p.fns.map fnR)), .r (.rs 2 (p.consts.map valR)), .r (.rs 1 (p.texts.map strR)), .r (.rp (bR s)), .r (.rs 1 (p.fns.map fun f => [outR f])), .r (.rs 1 (p.fns.map fun f => [gU f])), .os 1 0]
noncomputable abbrev lkRs (p : aI) (s : aC) (S : List Int) : List (Nat × Nat × Res) := [(0, 0, .bx (lkC p s)), (1, 0, .mp (dG S) S.length)]
theorem aDi (p : aI) (s : aC) (S : List Int) (k : Nat) : bE (domR (lkRs p s S)) (aA k (lkRs p s S)).2 := by
 have e : aA k (lkRs p s S) = if k = 0 then (0, .bx (lkC p s)) else if k = 1 then (0, .mp (dG S) S.length) else (0, .gone) := rfl
 rw [e]
 split
 ·rfl
 ·split <;> trivial
theorem Zc (p : aI) (s : aC) (fs : List aK) (S : List Int) (hp : Pgo p) (hn : 0 < p.fns.length) (hfs : ∀ f ∈ fs, Gwf f) (hl : fs.length ≤ 9223372036854775807) (hS : ∀ g ∈ S, WI g) :
  FC Cx 176 [.os 0 0, bL fs] (lkRs p s S) (Bv (stackG p s 0 0 fs S).1) (lkRs p s (stackG p s 0 0 fs S).2) := by
 have l0 : (p.fns.map fnR).length = p.fns.length := List.length_map ..
 have l1 : (fs.map bM).length = fs.length := List.length_map ..
 refine gY [oW, dD, zC]  Tryz.func176 rfl Tryz.ntmps176 (by simp) Tryz.results176 rfl (aDi _ _ _) ?_
 refine rnst ?_
 (any_goals refine go gD 0 ?_)
 refine dB (fun x : Nat × List Int × Nat => x.1 ≤ fs.length ∧ (∀ g ∈ x.2.1, WI g) ∧ stackG p s 0 0 fs S = stackG p s x.1 (qH fs x.1) (fs.drop x.1) x.2.1) (fun x => ⟨108, [(0, .os 0 0), (1, bL fs), (11, bL fs), (12, Iv fs.length), (13, Iv x.1)], [(0, 0, .bx (lkC p s)), (1, 0, .mp (dG x.2.1) x.2.1.length), (6, x.2.2, .gone), (9, x.2.2, .gone)]⟩) (fun x => fs.length - x.1) (0, S, 0) ⟨Nat.zero_le _, hS, rfl⟩ ?_
 rintro ⟨i, S', u⟩ ⟨hi, hS', hG⟩
 dsimp only at hi hS' hG ⊢
 by_cases hlt : i < fs.length
 case neg =>
  obtain rfl : i = fs.length := by omega
  have e1 : decide ((fs.length : Int) < (fs.length : Int)) = false := by rw [decide_eq_false_iff_not]; omega
  rw [List.drop_length] at hG
  have hG' : stackG p s 0 0 fs S = (true, S') := hG
  rw [hG']
  clear hG hG'
  (any_goals refine go gD 0 ?_)
  all_goals (try simp only [go_sem])
 have e1 : decide ((i : Int) < (fs.length : Int)) = true := by rw [decide_eq_true_eq]; omega
 have t1 : Int.toNat (i : Int) = i := by omega
 have w1 : IntKind.i64.wrap ((i : Int) + 1) = ((i + 1 : Nat) : Int) := by rw [aS] <;> omega
 obtain ⟨f, hf⟩ : ∃ v, fs[i]? = some v := ⟨fs[i], List.getElem?_eq_getElem hlt⟩
 have hg := aG bM hf ([] : List RV)
 have hwf := hfs f (List.mem_of_getElem? hf)
 have hd : fs.drop i = f :: fs.drop (i + 1) := by rw [← List.getElem_cons_drop hlt]; congr 1; exact (List.getElem?_eq_some_iff.1 hf).2
 rw [hd] at hG
 have h60 := hp.fns
 have wn : IntKind.i64.wrap ((p.fns.length : Int) - 1) = (p.fns.length : Int) - 1 := by rw [aS] <;> omega
 obtain ⟨fn, pc, tov, gen, ⟨sk, sn⟩, regs, tries⟩ := f
 have lr : (regs.map valR).length = regs.length := List.length_map ..
 obtain ⟨F, hF⟩ : ∃ F, p.fns[(if (if (p.fns.length : Int) - 1 < fn then (p.fns.length : Int) - 1 else fn) > 0 then if (p.fns.length : Int) - 1 < fn then (p.fns.length : Int) - 1 else fn else 0).toNat]? = some F :=
  ⟨p.fns[(if (if (p.fns.length : Int) - 1 < fn then (p.fns.length : Int) - 1 else fn) > 0 then if (p.fns.length : Int) - 1 < fn then (p.fns.length : Int) - 1 else fn else 0).toNat]'(by omega), List.getElem?_eq_getElem _⟩
 have gF := aG fnR hF ([] : List RV)
 have hFf : 0 ≤ fn ∧ fn < (p.fns.length : Int) → p.fns.getD fn.toNat fn0 = F := fun h => by
  have e : (if (if (p.fns.length : Int) - 1 < fn then (p.fns.length : Int) - 1 else fn) > 0 then if (p.fns.length : Int) - 1 < fn then (p.fns.length : Int) - 1 else fn else 0).toNat = fn.toNat := by
   congr 1; omega
  rw [e] at hF
  rw [List.getD_eq_getElem?_getD, hF]; rfl
 have eR : Int.toNat ((i : Int) - 1) = i - 1 := by omega
 cases hfr : cR p s ⟨fn, pc, tov, gen, (sk, sn), regs, tries⟩ with
 | false =>
  have hG' : stackG p s 0 0 fs S = (false, S') := by
   rw [hG]; unfold stackG; rw [if_neg]; unfold onF; rw [hfr]; simp
  rw [hG']
  clear hG hG' hFf hF
  by_cases i0 : i = 0
  ·have e0 : decide ((0 : Int) < (i : Int)) = false := by rw [decide_eq_false_iff_not]; omega
   clear i0
   (any_goals refine go gD 0 ?_)
   all_goals (try simp only [go_sem])
  ·have e0 : decide ((0 : Int) < (i : Int)) = true := by rw [decide_eq_true_eq]; omega
   have w2 : IntKind.i64.wrap ((i : Int) - 1) = (i : Int) - 1 := by rw [aS] <;> omega
   obtain ⟨f0, hf0⟩ : ∃ v, fs[i - 1]? = some v := ⟨fs[i - 1], List.getElem?_eq_getElem (by omega)⟩
   have hg0 := aG bM hf0 ([] : List RV)
   have lr0 : (f0.regs.map valR).length = f0.regs.length := List.length_map ..
   have i1 : 1 ≤ i := by omega
   clear i0
   (any_goals refine go gD 0 ?_)
   all_goals (try simp only [go_sem])
 | true =>
 obtain ⟨⟨f1, f2⟩, _, _⟩ := sD hfr
 dsimp only at f1 f2
 have hFn := hFf ⟨f1, f2⟩
 obtain ⟨b4, h4⟩ : ∃ b, F.gen = b := ⟨_, rfl⟩
 obtain ⟨b1, h1⟩ : ∃ b, decide (-1 ≤ tov ∧ tov ≤ qH fs i - 1) = b := ⟨_, rfl⟩
 obtain ⟨b2, h2⟩ : ∃ b, decide (0 ≤ gen) = b := ⟨_, rfl⟩
 obtain ⟨b3, h3⟩ : ∃ b, decide (gen < -1) = b := ⟨_, rfl⟩
 have hon : onF p s (qH fs i) ⟨fn, pc, tov, gen, (sk, sn), regs, tries⟩ = (b1 && (b4 == b2) && !b3) := by
  unfold onF; dsimp only; rw [hfr, h1, h2, h3, hFn, h4, Bool.true_and]
 have hst : stackG p s i (qH fs i) (⟨fn, pc, tov, gen, (sk, sn), regs, tries⟩ :: fs.drop (i + 1)) S' =
   if (b1 && (b4 == b2) && !b3) = true then
    if b4 = true then
     if gZ s i ⟨fn, pc, tov, gen, (sk, sn), regs, tries⟩ = true ∧ gen ∉ S' then stackG p s (i + 1) regs.length (fs.drop (i + 1)) (gen :: S') else (false, S')
    else stackG p s (i + 1) regs.length (fs.drop (i + 1)) S'
   else (false, S') := by
  rw [show stackG p s i (qH fs i) (⟨fn, pc, tov, gen, (sk, sn), regs, tries⟩ :: fs.drop (i + 1)) S' = if onF p s (qH fs i) ⟨fn, pc, tov, gen, (sk, sn), regs, tries⟩ = true then
   if (p.fns.getD fn.toNat fn0).gen = true then
    if gZ s i ⟨fn, pc, tov, gen, (sk, sn), regs, tries⟩ = true ∧ gen ∉ S' then stackG p s (i + 1) regs.length (fs.drop (i + 1)) (gen :: S') else (false, S')
   else stackG p s (i + 1) regs.length (fs.drop (i + 1)) S'
   else (false, S') from rfl, hon, hFn, h4]
 have hnx : qH fs (i + 1) = regs.length := by
  unfold qH
  rw [if_neg (by omega), Nat.add_sub_cancel, List.getD_eq_getElem?_getD, hf]; rfl
 rw [hst] at hG
 clear hst hon hFf hF hFn hd
 by_cases i0 : i = 0
 ·have e0 : decide ((0 : Int) < (i : Int)) = false := by rw [decide_eq_false_iff_not]; omega
  have e2 : decide ((i : Int) = 0) = true := by rw [decide_eq_true_eq]; omega
  have hgo : gZ s i ⟨fn, pc, tov, gen, (sk, sn), regs, tries⟩ = false := by unfold gZ; rw [decide_eq_true i0]; rfl
  have h1' : decide (-1 ≤ tov ∧ tov ≤ -1) = b1 := by rw [← h1]; unfold qH; rw [if_pos i0]; rfl
  clear i0 h1
  cases b1 with
  | false =>
   rw [if_neg (by simp)] at hG
   rw [hG]
   clear hG hnx
   (any_goals refine go gD 0 ?_)
   all_goals (try simp only [go_sem])
  | true =>
  cases b4 <;> cases b2
  ·cases b3
   ·replace hG := (hG.trans (if_pos rfl)).trans (if_neg (by simp))
    (any_goals refine go gD 0 ?_)
    refine ⟨(i + 1, S', u + 9), ⟨by dsimp only; omega, hS', by dsimp only; rw [hG, hnx]⟩, by dsimp only; omega, ?_⟩
    dsimp only
    exact bQ
   ·rw [if_neg (by simp)] at hG
    rw [hG]
    clear hG hnx
    (any_goals refine go gD 0 ?_)
    all_goals (try simp only [go_sem])
  ·rw [if_neg (by simp)] at hG
   rw [hG]
   clear hG hnx
   (any_goals refine go gD 0 ?_)
   all_goals (try simp only [go_sem])
  ·rw [if_neg (by simp)] at hG
   rw [hG]
   clear hG hnx
   (any_goals refine go gD 0 ?_)
   all_goals (try simp only [go_sem])
  ·cases b3
   ·replace hG := (hG.trans (if_pos rfl)).trans (if_pos rfl)
    have hM : nO Tryz.prog 109 (dG S') (.int .i64 gen) := sT hS' hwf.gen
    rw [if_neg (fun h => by rw [hgo] at h; cases h.1)] at hG
    clear hgo
    rw [hG]
    clear hG hnx
    (any_goals refine go gD 0 ?_)
    all_goals (try simp only [go_sem])
   ·rw [if_neg (by simp)] at hG
    rw [hG]
    clear hG hnx
    (any_goals refine go gD 0 ?_)
    all_goals (try simp only [go_sem])
 ·have e0 : decide ((0 : Int) < (i : Int)) = true := by rw [decide_eq_true_eq]; omega
  have e2 : decide ((i : Int) = 0) = false := by rw [decide_eq_false_iff_not]; omega
  have w2 : IntKind.i64.wrap ((i : Int) - 1) = (i : Int) - 1 := by rw [aS] <;> omega
  obtain ⟨f0, hf0⟩ : ∃ v, fs[i - 1]? = some v := ⟨fs[i - 1], List.getElem?_eq_getElem (by omega)⟩
  have hg0 := aG bM hf0 ([] : List RV)
  have lr0 : (f0.regs.map valR).length = f0.regs.length := List.length_map ..
  have hwf0 := (hfs f0 (List.mem_of_getElem? hf0)).regs
  have w3 : IntKind.i64.wrap ((f0.regs.length : Int) - 1) = (f0.regs.length : Int) - 1 := by rw [aS] <;> omega
  have i1 : 1 ≤ i := by omega
  have hgo : gZ s i ⟨fn, pc, tov, gen, (sk, sn), regs, tries⟩ = (refF s (5, gen) 5 && decide ((s.cells.getD gen.toNat cS).num = 1)) := by unfold gZ; rw [decide_eq_false i0]; rfl
  have h1' : decide (-1 ≤ tov ∧ tov ≤ (f0.regs.length : Int) - 1) = b1 := by rw [← h1]; unfold qH; rw [if_neg i0, List.getD_eq_getElem?_getD, hf0]; rfl
  clear i0 h1
  cases b1 with
  | false =>
   rw [if_neg (by simp)] at hG
   rw [hG]
   clear hG hnx
   (any_goals refine go gD 0 ?_)
   all_goals (try simp only [go_sem])
  | true =>
  cases b4 <;> cases b2
  ·cases b3
   ·replace hG := (hG.trans (if_pos rfl)).trans (if_neg (by simp))
    (any_goals refine go gD 0 ?_)
    refine ⟨(i + 1, S', u + 9), ⟨by dsimp only; omega, hS', by dsimp only; rw [hG, hnx]⟩, by dsimp only; omega, ?_⟩
    dsimp only
    exact bQ
   ·rw [if_neg (by simp)] at hG
    rw [hG]
    clear hG hnx
    (any_goals refine go gD 0 ?_)
    all_goals (try simp only [go_sem])
  ·rw [if_neg (by simp)] at hG
   rw [hG]
   clear hG hnx
   (any_goals refine go gD 0 ?_)
   all_goals (try simp only [go_sem])
  ·rw [if_neg (by simp)] at hG
   rw [hG]
   clear hG hnx
   (any_goals refine go gD 0 ?_)
   all_goals (try simp only [go_sem])
  ·cases b3
   ·replace hG := (hG.trans (if_pos rfl)).trans (if_pos rfl)
    have hM : nO Tryz.prog 109 (dG S') (.int .i64 gen) := sT hS' hwf.gen
    cases hr : refF s (5, gen) 5 with
    | false =>
     rw [if_neg (fun h => by rw [hgo, hr] at h; simp at h)] at hG
     clear hgo
     rw [hG]
     clear hG hnx
     (any_goals refine go gD 0 ?_)
     all_goals (try simp only [go_sem])
    | true =>
    have hY : xP s (5, gen) 5 = s.cells.getD gen.toNat cS := by unfold xP; rw [hr]; rfl
    generalize s.cells.getD gen.toNat cS = c at *
    cases hnum : decide (c.num = 1) with
    | false =>
     rw [if_neg (fun h => by rw [hgo, hnum] at h; simp at h)] at hG
     clear hgo
     rw [hG]
     clear hG hnx
     (any_goals refine go gD 0 ?_)
     all_goals (try simp only [go_sem])
    | true =>
    by_cases hin : gen ∈ S'
    ·have d6 := uB hin
     rw [if_neg (fun h => h.2 hin)] at hG
     clear hgo hin
     rw [hG]
     clear hG hnx
     (any_goals refine go gD 0 ?_)
     all_goals (try simp only [go_sem])
    ·have d6 := wX hin
     have d7 := zJ S' gen
     have d8 : updN (dG S') (.int .i64 gen) S'.length = S'.length + 1 := by unfold updN; rw [d6]
     have hS2 : ∀ g ∈ gen :: S', WI g := fun g hg => (List.mem_cons.1 hg).elim (fun e => e ▸ hwf.gen) (hS' g)
     rw [if_pos ⟨by rw [hgo, hr, hnum]; rfl, hin⟩] at hG
     clear hgo hin
     (any_goals refine go gD 0 ?_)
     refine ⟨(i + 1, gen :: S', u + 9), ⟨by dsimp only; omega, hS2, by dsimp only; rw [hG, hnx]⟩, by dsimp only; omega, ?_⟩
     dsimp only
     exact bQ
   ·rw [if_neg (by simp)] at hG
    rw [hG]
    clear hG hnx
    (any_goals refine go gD 0 ?_)
    all_goals (try simp only [go_sem])
theorem lk_Q {p : aI} {s : aC} {S S2 : List Int} {f : Nat} {args : List AV} {r : AV} (h : FC Cx f args (lkRs p s S) r (lkRs p s S2)) (ha : aP (fun k => k == 0 || k == 1) args = true) (hr : aW bD r = true) (v0 v1 a b : Nat) (hab : (a == b) = false) :
  QOk (C := Cx) f [(0, a, v0), (1, b, v1)] args (lkRs p s S) r (lkRs p s S2) := by
 have hd : ∀ S, domR (lkRs p s S) = fun k => k == 0 || k == 1 := fun S => by
  funext k
  unfold domR
  rw [show aA k (lkRs p s S) = if k = 0 then (0, .bx (lkC p s)) else if k = 1 then (0, .mp (dG S) S.length) else (0, .gone) from rfl]
  by_cases h0 : k = 0
  ·subst h0; rfl
  ·by_cases h1 : k = 1
   ·subst h1; rfl
   ·rw [if_neg h0, if_neg h1]; simp [h0, h1]
 have hab' : a ≠ b := by simpa using hab
 refine ⟨h, rfl, by simp [ndB, memN, hab'], rfl, by rw [hd]; exact ha, lI hr, fun q hq => ?_, fun q hq => ?_⟩
 ·rw [hd]
  rcases List.mem_cons.1 hq with rfl | hq
  ·rfl
  ·obtain rfl := List.mem_singleton.1 hq; trivial
 ·rw [hd]
  rcases List.mem_cons.1 hq with rfl | hq
  ·rfl
  ·obtain rfl := List.mem_singleton.1 hq; trivial
theorem Dk (p : aI) (s : aC) (frames : List aK) (state on vk vn : Int) : jF p s ⟨frames, state, on, (vk, vn)⟩ = (((decide (state = 3) || decide (state = 4)) == decide ((frames.length : Int) = 0)) && ((decide (state = 3) || decide (state = 4)) || (decide (vk = 0) && decide (vn = 0))) && fitsF s (vk, vn) && decide (0 ≤ state ∧ state ≤ 4) &&
 (if state = 1 then refF s (5, on) 6 else if state = 2 then decide (0 ≤ on ∧ on ≤ (s.threads.length : Int) - 1) else decide (on = 0))) := by
 unfold jF
 dsimp only
 rw [Bool.decide_or, show decide (frames.length = 0) = decide ((frames.length : Int) = 0) by rw [decide_eq_decide]; omega, show decide ((vk, vn) = ((0, 0) : Int × Int)) = (decide (vk = 0) && decide (vn = 0)) by rw [← Bool.decide_and, decide_eq_decide, Prod.mk.injEq]]
theorem Pi (p : aI) (s : aC) (t : aJ) (S : List Int) (hp : Pgo p) (hn : 0 < p.fns.length) (hfs : ∀ f ∈ t.frames, Gwf f) (hl : t.frames.length ≤ 9223372036854775807) (hl2 : s.threads.length ≤ 9223372036854775807) (hS : ∀ g ∈ S, WI g) :
    FC Cx 127 [.os 0 0, cG t] (lkRs p s S) (Bv (threadG p s t S).1) (lkRs p s (threadG p s t S).2) := by
  have l0 : (t.frames.map bM).length = t.frames.length := List.length_map ..
  have l1 : (s.threads.map aL).length = s.threads.length := List.length_map ..
  have hq := lk_Q (Zc p s t.frames S hp hn hfs hl hS) rfl rfl 0 0 0 1 rfl
  have en : aD Cx.P 176 := aMm
  obtain ⟨frames, state, on, ⟨vk, vn⟩⟩ := t
  dsimp only at *
  have w1 : IntKind.i64.wrap ((s.threads.length : Int) - 1) = (s.threads.length : Int) - 1 := by rw [aS] <;> omega
  refine gY [gW, dD, zC, ctQ 176 [(0, 0, 0), (1, 1, 0)] [.os 0 0, bL frames] (lkRs p s S) (Bv (stackG p s 0 0 frames S).1) (lkRs p s (stackG p s 0 0 frames S).2) en hq]  Tryz.func127 rfl Tryz.ntmps127 (by simp) Tryz.results127 rfl (aDi _ _ _) ?_
  refine rnst ?_
  (any_goals refine go aQb 0 ?_)
  repeat' (first | (refine Br.go (fun h h' => ?_) (fun h h' => ?_)) | (refine Br.mk (fun h => ?_) (fun h => ?_)))
  all_goals (try simp only [go_sem])
  all_goals clear hq en hS hl hfs l0 l1 w1 hl2 hp hn
  all_goals
    first
    | (have hH : jF p s ⟨frames, state, on, (vk, vn)⟩ = false := by
        rw [Dk]
        generalize (decide (state = 3) || decide (state = 4)) = o at *
        generalize decide ((frames.length : Int) = 0) = e at *
        generalize (decide (vk = 0) && decide (vn = 0)) = v at *
        generalize fitsF s (vk, vn) = f at *
        generalize decide (0 ≤ state ∧ state ≤ 4) = w at *
        cases o <;> cases e <;> cases v <;> cases f <;> cases w <;> (first | (refine False.elim ?_; simp at *; done) | (simp [*]; done))
       have hT : threadG p s ⟨frames, state, on, (vk, vn)⟩ S = (false, S) := by unfold threadG; rw [hH]; rfl
       rw [hT]
       exact ⟨rfl, rfl⟩)
    | (have hH : jF p s ⟨frames, state, on, (vk, vn)⟩ = true := by
        rw [Dk]
        generalize (decide (state = 3) || decide (state = 4)) = o at *
        generalize decide ((frames.length : Int) = 0) = e at *
        generalize (decide (vk = 0) && decide (vn = 0)) = v at *
        generalize fitsF s (vk, vn) = f at *
        generalize decide (0 ≤ state ∧ state ≤ 4) = w at *
        cases o <;> cases e <;> cases v <;> cases f <;> cases w <;> (first | (refine False.elim ?_; simp at *; done) | (simp [*]; done))
       have hT : threadG p s ⟨frames, state, on, (vk, vn)⟩ S = stackG p s 0 0 frames S := by unfold threadG; rw [if_pos hH]
       rw [hT]
       exact ⟨rfl, rfl⟩)
    | skip
theorem uG {p : aI} {s : aC} : ∀ {fs : List aK} {k : Nat} {low : Int} {S : List Int}, (∀ f ∈ fs, Gwf f) → (∀ g ∈ S, WI g) → ∀ g ∈ (stackG p s k low fs S).2, WI g
 | [], _, _, _, _, hS => hS
 | f :: fs, k, low, S, hf, hS => by
  have h1 := fun g hg => hf g (List.mem_cons_of_mem f hg)
  unfold stackG
  split
  ·split
   ·split
    ·exact uG h1 fun g hg => (List.mem_cons.1 hg).elim (fun e => e ▸ (hf f (List.mem_cons_self ..)).gen) (hS g)
    ·exact hS
   ·exact uG h1 hS
  ·exact hS
theorem rD {p : aI} {s : aC} {t : aJ} {S : List Int} (hf : ∀ f ∈ t.frames, Gwf f) (hS : ∀ g ∈ S, WI g) : ∀ g ∈ (threadG p s t S).2, WI g := by
 unfold threadG
 split
 ·exact uG hf hS
 ·exact hS
noncomputable def thrI (p : aI) (s : aC) : Nat → List aJ → List Int → Int × List Int
 | _, [], S => (-1, S)
 | k, t :: ts, S => if (threadG p s t S).1 = true then thrI p s (k + 1) ts (threadG p s t S).2 else ((k : Int), (threadG p s t S).2)
theorem Sa (p : aI) (s : aC) : ∀ (ts : List aJ) (k : Nat) (S : List Int), decide (0 ≤ (thrI p s k ts S).1) = !(threadsG p s ts S).1 ∧ (thrI p s k ts S).2 = (threadsG p s ts S).2
 | [], _, _ => ⟨rfl, rfl⟩
 | t :: ts, k, S => by
  unfold thrI threadsG
  by_cases h : (threadG p s t S).1 = true
  ·rw [if_pos h, if_pos h]; exact Sa p s ts _ _
  ·rw [if_neg h, if_neg h]
   exact ⟨by simp, rfl⟩
noncomputable abbrev lkRb (p : aI) (s : aC) (S : List Int) : List (Nat × Nat × Res) := [(0, 0, .bx (lkC p s)), (1, 0, .mp (dG S) S.length), (10, 0, .bx [.os 0 0])]
theorem Lk (p : aI) (s : aC) (S : List Int) (k : Nat) : aA k (lkRb p s S) = if k = 0 then (0, .bx (lkC p s)) else if k = 1 then (0, .mp (dG S) S.length) else if k = 10 then (0, .bx [.os 0 0]) else (0, .gone) := rfl
theorem Il (p : aI) (s : aC) (S : List Int) (k : Nat) : bE (domR (lkRb p s S)) (aA k (lkRb p s S)).2 := by
 rw [Lk]
 split
 ·rfl
 ·split
  ·trivial
  ·split
   ·rfl
   ·trivial
theorem Tj {p : aI} {s : aC} {S S2 : List Int} {f : Nat} {args : List AV} {r : AV} (h : FC Cx f args (lkRb p s S) r (lkRb p s S2)) (ha : aP (fun k => k == 0 || k == 1 || k == 10) args = true) (hr : aW bD r = true) (v0 v1 v2 a b c : Nat) (hab : (a == b || a == c || b == c) = false) :
  QOk (C := Cx) f [(0, a, v0), (1, b, v1), (10, c, v2)] args (lkRb p s S) r (lkRb p s S2) := by
 have hd : ∀ S, domR (lkRb p s S) = fun k => k == 0 || k == 1 || k == 10 := fun S => by
  funext k
  unfold domR
  rw [Lk]
  by_cases h0 : k = 0
  ·subst h0; rfl
  ·by_cases h1 : k = 1
   ·subst h1; rfl
   ·by_cases h2 : k = 10
    ·subst h2; rfl
    ·rw [if_neg h0, if_neg h1, if_neg h2]; simp [h0, h1, h2]
 have hab' : (a ≠ b ∧ a ≠ c) ∧ b ≠ c := by simpa using hab
 have hi : ∀ S, ∀ q ∈ lkRb p s S, bE (fun k => k == 0 || k == 1 || k == 10) q.2.2 := fun S q hq => by
  rcases List.mem_cons.1 hq with rfl | hq
  ·rfl
  ·rcases List.mem_cons.1 hq with rfl | hq
   ·trivial
   ·obtain rfl := List.mem_singleton.1 hq; rfl
 exact ⟨h, rfl, by simp [ndB, memN, hab'], rfl, by rw [hd]; exact ha, lI hr, by rw [hd]; exact hi S, by rw [hd]; exact hi S2⟩
theorem Ps (p : aI) (s : aC) (t : aJ) (S : List Int) (hp : Pgo p) (hn : 0 < p.fns.length) (hfs : ∀ f ∈ t.frames, Gwf f) (hl : t.frames.length ≤ 9223372036854775807) (hl2 : s.threads.length ≤ 9223372036854775807) (hS : ∀ g ∈ S, WI g) :
  FC Cx 126 [cG t, .os 10 0] (lkRb p s S) (Bv (!(threadG p s t S).1)) (lkRb p s (threadG p s t S).2) := by
 have hq := lk_Q (Pi p s t S hp hn hfs hl hl2 hS) rfl rfl 0 0 0 1 rfl
 have en : aD Cx.P 127 := aJy
 refine gY [ctQ 127 [(0, 0, 0), (1, 1, 0)] [.os 0 0, cG t] (lkRs p s S) (Bv (threadG p s t S).1) (lkRs p s (threadG p s t S).2) en hq]  Tryz.func126 rfl Tryz.ntmps126 (by simp) Tryz.results126 rfl (Il _ _ _) ?_
 refine rnst ?_
 (any_goals refine go aL8 0 ?_)
 all_goals (try simp only [go_sem])
theorem Sp (p : aI) (s : aC) (ts : List aJ) (S : List Int) (hp : Pgo p) (hn : 0 < p.fns.length) (hfs : ∀ t ∈ ts, t.frames.length ≤ 9223372036854775807 ∧ ∀ f ∈ t.frames, Gwf f) (hl : ts.length ≤ 9223372036854775807) (hl2 : s.threads.length ≤ 9223372036854775807) (hS : ∀ g ∈ S, WI g) :
  FC Cx 122 [bJ ts, .cl 126 [.os 10 0]] (lkRb p s S) (Iv (thrI p s 0 ts S).1) (lkRb p s (thrI p s 0 ts S).2) := by
 have l1 : (ts.map aL).length = ts.length := List.length_map ..
 have en : aD Cx.P 126 := aKp
 refine gY []  Tryz.func122 rfl Tryz.ntmps122 (by simp) Tryz.results122 rfl (Il _ _ _) ?_
 refine rnst ?_
 (any_goals refine go uZ 0 ?_)
 refine dB (fun x : Nat × List Int => x.1 ≤ ts.length ∧ (∀ g ∈ x.2, WI g) ∧ thrI p s 0 ts S = thrI p s x.1 (ts.drop x.1) x.2) (fun x => ⟨19, [(0, bJ ts), (1, .cl 126 [.os 10 0]), (7, Iv ts.length), (8, Iv x.1)], lkRb p s x.2⟩) (fun x => ts.length - x.1) (0, S) ⟨Nat.zero_le _, hS, rfl⟩ ?_
 rintro ⟨i, S'⟩ ⟨hi, hS', hG⟩
 dsimp only at hi hS' hG ⊢
 by_cases hlt : i < ts.length
 case neg =>
  obtain rfl : i = ts.length := by omega
  have e1 : decide ((ts.length : Int) < (ts.length : Int)) = false := by rw [decide_eq_false_iff_not]; omega
  rw [List.drop_length] at hG
  have hG' : thrI p s 0 ts S = (-1, S') := hG
  rw [hG']
  clear hG hG'
  (any_goals refine go uZ 0 ?_)
  all_goals (try simp only [go_sem])
 have e1 : decide ((i : Int) < (ts.length : Int)) = true := by rw [decide_eq_true_eq]; omega
 have t1 : Int.toNat (i : Int) = i := by omega
 have w1 : IntKind.i64.wrap ((i : Int) + 1) = ((i + 1 : Nat) : Int) := by rw [aS] <;> omega
 obtain ⟨t, ht⟩ : ∃ v, ts[i]? = some v := ⟨ts[i], List.getElem?_eq_getElem hlt⟩
 have hg := aG aL ht ([] : List RV)
 have hwf := hfs t (List.mem_of_getElem? ht)
 have hd : ts.drop i = t :: ts.drop (i + 1) := by rw [← List.getElem_cons_drop hlt]; congr 1; exact (List.getElem?_eq_some_iff.1 ht).2
 rw [hd] at hG
 have hq := Tj (Ps p s t S' hp hn hwf.2 hwf.1 hl2 hS') rfl rfl 0 0 0 0 1 10 rfl
 have hS2 := rD (p := p) (s := s) hwf.2 hS'
 refine Rn_T [ctQ 126 [(0, 0, 0), (1, 1, 0), (10, 10, 0)] [cG t, .os 10 0] (lkRb p s S') (Bv (!(threadG p s t S').1)) (lkRb p s (threadG p s t S').2) en hq] ?_
 have hT : thrI p s i (t :: ts.drop (i + 1)) S' = if (threadG p s t S').1 = true then thrI p s (i + 1) (ts.drop (i + 1)) (threadG p s t S').2 else ((i : Int), (threadG p s t S').2) := rfl
 rw [hT] at hG
 clear hT hd
 rcases Bool.eq_false_or_eq_true (threadG p s t S').1 with hb | hb
 ·rw [if_pos hb] at hG
  (any_goals refine go uZ 0 ?_)
  refine ⟨(i + 1, (threadG p s t S').2), ⟨by dsimp only; omega, hS2, hG⟩, by dsimp only; omega, ?_⟩
  dsimp only
  exact bQ
 ·rw [if_neg (by rw [hb]; simp)] at hG
  rw [hG]
  clear hG
  (any_goals refine go uZ 0 ?_)
  all_goals (try simp only [go_sem])
theorem Qn (p : aI) (s : aC) (ts : List aJ) (S : List Int) (hp : Pgo p) (hn : 0 < p.fns.length) (hfs : ∀ t ∈ ts, t.frames.length ≤ 9223372036854775807 ∧ ∀ f ∈ t.frames, Gwf f) (hl : ts.length ≤ 9223372036854775807) (hl2 : s.threads.length ≤ 9223372036854775807) (hS : ∀ g ∈ S, WI g) :
  FC Cx 58 [bJ ts, .cl 126 [.os 10 0]] (lkRb p s S) (Bv (!(threadsG p s ts S).1)) (lkRb p s (threadsG p s ts S).2) := by
 have hq := Tj (Sp p s ts S hp hn hfs hl hl2 hS) rfl rfl 0 0 0 0 1 10 rfl
 have en : aD Cx.P 122 := aBf
 obtain ⟨h1, h2⟩ := Sa p s ts 0 S
 rw [← h1, ← h2]
 clear h1 h2
 refine gY [ctQ 122 [(0, 0, 0), (1, 1, 0), (10, 10, 0)] [bJ ts, .cl 126 [.os 10 0]] (lkRb p s S) (Iv (thrI p s 0 ts S).1) (lkRb p s (thrI p s 0 ts S).2) en hq]  Tryz.func58 rfl Tryz.ntmps58 (by simp) Tryz.results58 rfl (Il _ _ _) ?_
 refine rnst ?_
 (any_goals refine go lv58 0 ?_)
 all_goals (try simp only [go_sem])
theorem Se (p : aI) (s : aC) (c : aZ) (hp : Pgo p) (hc : Cwf c) (h4 : c.kind = 4 → 0 ≤ c.num) (h5 : c.kind = 5 → c.num = 0 → c.frames.length = 1) : FC Cx 124 [cW c, .r (.rp [.rp (lkR p s)])] [] (Bv (!dW p s c)) [] := by
 have hA : ∀ y, y = [lkP p s, cW c] → aO Cx 125 y (Bv (dW p s c)) := fun y hy => by
  subst hy; exact aB (aGe p s c hp hc h4 h5) aK3 rfl rfl
 refine aE [ctE 125 [lkP p s, cW c] (Bv (dW p s c)) hA] Tryz.func124 Tryz.ntmps124 Tryz.results124 ?_
 refine goR ?_
 refine fzB 2 ?_
 (any_goals refine go aJx 0 ?_)
 all_goals (try simp only [go_sem])
theorem Fk {s : aC} {c : aZ} (h : gC s c = true) : (c.kind = 4 → 0 ≤ c.num) ∧ (c.kind = 5 → c.num = 0 → c.frames.length = 1) := by
 unfold gC at h
 simp only [Bool.and_eq_true, decide_eq_true_eq] at h
 obtain ⟨⟨⟨⟨⟨_, h1⟩, _⟩, h2⟩, _⟩, _⟩ := h
 refine ⟨fun k4 => ?_, fun k5 n0 => ?_⟩
 ·unfold numF at h1
  rw [if_neg (by omega), if_pos k4] at h1
  simpa using h1
 ·unfold dF at h2
  rw [if_pos ⟨k5, n0⟩] at h2
  omega
theorem Bd {s : aC} (h : fC s = 0) : Sok s ∧ ∀ c ∈ s.cells, gC s c = true := by
 unfold fC at h
 split at h
 ·cases h
 rename_i h0
 split at h
 ·rename_i h1; exact absurd h h1
 split at h
 ·cases h
 rename_i h2
 refine ⟨Dt (by simpa using h0), fun c hc => ?_⟩
 simp only [Bool.or_eq_true, not_or] at h2
 have := h2.2
 simp only [List.any_eq_true, not_exists, not_and] at this
 simpa using this c hc
def preS (p : aI) (s : aC) : Bool := decide (p.texts.length ≤ s.texts.length) && decide (s.texts.take p.texts.length = p.texts) && decide (0 ≤ s.steps ∧ s.steps ≤ 1000000000) && decide (0 ≤ s.asked ∧ s.asked ≤ 1000000000) && !decide (s.threads.length = 0)
noncomputable def yJ (s : aC) (S : List Int) : Bool := s.cells.zipIdx.all fun x => !(decide (x.1.kind = 5) && decide (x.1.num = 1)) || decide ((x.2 : Int) ∈ S)
noncomputable def fX (p : aI) (s : aC) : Bool × List Int := if (preS p s && s.cells.all (dW p s)) = true then ((threadsG p s s.threads []).1 && yJ s (threadsG p s s.threads []).2, (threadsG p s s.threads []).2) else (false, [])
theorem So (p : aI) (s : aC) : (fX p s).1 = xA p s := by
 unfold fX xA
 rw [show (decide (p.texts.length ≤ s.texts.length) && decide (s.texts.take p.texts.length = p.texts) && decide (0 ≤ s.steps ∧ s.steps ≤ 1000000000) && decide (0 ≤ s.asked ∧ s.asked ≤ 1000000000) && !decide (s.threads.length = 0)) = preS p s from rfl]
 cases hb : (preS p s && s.cells.all (dW p s)) with
 | false => simp
 | true => simp [yJ]
theorem Mc {s : aC} {S : List Int} (h : ∀ (j : Nat) (c : aZ), s.cells[j]? = some c → (decide (c.kind = 5) && decide (c.num = 1)) = true → (j : Int) ∈ S) : yJ s S = true := by
 unfold yJ
 refine List.all_eq_true.2 fun x hx => ?_
 obtain ⟨c, k⟩ := x
 rw [List.mem_zipIdx_iff_getElem?] at hx
 dsimp only
 cases hb : decide (c.kind = 5) && decide (c.num = 1) with
 | false => rfl
 | true => simp [h k c hx hb]
theorem Ud {s : aC} {S : List Int} {j : Nat} {c : aZ} (hj : s.cells[j]? = some c) (hb : (decide (c.kind = 5) && decide (c.num = 1)) = true) (h : (j : Int) ∉ S) : yJ s S = false := by
 unfold yJ
 rw [Bool.eq_false_iff]
 intro hall
 have := List.all_eq_true.1 hall (c, j) (by rw [List.mem_zipIdx_iff_getElem?]; exact hj)
 dsimp only at this
 rw [hb] at this
 simp at this
 exact h this
theorem uY {p : aI} {s : aC} : ∀ {ts : List aJ} {S : List Int}, (∀ t ∈ ts, ∀ f ∈ t.frames, Gwf f) → (∀ g ∈ S, WI g) → ∀ g ∈ (threadsG p s ts S).2, WI g
 | [], _, _, hS => hS
 | t :: ts, S, hf, hS => by
  unfold threadsG
  split
  ·exact uY (fun u hu => hf u (List.mem_cons_of_mem _ hu)) (rD (hf t (List.mem_cons_self ..)) hS)
  ·exact rD (hf t (List.mem_cons_self ..)) hS
theorem aGm {k : Nat} (h : k ≤ 300) : WI (k : Int) := by
 have h1 : IntKind.i64.min = -9223372036854775808 := rfl
 have h2 : IntKind.i64.max = 9223372036854775807 := rfl
 show (decide (IntKind.i64.min ≤ (k : Int)) && decide ((k : Int) ≤ IntKind.i64.max)) = true
 rw [h1, h2]
 simp only [Bool.and_eq_true, decide_eq_true_eq]
 omega
abbrev lkD (p : aI) (s : aC) : List AV := [.r (.rs 5 (p.fns.map fnR)), .r (.rs 2 (p.consts.map valR)), .r (.rs 1 (p.texts.map strR)), .r (.rp (bR s)), .r (.rs 1 (p.fns.map fun f => [outR f])), .r (.rs 1 (p.fns.map fun f => [gU f])), .os 2001 0]
noncomputable abbrev lkRd (p : aI) (s : aC) (S : List Int) : List (Nat × Nat × Res) := [(2000, 0, .bx (lkD p s)), (2001, 0, .mp (dG S) S.length)]
theorem Lg (p : aI) (s : aC) (S : List Int) (k : Nat) : aA k (lkRd p s S) = if k = 2000 then (0, .bx (lkD p s)) else if k = 2001 then (0, .mp (dG S) S.length) else (0, .gone) := rfl
theorem Sg (p : aI) (s : aC) (S : List Int) (k : Nat) : bE (domR (lkRd p s S)) (aA k (lkRd p s S)).2 := by
 rw [Lg]
 split
 ·rfl
 ·split <;> trivial
theorem Sd (p : aI) (s : aC) (hp : Pgo p) (hn : 0 < p.fns.length) (hs : Swf s) (hck : fC s = 0) :
  FC Cx 61 [.os 2000 0] (lkRd p s []) (Bv (fX p s).1) (lkRd p s (fX p s).2) := by
 obtain ⟨hok, hcs⟩ := Bd hck
 have hl := hs.len
 have hl1 := hl.threads
 have hlt := hl.texts
 have l0 : (s.cells.map bA).length = s.cells.length := List.length_map ..
 have l1 : (s.threads.map aL).length = s.threads.length := List.length_map ..
 have l2 : (s.texts.map strR).length = s.texts.length := List.length_map ..
 have l3 : (p.texts.map strR).length = p.texts.length := List.length_map ..
 have hA : ∀ y, y = [bW s.cells, .r (.fn 124 [.rp [.rp (lkR p s)]])] → aO Cx 113 y (Bv (!(s.cells.all (dW p s)))) := fun y hy => by
  subst hy
  have h := uJ s.cells 124 [.rp [.rp (lkR p s)]] (fun y => ∃ c ∈ s.cells, y = cW c) (fun y => !dW p s (Ls y)) (by
   rintro _ ⟨c, hc, rfl⟩
   rw [pY]
   exact aB (Se p s c hp (hs.cell c hc) (Fk (hcs c hc)).1 (Fk (hcs c hc)).2) aPs rfl rfl) (fun x hx => ⟨x, hx, rfl⟩) hl.cells
  simp only [pY] at h
  rw [wB s.cells, Bool.not_not]
  exact aB h Tm rfl rfl
 have hq := Tj (Qn p s s.threads [] hp hn hs.thread hl1 hl1 (fun _ h => by simp at h)) rfl rfl 0 0 1 2000 2001 1 rfl
 have en : aD Cx.P 58 := en58
 have hWI := uY (p := p) (s := s) (S := []) (fun t ht => (hs.thread t ht).2) (fun _ h => by simp at h)
 by_cases hx : p.texts.length ≤ s.texts.length
 case neg =>
  have d0 : decide ((s.texts.length : Int) < (p.texts.length : Int)) = true := by rw [decide_eq_true_eq]; omega
  have hG : fX p s = (false, []) := by unfold fX preS; rw [decide_eq_false hx]; rfl
  rw [hG]
  refine gY [jQ, dD, ctE 113 [bW s.cells, .r (.fn 124 [.rp [.rp (lkR p s)]])] (Bv (!(s.cells.all (dW p s)))) hA, ctQ 58 [(0, 2000, 0), (1, 2001, 0), (10, 1, 1)] [bJ s.threads, .cl 126 [.os 10 0]] (lkRb p s []) (Bv (!(threadsG p s s.threads []).1)) (lkRb p s (threadsG p s s.threads []).2) en hq]  Tryz.func61 rfl Tryz.ntmps61 (by simp) Tryz.results61 rfl (Sg _ _ _) ?_
  refine rnst ?_
  (any_goals refine go lv61 0 ?_)
  all_goals (try simp only [go_sem])
 have d0 : decide ((s.texts.length : Int) < (p.texts.length : Int)) = false := by rw [decide_eq_false_iff_not]; omega
 have hx' : (p.texts.length : Int) ≤ (s.texts.length : Int) := by omega
 have tn : Int.toNat (p.texts.length : Int) = p.texts.length := by omega
 have k1 : List.drop 0 (List.take p.texts.length (s.texts.map strR)) = (s.texts.take p.texts.length).map strR := by rw [List.map_take]; rfl
 have l4 : ((s.texts.take p.texts.length).map strR).length = p.texts.length := by simp; omega
 have l5 : (s.texts.take p.texts.length).length = p.texts.length := by simp; omega
 refine gY [jQ, dD, ctE 113 [bW s.cells, .r (.fn 124 [.rp [.rp (lkR p s)]])] (Bv (!(s.cells.all (dW p s)))) hA, ctQ 58 [(0, 2000, 0), (1, 2001, 0), (10, 1, 1)] [bJ s.threads, .cl 126 [.os 10 0]] (lkRb p s []) (Bv (!(threadsG p s s.threads []).1)) (lkRb p s (threadsG p s s.threads []).2) en hq]  Tryz.func61 rfl Tryz.ntmps61 (by simp) Tryz.results61 rfl (Sg _ _ _) ?_
 refine rnst ?_
 (any_goals refine go (iS 4 lv61) 0 ?_)
 repeat' (first | (refine Br.go (fun h h' => ?_) (fun h h' => ?_)) | (refine Br.mk (fun h => ?_) (fun h => ?_)))
 all_goals (try simp only [go_sem])
 rotate_right
 ·have hP : preS p s = true := by
   have g4 : ¬ s.threads.length = 0 := by omega
   unfold preS
   rw [decide_eq_true hx, Bool.true_and]
   simp only [*]
   simp [g4]
  clear h h' 
  rcases Bool.eq_false_or_eq_true (s.cells.all (dW p s)) with ha | ha
  ·rcases Bool.eq_false_or_eq_true (threadsG p s s.threads []).1 with hb | hb
   ·have hG : fX p s = (yJ s (threadsG p s s.threads []).2, (threadsG p s s.threads []).2) := by
     unfold fX; rw [hP, ha, hb]; rfl
    rw [hG]
    clear hG hP
    generalize (threadsG p s s.threads []).2 = S at *
    (any_goals refine go lv61 0 ?_)
    refine dB (fun x : Nat × Nat => x.1 ≤ s.cells.length ∧ ∀ (j : Nat) (c : aZ), j < x.1 → s.cells[j]? = some c → (decide (c.kind = 5) && decide (c.num = 1)) = true → (j : Int) ∈ S)
     (fun x => ⟨124, [(1, .os 1 1), (99, bW s.cells), (100, Iv s.cells.length), (101, Iv x.1)], [(2000, 0, .bx (lkD p s)), (2001, 0, .mp (dG S) S.length), (1, 1, .bx [.os 2000 0]), (5, x.2, .gone)]⟩) (fun x => s.cells.length - x.1) (0, 0) ⟨Nat.zero_le _, fun j c hj => by omega⟩ ?_
    rintro ⟨i, u⟩ ⟨hi, hno⟩
    dsimp only at hi hno ⊢
    have h300 := hok.cells
    by_cases hlt2 : i < s.cells.length
    case neg =>
     obtain rfl : i = s.cells.length := by omega
     have e1 : decide ((s.cells.length : Int) < (s.cells.length : Int)) = false := by rw [decide_eq_false_iff_not]; omega
     have hR := Mc (s := s) (S := S) fun j c hj => hno j c (List.getElem?_eq_some_iff.1 hj).1 hj
     rw [hR]
     clear hno
     (any_goals refine go lv61 0 ?_)
     all_goals (try simp only [go_sem])
    have e1 : decide ((i : Int) < (s.cells.length : Int)) = true := by rw [decide_eq_true_eq]; omega
    have t1 : Int.toNat (i : Int) = i := by omega
    have w1 : IntKind.i64.wrap ((i : Int) + 1) = ((i + 1 : Nat) : Int) := by rw [aS] <;> omega
    obtain ⟨c, hc⟩ : ∃ v, s.cells[i]? = some v := ⟨s.cells[i], List.getElem?_eq_getElem hlt2⟩
    have hg := aG bA hc ([] : List RV)
    have hM : nO Tryz.prog 109 (dG S) (.int .i64 (i : Int)) := sT hWI (aGm (by omega))
    have nx : ((decide (c.kind = 5) && decide (c.num = 1)) = true → (i : Int) ∈ S) → ∀ (j : Nat) (c : aZ), j < i + 1 → s.cells[j]? = some c → (decide (c.kind = 5) && decide (c.num = 1)) = true → (j : Int) ∈ S := fun hin j c' hj hc' hb' => by
     rcases Nat.lt_succ_iff_lt_or_eq.1 hj with h3 | h3
     ·exact hno j c' h3 hc' hb'
     ·subst h3
      rw [hc] at hc'; cases hc'; exact hin hb'
    rcases Bool.eq_false_or_eq_true (decide (c.kind = 5) && decide (c.num = 1)) with hr | hr
    ·by_cases hin : (i : Int) ∈ S
     ·have d6 := uB hin
      replace nx := nx fun _ => hin
      simp only [Bool.and_eq_true] at hr
      obtain ⟨r1, r2⟩ := hr
      clear hin hno
      (any_goals refine go lv61 0 ?_)
      refine ⟨(i + 1, u + 9), ⟨by dsimp only; omega, nx⟩, by dsimp only; omega, ?_⟩
      dsimp only
      exact bQ
     ·have d6 := wX hin
      have hR := Ud hc hr hin
      rw [hR]
      simp only [Bool.and_eq_true] at hr
      obtain ⟨r1, r2⟩ := hr
      clear hin hno nx
      (any_goals refine go lv61 0 ?_)
      all_goals (try simp only [go_sem])
    ·replace nx := nx fun h => by rw [hr] at h; cases h
     rcases Bool.eq_false_or_eq_true (decide (c.kind = 5)) with r1 | r1
     ·have r2 : decide (c.num = 1) = false := by rw [r1] at hr; exact hr
      clear hno hr
      (any_goals refine go lv61 0 ?_)
      refine ⟨(i + 1, u + 9), ⟨by dsimp only; omega, nx⟩, by dsimp only; omega, ?_⟩
      dsimp only
      exact bQ
     ·clear hno hr
      (any_goals refine go lv61 0 ?_)
      refine ⟨(i + 1, u + 9), ⟨by dsimp only; omega, nx⟩, by dsimp only; omega, ?_⟩
      dsimp only
      exact bQ
   ·have hG : fX p s = (false, (threadsG p s s.threads []).2) := by
     unfold fX; rw [hP, ha, hb]; rfl
    rw [hG]
    clear hG hP
    (any_goals refine go lv61 0 ?_)
    all_goals (try simp only [go_sem])
  ·have hG : fX p s = (false, []) := by
    unfold fX; rw [hP, ha]; rfl
   rw [hG]
   clear hG hP
   (any_goals refine go lv61 0 ?_)
   all_goals (try simp only [go_sem])
 all_goals
  have hG : fX p s = (false, []) := by
   unfold fX
   rw [show preS p s = false from by unfold preS; first | (simp [*]; done) | (rw [decide_eq_true (show s.threads.length = 0 by omega)]; simp; done)]
   rfl
  rw [hG]
  exact ⟨rfl, rfl⟩
theorem Cj (l : List aJ) (f : Nat) (caps : List RV) (dom : AV → Prop) (pv : AV → Bool) (h : ∀ y, dom y → aO Cx f (y :: caps.map AV.r) (Bv (pv y))) (hd : ∀ x ∈ l, dom (cG x)) (hl : l.length ≤ 9223372036854775807) :
  FC Cx 122 [bJ l, .r (.fn f caps)] [] (Iv (fidx (fun x => pv (cG x)) l)) [] := by
 have hlen : (l.map aL).length = l.length := List.length_map ..
 refine aE [ctF f caps dom pv h] Tryz.func122 Tryz.ntmps122 Tryz.results122 ?_
 (any_goals refine go uZ 0 ?_)
 refine dC [0, 1, 7, 8] (fun i => i ≤ l.length ∧ ∀ j x, j < i → l[j]? = some x → pv (cG x) = false) (fun (i : Nat) => ⟨19, [(0, bJ l), (1, .r (.fn f caps)), (7, Iv l.length), (8, Iv i)], []⟩) (fun i => l.length - i) 0 rfl (by rw [← hlen]; rfl) rfl ⟨Nat.zero_le _, fun j x hj => by omega⟩ ?_
 rintro i ⟨hi, hno⟩
 by_cases hlt : i < l.length
 ·obtain ⟨x, hx⟩ : ∃ x, l[i]? = some x := ⟨l[i], List.getElem?_eq_getElem hlt⟩
  have hg := aG aL hx ([] : List RV)
  have hdx := hd x (List.mem_of_getElem? hx)
  have hw : IntKind.i64.wrap ((i : Int) + 1) = ((i + 1 : Nat) : Int) := by rw [aS] <;> omega
  have h1 : decide ((i : Int) < (l.length : Int)) = true := by rw [decide_eq_true_eq]; omega
  have h2 : Int.toNat (i : Int) = i := by omega
  cases hp : pv (cG x) with
  | true =>
   (any_goals refine go uZ 0 ?_)
   all_goals (try simp only [go_sem])
   rw [gA hx hp fun j y hj hy => hno j y hj hy]
  | false =>
   (any_goals refine go uZ 0 ?_)
   refine ⟨i + 1, ⟨by omega, fun j y hj hy => ?_⟩, by omega, dQ [0, 1, 7, 8] rfl rfl rfl⟩
   rcases Nat.lt_succ_iff_lt_or_eq.1 hj with h3 | h3
   ·exact hno j y h3 hy
   ·subst h3; rw [hx] at hy; cases hy; exact hp
 ·have h1 : decide ((i : Int) < (l.length : Int)) = false := by rw [decide_eq_false_iff_not]; omega
  (any_goals refine go uZ 0 ?_)
  all_goals (try simp only [go_sem])
  rw [eN fun j y hy => hno j y (by have := (List.getElem?_eq_some_iff.1 hy).1; omega) hy]
theorem Fm (l : List aJ) (f : Nat) (caps : List RV) (dom : AV → Prop) (pv : AV → Bool) (h : ∀ y, dom y → aO Cx f (y :: caps.map AV.r) (Bv (pv y))) (hd : ∀ x ∈ l, dom (cG x)) (hl : l.length ≤ 9223372036854775807) :
  FC Cx 58 [bJ l, .r (.fn f caps)] [] (Bv (l.any fun x => pv (cG x))) [] := by
 have hA : ∀ y, y = [bJ l, .r (.fn f caps)] → aO Cx 122 y (Iv (fidx (fun x => pv (cG x)) l)) := fun y hy => by
  subst hy; exact aB (Cj l f caps dom pv h hd hl) aBf rfl rfl
 refine aE [ctE 122 [bJ l, .r (.fn f caps)] (Iv (fidx (fun x => pv (cG x)) l)) hA] Tryz.func58 Tryz.ntmps58 Tryz.results58 ?_
 (any_goals refine go lv58 0 ?_)
 all_goals (try simp only [go_sem])
 all_goals (try rw [fK])
def Dq : AV → aJ
 | .agg [.r (.rs _ fs), .r (.v (.int _ a)), .r (.v (.int _ b)), .r (.v (.int _ k)), .r (.v (.int _ n))] => ⟨framesOf fs, a, b, (k, n)⟩
 | _ => rO
theorem Ad (t : aJ) : Dq (cG t) = t := by
 show (⟨framesOf (t.frames.map bM), t.state, t.on, (t.val.1, t.val.2)⟩ : aJ) = t
 rw [jM]
theorem aA1 (t : aJ) : FC Cx 59 [cG t] [] (Bv (decide ((30 : Int) < (t.frames.length : Int)))) [] := by
 have l1 : (t.frames.map bM).length = t.frames.length := List.length_map ..
 refine aE [] Tryz.func59 Tryz.ntmps59 Tryz.results59 ?_
 refine goR ?_
 refine fzB 1 ?_
 (any_goals refine go lv59 0 ?_)
 all_goals (try simp only [go_sem])
theorem aK1 {p : aI} {s : aC} {S S2 : List Int} {f : Nat} {args : List AV} {r : AV} (h : FC Cx f args (lkRd p s S) r (lkRd p s S2)) (ha : aP (fun k => k == 2000 || k == 2001) args = true) (hr : aW bD r = true) (v0 v1 a b : Nat) (hab : (a == b) = false) :
  QOk (C := Cx) f [(2000, a, v0), (2001, b, v1)] args (lkRd p s S) r (lkRd p s S2) := by
 have hd : ∀ S, domR (lkRd p s S) = fun k => k == 2000 || k == 2001 := fun S => by
  funext k
  unfold domR
  rw [Lg]
  by_cases h0 : k = 2000
  ·subst h0; rfl
  ·by_cases h1 : k = 2001
   ·subst h1; rfl
   ·rw [if_neg h0, if_neg h1]; simp [h0, h1]
 have hab' : a ≠ b := by simpa using hab
 have hi : ∀ S, ∀ q ∈ lkRd p s S, bE (fun k => k == 2000 || k == 2001) q.2.2 := fun S q hq => by
  rcases List.mem_cons.1 hq with rfl | hq
  ·rfl
  ·obtain rfl := List.mem_singleton.1 hq; trivial
 exact ⟨h, rfl, by simp [ndB, memN, hab'], rfl, by rw [hd]; exact ha, lI hr, by rw [hd]; exact hi S, by rw [hd]; exact hi S2⟩
theorem iF {p : aI} (h : checkF p = 0) : 0 < p.fns.length := by
 unfold checkF at h
 split at h
 ·cases h
 split at h
 ·cases h
 split at h
 ·cases h
 rename_i h1
 cases hp : p.fns with
 | nil => unfold oQ at h1; rw [hp] at h1; exact absurd rfl h1
 | cons f l => simp
theorem zU (p : aI) (s : aC) (hw : Pwf p) (hs : Swf s) : FC Cx 19 [cV p, cE s] [] (Iv (cP p s)) [] := by
 have hl := hs.len
 have hl1 := hl.threads
 have l1 : (s.threads.map aL).length = s.threads.length := List.length_map ..
 have hA : ∀ y, y = [bJ s.threads, .r (.fn 59 [])] → aO Cx 58 y (Bv (s.threads.any fun t => decide ((30 : Int) < (t.frames.length : Int)))) := fun y hy => by
  subst hy
  have h := Fm s.threads 59 [] (fun y => ∃ t, y = cG t) (fun y => decide ((30 : Int) < ((Dq y).frames.length : Int))) (by
   rintro _ ⟨t, rfl⟩
   rw [Ad]
   exact aB (aA1 t) en59 rfl rfl) (fun x _ => ⟨x, rfl⟩) hl1
  simp only [Ad] at h
  exact aB h en58 rfl rfl
 unfold cP
 by_cases hp : checkF p = 0
 case neg =>
  rw [if_pos hp]
  have d0 : decide (checkF p = 0) = false := by simpa using hp
  clear hp
  refine aE [ct_check'] Tryz.func19 Tryz.ntmps19 Tryz.results19 ?_
  refine goR ?_
  refine fzB 2 ?_
  refine fzB 3 ?_
  (any_goals refine go lv19 0 ?_)
  all_goals (try simp only [go_sem])
 rw [if_neg (fun h => h hp)]
 have d0 : decide (checkF p = 0) = true := by simpa using hp
 by_cases hc : fC s = 0
 case neg =>
  rw [if_pos hc]
  have d1 : decide (fC s = 0) = false := by simpa using hc
  clear hc hp
  refine aE [ct_check', xZ] Tryz.func19 Tryz.ntmps19 Tryz.results19 ?_
  refine goR ?_
  refine fzB 2 ?_
  refine fzB 3 ?_
  (any_goals refine go lv19 0 ?_)
  all_goals (try simp only [go_sem])
 rw [if_neg (fun h => h hc)]
 have d1 : decide (fC s = 0) = true := by simpa using hc
 have hgo := wR hw hp
 have hq := aK1 (Sd p s hgo (iF hp) hs hc) rfl rfl 1 1 30 28 rfl
 have en : aD Cx.P 61 := en61
 have hf60 := hgo.fns
 have hcok := hgo.cok
 have hsn := zX
 have hr1 := So p s
 unfold uW
 generalize hb2 : (s.threads.any fun t => decide ((30 : Int) < (t.frames.length : Int))) = b2 at *
 clear hc hp
 refine aE [ct_check', xZ, Zj, ctE 58 [bJ s.threads, .r (.fn 59 [])] (Bv b2) hA, ctQ 61 [(2000, 30, 1), (2001, 28, 1)] [.os 2000 0] (lkRd p s []) (Bv (fX p s).1) (lkRd p s (fX p s).2) en hq] Tryz.func19 Tryz.ntmps19 Tryz.results19 ?_
 refine goR ?_
 refine fzB 2 ?_
 refine fzB 3 ?_
 (any_goals refine go lv19 0 ?_)
 repeat' (first | (refine Br.go (fun h h' => ?_) (fun h h' => ?_)) | (refine Br.mk (fun h => ?_) (fun h => ?_)))
 all_goals (try simp only [go_sem])
 ·rw [if_pos (by assumption)]
 ·rename_i h1 _
  rw [h1, h']; rfl
 ·rename_i h1 _
  rw [h1, h']; rfl
theorem Hu (xs ys zs : List (List RV)) (ca sh tx th en sd : List (List RV)) (aq sq : Int) (h : ((xs = (fnsOf xs).map fnR ∧ ys = (valsOf ys).map valR ∧ zs = (strsOf zs).map strR) ∧ ca = (cellsOf ca).map bA ∧ sh = (valsOf sh).map valR ∧ tx = (strsOf tx).map strR ∧ th = (threadsOf th).map aL ∧ en = (aH en).map endR ∧ sd = (valsOf sd).map valR) ∧ Pwf ⟨fnsOf xs, valsOf ys, strsOf zs⟩ ∧ Swf ⟨cellsOf ca, valsOf sh, strsOf tx, threadsOf th, aH en, valsOf sd, aq, sq⟩) : FC Cx 19 [.agg [.r (.rs 5 xs), .r (.rs 2 ys), .r (.rs 1 zs)], .agg [.r (.rs 4 ca), .r (.rs 2 sh), .r (.rs 1 tx), .r (.rs 5 th), .r (.rs 3 en), .r (.rs 2 sd), Iv aq, Iv sq]] [] (Iv (cP ⟨fnsOf xs, valsOf ys, strsOf zs⟩ ⟨cellsOf ca, valsOf sh, strsOf tx, threadsOf th, aH en, valsOf sd, aq, sq⟩)) [] := by
 have := zU ⟨fnsOf xs, valsOf ys, strsOf zs⟩ ⟨cellsOf ca, valsOf sh, strsOf tx, threadsOf th, aH en, valsOf sd, aq, sq⟩ h.2.1 h.2.2
 rwa [pF h.1.1, Fq _ _ _ _ _ _ _ _ h.1.2] at this
def lF (args : List AV) (K : AV → Prop) : Prop := match args with
 | [.agg [.r (.rs 5 xs), .r (.rs 2 ys), .r (.rs 1 zs)], .agg [.r (.rs 4 ca), .r (.rs 2 sh), .r (.rs 1 tx), .r (.rs 5 th), .r (.rs 3 en), .r (.rs 2 sd), .r (.v (.int .i64 aq)), .r (.v (.int .i64 sq))]] => (((xs = (fnsOf xs).map fnR ∧ ys = (valsOf ys).map valR ∧ zs = (strsOf zs).map strR) ∧ ca = (cellsOf ca).map bA ∧ sh = (valsOf sh).map valR ∧ tx = (strsOf tx).map strR ∧ th = (threadsOf th).map aL ∧ en = (aH en).map endR ∧ sd = (valsOf sd).map valR) ∧ Pwf ⟨fnsOf xs, valsOf ys, strsOf zs⟩ ∧ Swf ⟨cellsOf ca, valsOf sh, strsOf tx, threadsOf th, aH en, valsOf sd, aq, sq⟩) ∧ K (Iv (cP ⟨fnsOf xs, valsOf ys, strsOf zs⟩ ⟨cellsOf ca, valsOf sh, strsOf tx, threadsOf th, aH en, valsOf sd, aq, sq⟩))
 | _ => False
noncomputable abbrev eY : Ct Cx := .pure 19 lF fun args K h => by
 unfold lF at h; split at h; exact ⟨_, aB (Hu _ _ _ _ _ _ _ _ _ _ _ h.1) en19 rfl rfl, h.2⟩; exact h.elim
@[go_sem] theorem Up : type_of% @lF.eq_def := @lF.eq_def
theorem Bx (l m : List (Int × Int)) (hl : l.length ≤ 9223372036854775807) : FC Cx 65 [aN l, aN m] [] (Bv (decide (l = m))) [] := by
 have hlen : (l.map valR).length = l.length := List.length_map ..
 have hlen' : (m.map valR).length = m.length := List.length_map ..
 refine aE [] Tryz.func65 Tryz.ntmps65 Tryz.results65 ?_
 (any_goals refine go lv65 0 ?_)
 repeat' (first | (refine Br.go (fun h h' => ?_) (fun h h' => ?_)) | (refine Br.mk (fun h => ?_) (fun h => ?_)))
 ·simp only [go_sem]
  have : l ≠ m := fun he => h' (by rw [he])
  simp [this]
 have hlm : l.length = m.length := by omega
 refine dC [0, 1, 12, 13] (fun i => i ≤ l.length ∧ ∀ j, j < i → l[j]? = m[j]?) (fun (i : Nat) => ⟨26, [(0, aN l), (1, aN m), (12, Iv m.length), (13, Iv i)], []⟩) (fun i => l.length - i) 0 rfl rfl rfl ⟨Nat.zero_le _, fun j hj => by omega⟩ ?_
 rintro i ⟨hi, hno⟩
 by_cases hlt : i < l.length
 ·obtain ⟨x, hx⟩ : ∃ x, l[i]? = some x := ⟨l[i], List.getElem?_eq_getElem hlt⟩
  obtain ⟨y, hy⟩ : ∃ y, m[i]? = some y := ⟨m[i], List.getElem?_eq_getElem (by omega)⟩
  have hg := aG valR hx ([] : List RV)
  have hg' := aG valR hy ([] : List RV)
  have hw : IntKind.i64.wrap ((i : Int) + 1) = ((i + 1 : Nat) : Int) := by rw [aS] <;> omega
  have h1 : decide ((i : Int) < (m.length : Int)) = true := by rw [decide_eq_true_eq]; omega
  have h2 : Int.toNat (i : Int) = i := by omega
  (any_goals refine go lv65 0 ?_)
  repeat' (first | (refine Br.go (fun h h' => ?_) (fun h h' => ?_)) | (refine Br.mk (fun h => ?_) (fun h => ?_)))
  all_goals (try simp only [go_sem])
  ·have h9 := h
   have : l ≠ m := fun he => by
    rw [he] at hx; rw [hx] at hy
    have := Option.some.inj hy
    subst this
    simp at h9
   simp [this]
  ·refine ⟨i + 1, ⟨by omega, fun j hj => ?_⟩, by omega, dQ [0, 1, 12, 13] rfl rfl rfl⟩
   rcases Nat.lt_succ_iff_lt_or_eq.1 hj with h3 | h3
   ·exact hno j h3
   ·rw [h3, hx, hy]; exact congrArg some (by first | exact h' | exact Prod.ext h'.1 h'.2 | (cases x; cases y; simp_all))
 ·have h1 : decide ((i : Int) < (m.length : Int)) = false := by rw [decide_eq_false_iff_not]; omega
  (any_goals refine go lv65 0 ?_)
  all_goals (try simp only [go_sem])
  have : l = m := List.ext_getElem? fun j => by
   by_cases hj : j < i
   ·exact hno j hj
   ·rw [List.getElem?_eq_none (by omega), List.getElem?_eq_none (by omega)]
  simp [this]
theorem Od (l m : List (Int × Int)) (hl : l.length ≤ 9223372036854775807) : FC Cx 67 [aN l, aN m] [] (Bv (decide (l = m))) [] := by
 have hlen : (l.map valR).length = l.length := List.length_map ..
 have hlen' : (m.map valR).length = m.length := List.length_map ..
 refine aE [] Tryz.func67 Tryz.ntmps67 Tryz.results67 ?_
 (any_goals refine go lv67 0 ?_)
 repeat' (first | (refine Br.go (fun h h' => ?_) (fun h h' => ?_)) | (refine Br.mk (fun h => ?_) (fun h => ?_)))
 ·simp only [go_sem]
  have : l ≠ m := fun he => h' (by rw [he])
  simp [this]
 have hlm : l.length = m.length := by omega
 refine dC [0, 1, 12, 13] (fun i => i ≤ l.length ∧ ∀ j, j < i → l[j]? = m[j]?) (fun (i : Nat) => ⟨26, [(0, aN l), (1, aN m), (12, Iv m.length), (13, Iv i)], []⟩) (fun i => l.length - i) 0 rfl rfl rfl ⟨Nat.zero_le _, fun j hj => by omega⟩ ?_
 rintro i ⟨hi, hno⟩
 by_cases hlt : i < l.length
 ·obtain ⟨x, hx⟩ : ∃ x, l[i]? = some x := ⟨l[i], List.getElem?_eq_getElem hlt⟩
  obtain ⟨y, hy⟩ : ∃ y, m[i]? = some y := ⟨m[i], List.getElem?_eq_getElem (by omega)⟩
  have hg := aG valR hx ([] : List RV)
  have hg' := aG valR hy ([] : List RV)
  have hw : IntKind.i64.wrap ((i : Int) + 1) = ((i + 1 : Nat) : Int) := by rw [aS] <;> omega
  have h1 : decide ((i : Int) < (m.length : Int)) = true := by rw [decide_eq_true_eq]; omega
  have h2 : Int.toNat (i : Int) = i := by omega
  (any_goals refine go lv67 0 ?_)
  repeat' (first | (refine Br.go (fun h h' => ?_) (fun h h' => ?_)) | (refine Br.mk (fun h => ?_) (fun h => ?_)))
  all_goals (try simp only [go_sem])
  ·have h9 := h
   have : l ≠ m := fun he => by
    rw [he] at hx; rw [hx] at hy
    have := Option.some.inj hy
    subst this
    simp at h9
   simp [this]
  ·refine ⟨i + 1, ⟨by omega, fun j hj => ?_⟩, by omega, dQ [0, 1, 12, 13] rfl rfl rfl⟩
   rcases Nat.lt_succ_iff_lt_or_eq.1 hj with h3 | h3
   ·exact hno j h3
   ·rw [h3, hx, hy]; exact congrArg some (by first | exact h' | exact Prod.ext h'.1 h'.2 | (cases x; cases y; simp_all))
 ·have h1 : decide ((i : Int) < (m.length : Int)) = false := by rw [decide_eq_false_iff_not]; omega
  (any_goals refine go lv67 0 ?_)
  all_goals (try simp only [go_sem])
  have : l = m := List.ext_getElem? fun j => by
   by_cases hj : j < i
   ·exact hno j hj
   ·rw [List.getElem?_eq_none (by omega), List.getElem?_eq_none (by omega)]
  simp [this]
theorem Xh (l m : List EndT) (hl : l.length ≤ 9223372036854775807) : FC Cx 71 [cA l, cA m] [] (Bv (decide (l = m))) [] := by
 have hlen : (l.map endR).length = l.length := List.length_map ..
 have hlen' : (m.map endR).length = m.length := List.length_map ..
 refine aE [] Tryz.func71 Tryz.ntmps71 Tryz.results71 ?_
 (any_goals refine go lv71 0 ?_)
 repeat' (first | (refine Br.go (fun h h' => ?_) (fun h h' => ?_)) | (refine Br.mk (fun h => ?_) (fun h => ?_)))
 ·simp only [go_sem]
  have : l ≠ m := fun he => h' (by rw [he])
  simp [this]
 have hlm : l.length = m.length := by omega
 refine dC [0, 1, 12, 13] (fun i => i ≤ l.length ∧ ∀ j, j < i → l[j]? = m[j]?) (fun (i : Nat) => ⟨26, [(0, cA l), (1, cA m), (12, Iv m.length), (13, Iv i)], []⟩) (fun i => l.length - i) 0 rfl rfl rfl ⟨Nat.zero_le _, fun j hj => by omega⟩ ?_
 rintro i ⟨hi, hno⟩
 by_cases hlt : i < l.length
 ·obtain ⟨x, hx⟩ : ∃ x, l[i]? = some x := ⟨l[i], List.getElem?_eq_getElem hlt⟩
  obtain ⟨y, hy⟩ : ∃ y, m[i]? = some y := ⟨m[i], List.getElem?_eq_getElem (by omega)⟩
  have hg := aG endR hx ([] : List RV)
  have hg' := aG endR hy ([] : List RV)
  have hw : IntKind.i64.wrap ((i : Int) + 1) = ((i + 1 : Nat) : Int) := by rw [aS] <;> omega
  have h1 : decide ((i : Int) < (m.length : Int)) = true := by rw [decide_eq_true_eq]; omega
  have h2 : Int.toNat (i : Int) = i := by omega
  (any_goals refine go lv71 0 ?_)
  repeat' (first | (refine Br.go (fun h h' => ?_) (fun h h' => ?_)) | (refine Br.mk (fun h => ?_) (fun h => ?_)))
  all_goals (try simp only [go_sem])
  ·have h9 := h
   have : l ≠ m := fun he => by
    rw [he] at hx; rw [hx] at hy
    have := Option.some.inj hy
    subst this
    simp at h9
   simp [this]
  ·refine ⟨i + 1, ⟨by omega, fun j hj => ?_⟩, by omega, dQ [0, 1, 12, 13] rfl rfl rfl⟩
   rcases Nat.lt_succ_iff_lt_or_eq.1 hj with h3 | h3
   ·exact hno j h3
   ·rw [h3, hx, hy]; exact congrArg some (by first | exact h' | exact Prod.ext h'.1 h'.2 | (cases x; cases y; simp_all [Prod.ext_iff]; done))
 ·have h1 : decide ((i : Int) < (m.length : Int)) = false := by rw [decide_eq_false_iff_not]; omega
  (any_goals refine go lv71 0 ?_)
  all_goals (try simp only [go_sem])
  have : l = m := List.ext_getElem? fun j => by
   by_cases hj : j < i
   ·exact hno j hj
   ·rw [List.getElem?_eq_none (by omega), List.getElem?_eq_none (by omega)]
  simp [this]
theorem Iu (l m : List aK) (f : Nat) (hl : l.length ≤ 9223372036854775807) (hcl : ∀ x ∈ l, ∀ y ∈ m, aO Cx f [dA x, dA y] (Bv (decide (x = y)))) : FC Cx 128 [bL l, bL m, .r (.fn f [])] [] (Bv (decide (l = m))) [] := by
 have hlen : (l.map bM).length = l.length := List.length_map ..
 have hlen' : (m.map bM).length = m.length := List.length_map ..
 refine aE [] Tryz.func128 Tryz.ntmps128 Tryz.results128 ?_
 (any_goals refine go Lb 0 ?_)
 repeat' (first | (refine Br.go (fun h h' => ?_) (fun h h' => ?_)) | (refine Br.mk (fun h => ?_) (fun h => ?_)))
 ·simp only [go_sem]
  have : l ≠ m := fun he => h' (by rw [he])
  simp [this]
 have hlm : l.length = m.length := by omega
 refine dB (fun x : Nat × Nat => x.1 ≤ l.length ∧ ∀ j, j < x.1 → l[j]? = m[j]?) (fun x => ⟨32, [(1, bL m), (2, .r (.fn f [])), (15, bL l), (16, Iv m.length), (17, Iv x.1)], [(8, x.2, .gone), (9, x.2, .gone)]⟩) (fun x => l.length - x.1) (0, 0) ⟨Nat.zero_le _, fun j hj => by omega⟩ ?_
 rintro ⟨i, u⟩ ⟨hi, hno⟩
 dsimp only at hi hno ⊢
 by_cases hlt : i < l.length
 ·obtain ⟨x, hx⟩ : ∃ x, l[i]? = some x := ⟨l[i], List.getElem?_eq_getElem hlt⟩
  obtain ⟨y, hy⟩ : ∃ y, m[i]? = some y := ⟨m[i], List.getElem?_eq_getElem (by omega)⟩
  have hg := aG bM hx ([] : List RV)
  have hg' := aG bM hy ([] : List RV)
  have hw : IntKind.i64.wrap ((i : Int) + 1) = ((i + 1 : Nat) : Int) := by rw [aS] <;> omega
  have h1 : decide ((i : Int) < (m.length : Int)) = true := by rw [decide_eq_true_eq]; omega
  have h2 : Int.toNat (i : Int) = i := by omega
  have hE : ∀ z, z = [dA x, dA y] → aO Cx f z (Bv (decide (x = y))) := fun z hz => by rw [hz]; exact hcl x (List.mem_of_getElem? hx) y (List.mem_of_getElem? hy)
  refine Rn_T [ctE f [dA x, dA y] (Bv (decide (x = y))) hE] ?_
  rcases Bool.eq_false_or_eq_true (decide (x = y)) with hb | hb
  ·skip
   (any_goals refine go Lb 0 ?_)
   refine ⟨(i + 1, u + 9), ⟨by dsimp only; omega, fun j hj => ?_⟩, by dsimp only; omega, ?_⟩
   ·dsimp only at hj
    rcases Nat.lt_succ_iff_lt_or_eq.1 hj with h3 | h3
    ·exact hno j h3
    ·rw [h3, hx, hy]; exact congrArg some (by simpa using hb)
   ·dsimp only
    exact bQ
  ·have hne : decide (l = m) = false := by
    rw [decide_eq_false_iff_not]
    intro he
    rw [he] at hx; rw [hx] at hy
    have := Option.some.inj hy
    simp [this] at hb
   rw [hne]
   clear hne
   (any_goals refine go Lb 0 ?_)
   all_goals (try simp only [go_sem])
 ·have h1 : decide ((i : Int) < (m.length : Int)) = false := by rw [decide_eq_false_iff_not]; omega
  have : l = m := List.ext_getElem? fun j => by
   by_cases hj : j < i
   ·exact hno j hj
   ·rw [List.getElem?_eq_none (by omega), List.getElem?_eq_none (by omega)]
  rw [decide_eq_true this]
  clear this
  (any_goals refine go Lb 0 ?_)
  all_goals (try simp only [go_sem])
theorem Nj (l m : List aZ) (f : Nat) (hl : l.length ≤ 9223372036854775807) (hcl : ∀ x ∈ l, ∀ y ∈ m, aO Cx f [cW x, cW y] (Bv (decide (x = y)))) : FC Cx 63 [bW l, bW m, .r (.fn f [])] [] (Bv (decide (l = m))) [] := by
 have hlen : (l.map bA).length = l.length := List.length_map ..
 have hlen' : (m.map bA).length = m.length := List.length_map ..
 refine aE [] Tryz.func63 Tryz.ntmps63 Tryz.results63 ?_
 (any_goals refine go lv63 0 ?_)
 repeat' (first | (refine Br.go (fun h h' => ?_) (fun h h' => ?_)) | (refine Br.mk (fun h => ?_) (fun h => ?_)))
 ·simp only [go_sem]
  have : l ≠ m := fun he => h' (by rw [he])
  simp [this]
 have hlm : l.length = m.length := by omega
 refine dB (fun x : Nat × Nat => x.1 ≤ l.length ∧ ∀ j, j < x.1 → l[j]? = m[j]?) (fun x => ⟨32, [(1, bW m), (2, .r (.fn f [])), (15, bW l), (16, Iv m.length), (17, Iv x.1)], [(8, x.2, .gone), (9, x.2, .gone)]⟩) (fun x => l.length - x.1) (0, 0) ⟨Nat.zero_le _, fun j hj => by omega⟩ ?_
 rintro ⟨i, u⟩ ⟨hi, hno⟩
 dsimp only at hi hno ⊢
 by_cases hlt : i < l.length
 ·obtain ⟨x, hx⟩ : ∃ x, l[i]? = some x := ⟨l[i], List.getElem?_eq_getElem hlt⟩
  obtain ⟨y, hy⟩ : ∃ y, m[i]? = some y := ⟨m[i], List.getElem?_eq_getElem (by omega)⟩
  have hg := aG bA hx ([] : List RV)
  have hg' := aG bA hy ([] : List RV)
  have hw : IntKind.i64.wrap ((i : Int) + 1) = ((i + 1 : Nat) : Int) := by rw [aS] <;> omega
  have h1 : decide ((i : Int) < (m.length : Int)) = true := by rw [decide_eq_true_eq]; omega
  have h2 : Int.toNat (i : Int) = i := by omega
  have hE : ∀ z, z = [cW x, cW y] → aO Cx f z (Bv (decide (x = y))) := fun z hz => by rw [hz]; exact hcl x (List.mem_of_getElem? hx) y (List.mem_of_getElem? hy)
  refine Rn_T [ctE f [cW x, cW y] (Bv (decide (x = y))) hE] ?_
  rcases Bool.eq_false_or_eq_true (decide (x = y)) with hb | hb
  ·skip
   (any_goals refine go lv63 0 ?_)
   refine ⟨(i + 1, u + 9), ⟨by dsimp only; omega, fun j hj => ?_⟩, by dsimp only; omega, ?_⟩
   ·dsimp only at hj
    rcases Nat.lt_succ_iff_lt_or_eq.1 hj with h3 | h3
    ·exact hno j h3
    ·rw [h3, hx, hy]; exact congrArg some (by simpa using hb)
   ·dsimp only
    exact bQ
  ·have hne : decide (l = m) = false := by
    rw [decide_eq_false_iff_not]
    intro he
    rw [he] at hx; rw [hx] at hy
    have := Option.some.inj hy
    simp [this] at hb
   rw [hne]
   clear hne
   (any_goals refine go lv63 0 ?_)
   all_goals (try simp only [go_sem])
 ·have h1 : decide ((i : Int) < (m.length : Int)) = false := by rw [decide_eq_false_iff_not]; omega
  have : l = m := List.ext_getElem? fun j => by
   by_cases hj : j < i
   ·exact hno j hj
   ·rw [List.getElem?_eq_none (by omega), List.getElem?_eq_none (by omega)]
  rw [decide_eq_true this]
  clear this
  (any_goals refine go lv63 0 ?_)
  all_goals (try simp only [go_sem])
theorem Eh (l m : List aJ) (f : Nat) (hl : l.length ≤ 9223372036854775807) (hcl : ∀ x ∈ l, ∀ y ∈ m, aO Cx f [cG x, cG y] (Bv (decide (x = y)))) : FC Cx 69 [bJ l, bJ m, .r (.fn f [])] [] (Bv (decide (l = m))) [] := by
 have hlen : (l.map aL).length = l.length := List.length_map ..
 have hlen' : (m.map aL).length = m.length := List.length_map ..
 refine aE [] Tryz.func69 Tryz.ntmps69 Tryz.results69 ?_
 (any_goals refine go lv69 0 ?_)
 repeat' (first | (refine Br.go (fun h h' => ?_) (fun h h' => ?_)) | (refine Br.mk (fun h => ?_) (fun h => ?_)))
 ·simp only [go_sem]
  have : l ≠ m := fun he => h' (by rw [he])
  simp [this]
 have hlm : l.length = m.length := by omega
 refine dB (fun x : Nat × Nat => x.1 ≤ l.length ∧ ∀ j, j < x.1 → l[j]? = m[j]?) (fun x => ⟨32, [(1, bJ m), (2, .r (.fn f [])), (15, bJ l), (16, Iv m.length), (17, Iv x.1)], [(8, x.2, .gone), (9, x.2, .gone)]⟩) (fun x => l.length - x.1) (0, 0) ⟨Nat.zero_le _, fun j hj => by omega⟩ ?_
 rintro ⟨i, u⟩ ⟨hi, hno⟩
 dsimp only at hi hno ⊢
 by_cases hlt : i < l.length
 ·obtain ⟨x, hx⟩ : ∃ x, l[i]? = some x := ⟨l[i], List.getElem?_eq_getElem hlt⟩
  obtain ⟨y, hy⟩ : ∃ y, m[i]? = some y := ⟨m[i], List.getElem?_eq_getElem (by omega)⟩
  have hg := aG aL hx ([] : List RV)
  have hg' := aG aL hy ([] : List RV)
  have hw : IntKind.i64.wrap ((i : Int) + 1) = ((i + 1 : Nat) : Int) := by rw [aS] <;> omega
  have h1 : decide ((i : Int) < (m.length : Int)) = true := by rw [decide_eq_true_eq]; omega
  have h2 : Int.toNat (i : Int) = i := by omega
  have hE : ∀ z, z = [cG x, cG y] → aO Cx f z (Bv (decide (x = y))) := fun z hz => by rw [hz]; exact hcl x (List.mem_of_getElem? hx) y (List.mem_of_getElem? hy)
  refine Rn_T [ctE f [cG x, cG y] (Bv (decide (x = y))) hE] ?_
  rcases Bool.eq_false_or_eq_true (decide (x = y)) with hb | hb
  ·skip
   (any_goals refine go lv69 0 ?_)
   refine ⟨(i + 1, u + 9), ⟨by dsimp only; omega, fun j hj => ?_⟩, by dsimp only; omega, ?_⟩
   ·dsimp only at hj
    rcases Nat.lt_succ_iff_lt_or_eq.1 hj with h3 | h3
    ·exact hno j h3
    ·rw [h3, hx, hy]; exact congrArg some (by simpa using hb)
   ·dsimp only
    exact bQ
  ·have hne : decide (l = m) = false := by
    rw [decide_eq_false_iff_not]
    intro he
    rw [he] at hx; rw [hx] at hy
    have := Option.some.inj hy
    simp [this] at hb
   rw [hne]
   clear hne
   (any_goals refine go lv69 0 ?_)
   all_goals (try simp only [go_sem])
 ·have h1 : decide ((i : Int) < (m.length : Int)) = false := by rw [decide_eq_false_iff_not]; omega
  have : l = m := List.ext_getElem? fun j => by
   by_cases hj : j < i
   ·exact hno j hj
   ·rw [List.getElem?_eq_none (by omega), List.getElem?_eq_none (by omega)]
  rw [decide_eq_true this]
  clear this
  (any_goals refine go lv69 0 ?_)
  all_goals (try simp only [go_sem])
theorem Ja (x y : aK) : decide (x = y) = (decide (x.fn = y.fn) && decide (x.pc = y.pc) && decide (x.tov = y.tov) && decide (x.gen = y.gen) && (decide (x.self.1 = y.self.1) && decide (x.self.2 = y.self.2)) && decide (x.regs = y.regs) && decide (x.tries = y.tries)) := by
 obtain ⟨a1, a2, a3, a4, ⟨a5, a6⟩, a7, a8⟩ := x
 obtain ⟨b1, b2, b3, b4, ⟨b5, b6⟩, b7, b8⟩ := y
 simp only [← Bool.decide_and, aK.mk.injEq, Prod.mk.injEq, and_assoc]
theorem My (x y : aZ) : decide (x = y) = (decide (x.kind = y.kind) && decide (x.num = y.num) && decide (x.vals = y.vals) && decide (x.frames = y.frames)) := by
 obtain ⟨a1, a2, a3, a4⟩ := x
 obtain ⟨b1, b2, b3, b4⟩ := y
 simp only [← Bool.decide_and, aZ.mk.injEq, and_assoc]
theorem Dp (x y : aJ) : decide (x = y) = (decide (x.state = y.state) && decide (x.on = y.on) && (decide (x.val.1 = y.val.1) && decide (x.val.2 = y.val.2)) && decide (x.frames = y.frames)) := by
 obtain ⟨a1, a2, a3, ⟨a4, a5⟩⟩ := x
 obtain ⟨b1, b2, b3, ⟨b4, b5⟩⟩ := y
 simp only [← Bool.decide_and, aJ.mk.injEq, Prod.mk.injEq, and_assoc]
 rw [decide_eq_decide]
 exact ⟨fun ⟨h1, h2, h3, h4, h5⟩ => ⟨h2, h3, h4, h5, h1⟩, fun ⟨h2, h3, h4, h5, h1⟩ => ⟨h1, h2, h3, h4, h5⟩⟩
theorem Hb (x y : aC) : decide (x = y) = (decide (x.cells = y.cells) && decide (x.shapes = y.shapes) && decide (x.texts = y.texts) && decide (x.threads = y.threads) && decide (x.ends = y.ends) && decide (x.said = y.said) && decide (x.asked = y.asked) && decide (x.steps = y.steps)) := by
 obtain ⟨a1, a2, a3, a4, a5, a6, a7, a8⟩ := x
 obtain ⟨b1, b2, b3, b4, b5, b6, b7, b8⟩ := y
 simp only [← Bool.decide_and, aC.mk.injEq, and_assoc]
theorem Mn (x y : aK) (hx : Gwf x) (hy : Gwf y) : FC Cx 129 [dA x, dA y] [] (Bv (decide (x = y))) [] := by
 have h1 := hx.regs
 have h2 := hx.tries
 have l1 : (x.regs.map valR).length = x.regs.length := List.length_map ..
 have l2 : (x.tries.map tryR).length = x.tries.length := List.length_map ..
 rw [Ja]
 have hV : ∀ z, z = [aN x.regs, aN y.regs] → aO Cx 65 z (Bv (decide (x.regs = y.regs))) := fun z hz => by rw [hz]; exact aB (Bx x.regs y.regs h1) en65 rfl rfl
 refine aE [dH, ctE 65 [aN x.regs, aN y.regs] (Bv (decide (x.regs = y.regs))) hV] Tryz.func129 Tryz.ntmps129 Tryz.results129 ?_
 refine goR ?_
 refine fzB 2 ?_
 refine fzB 3 ?_
 (any_goals refine go aOb 0 ?_)
 all_goals (try simp only [go_sem])
end Go.Proofs.YtbhnmolmkembdaaGreatDoor
