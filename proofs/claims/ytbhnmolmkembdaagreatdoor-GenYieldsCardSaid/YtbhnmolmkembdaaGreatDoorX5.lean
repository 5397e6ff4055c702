/- Names of shapes, their slots; shapes copied. No condition: contracts. -/
import Derived.Test.YtbhnmolmkembdaaGreatDoorX4
namespace Go.Proofs.YtbhnmolmkembdaaGreatDoor.Sh
set_option linter.unusedVariables false
set_option linter.unusedSimpArgs false
set_option maxHeartbeats 10000000
open Go
set_option maxRecDepth 10000
theorem good_ups {l : List (Int × Int)} (h : checkF l = 0) (s : Int) : Ups l s ∧ l.length ≤ 100 ∧ l[0]? = some (-1, -1) ∧ good l := by
 unfold checkF at h
 split at h
 ·simp at h
 ·split at h
  ·rename_i h1 h2
   refine ⟨fun k p hp h0 _ => ?_, by omega, h2.1, h2.2⟩
   obtain ⟨j, rfl⟩ : ∃ j, k = j + 1 := ⟨k - 1, by omega⟩
   have := (h2.2 j p hp).2.1
   omega
  ·simp at h
theorem Wq (xs : List (List RV)) (s : Int) (h : xs = (shapesOf xs).map cA ∧ xs.length ≤ 1000 ∧ Ups (shapesOf xs) s ∧ s < xs.length) : FC Cx 164 [.r (.rs 2 xs), Iv s] [] (.os 0 1) [(0, 1, .sl 3 1 ((namesL (shapesOf xs) s).map intA))] := by
 have hl : (shapesOf xs).length = xs.length := by simp [shapesOf]
 have := Lq (shapesOf xs) s (by omega) h.2.2.1 (by omega)
 rwa [mR h.1] at this
theorem Is (xs : List (List RV)) (s : Int) : ∀ row ∈ (namesL (shapesOf xs) s).map intA, aW bO row = true := rH _
def mS (st : St) (d : Nat) (args : List AV) (K : AV → List Loc → List (Loc × Cont) → Prop) : Prop := match args with
 | [.r (.rs 2 xs), .r (.v (.int .i64 s))] => (xs = (shapesOf xs).map cA ∧ xs.length ≤ 1000 ∧ Ups (shapesOf xs) s ∧ s < xs.length) ∧ K (ren (fun _ => d) (fun _ => st.cur d) (.os 0 1)) [.R d] [(.R d, .s (1 + st.cur d) (.sl 3 1 ((namesL (shapesOf xs) s).map intA)))]
 | _ => False
theorem Hn (st : St) (d : Nat) (args : List AV) (K : AV → List Loc → List (Loc × Cont) → Prop) (h : mS st d args K) : ∃ r ls outs, dC Cx 164 st args r ls outs ∧ K r ls outs := by
 unfold mS at h
 split at h
 ·exact ⟨_, _, _, dC.own (Wq _ _ h.1) rfl (Is _ _) rfl d, h.2⟩
 ·exact h.elim
noncomputable def mN : Ct Cx := .res 164 mS aIb Hn
@[go_sem] theorem aI3 : mN.g = 164 := rfl
@[go_sem] theorem aCx (c : Call) (fop : Operand) (caps : List AV) (o : Oper) (st : St) (K : List Loc → List (Loc × Cont) → Prop) : mN.run c fop caps o st K = kH mS c fop caps o st K := rfl
@[go_sem] theorem aFi : type_of% @mS.eq_def := @mS.eq_def
noncomputable def namesF (l : List (Int × Int)) (s : Int) : List Int := if checkF l = 0 ∧ 0 ≤ s ∧ s < l.length then namesL l s else []
theorem aAp (l : List (Int × Int)) (s : Int) (hw : Wf l) (hc : checkF l = 0) (d1 : decide (s < 0) = false) (d2 : decide ((l.length : Int) ≤ s) = false) (hU : Ups l s) (hl : l.length ≤ 100) (hlen : (l.map cA).length = l.length) (hs : 0 ≤ s ∧ s < l.length) :
  FC Cx 167 [cT l, Iv s] [] (.os 0 1) [(0, 1, .sl 3 1 ((namesL l s).map intA))] := by
 refine iG [ct_check', mN] (i := 0) [.os 0 1] Tryz.func167 rfl Tryz.ntmps167 (by simp) Tryz.results167 (rH _) ?_
 refine rnst ?_
 (any_goals refine go Py 0 ?_)
 all_goals (try simp only [go_sem])
theorem Uf (l : List (Int × Int)) (s : Int) (hw : Wf l) (hc : checkF l = 0) (hlen : (l.map cA).length = l.length) (d1 : decide (s < 0) = true) :
  FC Cx 167 [cT l, Iv s] [] (.os 0 1) [(0, 1, .sl 3 1 (([] : List Int).map intA))] := by
 refine iG [ct_check', mN] (i := 0) [.os 0 1] Tryz.func167 rfl Tryz.ntmps167 (by simp) Tryz.results167 (rH _) ?_
 refine rnst ?_
 (any_goals refine go Py 0 ?_)
 all_goals (try simp only [go_sem])
theorem Us (l : List (Int × Int)) (s : Int) (hw : Wf l) (hc : checkF l = 0) (hlen : (l.map cA).length = l.length) (d1 : decide (s < 0) = false) (d2 : decide ((l.length : Int) ≤ s) = true) :
  FC Cx 167 [cT l, Iv s] [] (.os 0 1) [(0, 1, .sl 3 1 (([] : List Int).map intA))] := by
 refine iG [ct_check', mN] (i := 0) [.os 0 1] Tryz.func167 rfl Tryz.ntmps167 (by simp) Tryz.results167 (rH _) ?_
 refine rnst ?_
 (any_goals refine go Py 0 ?_)
 all_goals (try simp only [go_sem])
theorem aAy (l : List (Int × Int)) (s : Int) (hw : Wf l) (hc : checkF l = 0) (hs : ¬ (0 ≤ s ∧ s < l.length)) :
  FC Cx 167 [cT l, Iv s] [] (.os 0 1) [(0, 1, .sl 3 1 ((namesF l s).map intA))] := by
 have hlen : (l.map cA).length = l.length := List.length_map ..
 have hF : namesF l s = [] := by rw [namesF, if_neg fun h => hs h.2]
 rw [hF]
 by_cases h0 : s < 0
 ·exact Uf l s hw hc hlen (by rw [decide_eq_true_eq]; exact h0)
 ·exact Us l s hw hc hlen (by rw [decide_eq_false_iff_not]; exact h0) (by rw [decide_eq_true_eq]; omega)
theorem Zr (l : List (Int × Int)) (s : Int) (hw : Wf l) (hc : ¬ checkF l = 0) :
  FC Cx 167 [cT l, Iv s] [] (.os 0 1) [(0, 1, .sl 3 1 ((namesF l s).map intA))] := by
 have hF : namesF l s = [] := by rw [namesF, if_neg fun h => hc h.1]
 have d0 : decide (checkF l = 0) = false := by rw [decide_eq_false_iff_not]; exact hc
 rw [hF]
 refine iG [ct_check', mN] (i := 0) [.os 0 1] Tryz.func167 rfl Tryz.ntmps167 (by simp) Tryz.results167 (rH _) ?_
 refine rnst ?_
 (any_goals refine go Py 0 ?_)
 all_goals (try simp only [go_sem])
theorem Zt (l : List (Int × Int)) (s : Int) (hw : Wf l) : FC Cx 167 [cT l, Iv s] [] (.os 0 1) [(0, 1, .sl 3 1 ((namesF l s).map intA))] := by
 have hlen : (l.map cA).length = l.length := List.length_map ..
 by_cases hc : checkF l = 0
 ·by_cases hs : 0 ≤ s ∧ s < l.length
  ·have d1 : decide (s < 0) = false := by rw [decide_eq_false_iff_not]; omega
   have d2 : decide ((l.length : Int) ≤ s) = false := by rw [decide_eq_false_iff_not]; omega
   have hU := (good_ups hc s).1
   have hl := (good_ups hc s).2.1
   have hF : namesF l s = namesL l s := by rw [namesF, if_pos ⟨hc, hs⟩]
   rw [hF]
   exact aAp l s hw hc d1 d2 hU hl hlen hs
  ·exact aAy l s hw hc hs
 ·exact Zr l s hw hc
end Go.Proofs.YtbhnmolmkembdaaGreatDoor.Sh
namespace Go.Proofs.YtbhnmolmkembdaaGreatDoor.Sh
set_option linter.unusedVariables false
set_option linter.unusedSimpArgs false
set_option maxHeartbeats 10000000
open Go
set_option maxRecDepth 10000
theorem Wa (xs : List (List RV)) (s : Int) (h : xs = (shapesOf xs).map cA ∧ Wf (shapesOf xs)) : FC Cx 167 [.r (.rs 2 xs), Iv s] [] (.os 0 1) [(0, 1, .sl 3 1 ((namesF (shapesOf xs) s).map intA))] := by
 have := Zt (shapesOf xs) s h.2
 rwa [mR h.1] at this
theorem aD7 (xs : List (List RV)) (s : Int) (h : xs = (shapesOf xs).map cA ∧ Wf (shapesOf xs)) : FC Cx 167 [.r (.rs 2 xs), Iv s] [] (cX (namesF (shapesOf xs) s)) [] := (Wa xs s h).freeze1 (roI _).symm
def vN (args : List AV) (K : AV → Prop) : Prop := match args with
 | [.r (.rs 2 xs), .r (.v (.int .i64 s))] => (xs = (shapesOf xs).map cA ∧ Wf (shapesOf xs)) ∧ K (cX (namesF (shapesOf xs) s))
 | _ => False
noncomputable abbrev ct_Names : Ct Cx := .pure 167 vN fun args K h => by
 unfold vN at h; split at h; exact ⟨_, aA (aD7 _ _ h.1) aVv rfl rfl, h.2⟩; exact h.elim
@[go_sem] theorem aHr : type_of% @vN.eq_def := @vN.eq_def
end Go.Proofs.YtbhnmolmkembdaaGreatDoor.Sh
namespace Go.Proofs.YtbhnmolmkembdaaGreatDoor
set_option linter.unusedVariables false
set_option linter.unusedSimpArgs false
set_option maxHeartbeats 10000000
open Go
set_option maxRecDepth 10000
structure aR where
 fn : Int
 pc : Int
 tov : Int
 gen : Int
 self : Int × Int
 regs : List (Int × Int)
 tries : List (Int × Int)
 deriving DecidableEq
structure bM where
 kind : Int
 num : Int
 vals : List (Int × Int)
 frames : List aR
 deriving DecidableEq
structure aP where
 frames : List aR
 state : Int
 on : Int
 val : Int × Int
 deriving DecidableEq
structure EndT where
 cell : Int
 fn : Int × Int
 deriving DecidableEq
structure aC where
 cells : List bM
 shapes : List (Int × Int)
 texts : List ByteArray
 threads : List aP
 ends : List EndT
 said : List (Int × Int)
 asked : Int
 steps : Int
 deriving DecidableEq
abbrev bA (f : aR) : List RV := [.v (.int .i64 f.fn), .v (.int .i64 f.pc), .v (.int .i64 f.tov), .v (.int .i64 f.gen), .v (.int .i64 f.self.1), .v (.int .i64 f.self.2), .rs 2 (f.regs.map valR), .rs 2 (f.tries.map tryR)]
abbrev bL (l : List aR) : AV := .r (.rs 8 (l.map bA))
abbrev aX (c : bM) : List RV := [.v (.int .i64 c.kind), .v (.int .i64 c.num), .rs 2 (c.vals.map valR), .rs 8 (c.frames.map bA)]
abbrev dG (l : List bM) : AV := .r (.rs 4 (l.map aX))
abbrev aJ (t : aP) : List RV := [.rs 8 (t.frames.map bA), .v (.int .i64 t.state), .v (.int .i64 t.on), .v (.int .i64 t.val.1), .v (.int .i64 t.val.2)]
abbrev cF (l : List aP) : AV := .r (.rs 5 (l.map aJ))
abbrev endR (e : EndT) : List RV := [.v (.int .i64 e.cell), .v (.int .i64 e.fn.1), .v (.int .i64 e.fn.2)]
abbrev fP (l : List EndT) : AV := .r (.rs 3 (l.map endR))
abbrev cJ (s : aC) : List RV := [.rs 4 (s.cells.map aX), .rs 2 (s.shapes.map valR), .rs 1 (s.texts.map strR), .rs 5 (s.threads.map aJ), .rs 3 (s.ends.map endR), .rs 2 (s.said.map valR), .v (.int .i64 s.asked), .v (.int .i64 s.steps)]
abbrev aO (s : aC) : AV := .agg [dG s.cells, aS s.shapes, bZ s.texts, cF s.threads, fP s.ends, aS s.said, Iv s.asked, Iv s.steps]
abbrev bW (s : aC) : AV := .r (.rp (cJ s))
abbrev dO (f : aR) : AV := .agg [Iv f.fn, Iv f.pc, Iv f.tov, Iv f.gen, Iv f.self.1, Iv f.self.2, aS f.regs, dK f.tries]
abbrev gH (c : bM) : AV := .agg [Iv c.kind, Iv c.num, aS c.vals, bL c.frames]
abbrev dT (t : aP) : AV := .agg [bL t.frames, Iv t.state, Iv t.on, Iv t.val.1, Iv t.val.2]
abbrev endA (e : EndT) : AV := .agg [Iv e.cell, Iv e.fn.1, Iv e.fn.2]
def aEb : List RV → aR
 | [.v (.int _ a), .v (.int _ b), .v (.int _ c), .v (.int _ d), .v (.int _ k), .v (.int _ n), .rs _ rs, .rs _ ts] => ⟨a, b, c, d, (k, n), valsOf rs, triesOf ts⟩
 | _ => ⟨0, 0, 0, 0, (0, 0), [], []⟩
def framesOf (xs : List (List RV)) : List aR := xs.map aEb
def aL7 : List RV → bM
 | [.v (.int _ a), .v (.int _ b), .rs _ vs, .rs _ fs] => ⟨a, b, valsOf vs, framesOf fs⟩
 | _ => ⟨0, 0, [], []⟩
def cellsOf (xs : List (List RV)) : List bM := xs.map aL7
def Yx : List RV → aP
 | [.rs _ fs, .v (.int _ a), .v (.int _ b), .v (.int _ k), .v (.int _ n)] => ⟨framesOf fs, a, b, (k, n)⟩
 | _ => ⟨[], 0, 0, (0, 0)⟩
def threadsOf (xs : List (List RV)) : List aP := xs.map Yx
def aT5 : List RV → EndT
 | [.v (.int _ a), .v (.int _ k), .v (.int _ n)] => ⟨a, (k, n)⟩
 | _ => ⟨0, (0, 0)⟩
def aF (xs : List (List RV)) : List EndT := xs.map aT5
@[go_sem] theorem mF (l : List aR) : framesOf (l.map bA) = l := by
 unfold framesOf; rw [List.map_map]; conv => rhs; rw [← List.map_id l]
 refine List.map_congr_left fun x _ => ?_
 show (⟨x.fn, x.pc, x.tov, x.gen, (x.self.1, x.self.2), valsOf (x.regs.map valR), triesOf (x.tries.map tryR)⟩ : aR) = x
 rw [pY, rP]
@[go_sem] theorem aJe (l : List bM) : cellsOf (l.map aX) = l := by
 unfold cellsOf; rw [List.map_map]; conv => rhs; rw [← List.map_id l]
 refine List.map_congr_left fun x _ => ?_
 show (⟨x.kind, x.num, valsOf (x.vals.map valR), framesOf (x.frames.map bA)⟩ : bM) = x
 rw [pY, mF]
@[go_sem] theorem aCn (l : List aP) : threadsOf (l.map aJ) = l := by
 unfold threadsOf; rw [List.map_map]; conv => rhs; rw [← List.map_id l]
 refine List.map_congr_left fun x _ => ?_
 show (⟨framesOf (x.frames.map bA), x.state, x.on, (x.val.1, x.val.2)⟩ : aP) = x
 rw [mF]
@[go_sem] theorem aMz (l : List EndT) : aF (l.map endR) = l := by
 unfold aF; rw [List.map_map]; conv => rhs; rw [← List.map_id l]
 exact List.map_congr_left fun x _ => rfl
theorem yA {xs : List (List RV)} (h : xs = (framesOf xs).map bA) : bL (framesOf xs) = .r (.rs 8 xs) := congrArg (fun z => AV.r (RV.rs 8 z)) h.symm
@[go_sem] theorem aPv (f : aR) : aR.mk f.fn f.pc f.tov f.gen f.self f.regs f.tries = f := rfl
@[go_sem] theorem aQu (c : bM) : bM.mk c.kind c.num c.vals c.frames = c := rfl
@[go_sem] theorem aMy (t : aP) : aP.mk t.frames t.state t.on t.val = t := rfl
@[go_sem] theorem aX9 (e : EndT) : EndT.mk e.cell e.fn = e := rfl
@[go_sem] theorem aN6 (s : aC) : aC.mk s.cells s.shapes s.texts s.threads s.ends s.said s.asked s.steps = s := rfl
def dZ : bM := ⟨0, 0, [], []⟩
def Mt : aR := ⟨0, 0, 0, 0, (0, 0), [], []⟩
def wZ : aP := ⟨[], 0, 0, (0, 0)⟩
def fitsF (s : aC) (v : Int × Int) : Bool :=
 gM v.1 v.2 && (if v.1 = 4 then decide (v.2 < (s.texts.length : Int)) else if v.1 = 5 then decide (v.2 < (s.cells.length : Int)) && !decide ((s.cells.getD v.2.toNat dZ).kind = 0) else true)
def isF' (s : aC) (v : Int × Int) (k : Int) : Bool := fitsF s v && decide (v.1 = 5) && decide ((s.cells.getD v.2.toNat dZ).kind = k)
structure Slen (s : aC) : Prop where
 cells : s.cells.length ≤ 9223372036854775807
 shapes : s.shapes.length ≤ 9223372036854775807
 texts : s.texts.length ≤ 9223372036854775807
 threads : s.threads.length ≤ 9223372036854775807
 ends : s.ends.length ≤ 9223372036854775807
 said : s.said.length ≤ 9223372036854775807
theorem wI {k n : Int} (h : gM k n = true) (hk : k = 4 ∨ k = 5) : 0 ≤ n := by
 unfold gM at h
 rcases hk with rfl | rfl
 ·simpa using h
 ·simpa using h
theorem mE {s : aC} {n : Int} {c : bM} (h : s.cells[n.toNat]? = some c) : s.cells.getD n.toNat dZ = c := by simp [List.getD, h]
theorem aJu (s : aC) (k n : Int) : FC Cx 117 [bW s, VV k n] [] (Bv (fitsF s (k, n))) [] := by
 have l1 : (s.cells.map aX).length = s.cells.length := List.length_map ..
 have l2 : (s.texts.map strR).length = s.texts.length := List.length_map ..
 unfold fitsF
 dsimp only
 cases hr : gM k n with
 | false =>
  rw [Bool.false_and]
  refine aD [pO] Tryz.func117 Tryz.ntmps117 Tryz.results117 ?_
  refine goR ?_
  refine fzB 3 ?_
  (any_goals refine go Jj 0 ?_)
  all_goals (try simp only [go_sem])
 | true =>
 rw [Bool.true_and]
 by_cases k4 : k = 4
 ·subst k4
  rw [if_pos rfl]
  refine aD [pO] Tryz.func117 Tryz.ntmps117 Tryz.results117 ?_
  refine goR ?_
  refine fzB 3 ?_
  (any_goals refine go Jj 0 ?_)
  all_goals (try simp only [go_sem])
 rw [if_neg k4]
 have d4 : decide (k = 4) = false := by simpa using k4
 by_cases k5 : k = 5
 ·subst k5
  rw [if_pos rfl]
  have h0 := wI hr (.inr rfl)
  by_cases hn : n < (s.cells.length : Int)
  ·have d1 : decide (n < (s.cells.length : Int)) = true := by simpa using hn
   obtain ⟨c, hc⟩ : ∃ c, s.cells[n.toNat]? = some c := ⟨s.cells[n.toNat]'(by omega), List.getElem?_eq_getElem _⟩
   have hg := aE aX hc ([] : List RV)
   rw [mE hc, d1, Bool.true_and]
   refine aD [pO] Tryz.func117 Tryz.ntmps117 Tryz.results117 ?_
   refine goR ?_
   refine fzB 3 ?_
   (any_goals refine go Jj 0 ?_)
   all_goals (try simp only [go_sem])
  ·have d1 : decide (n < (s.cells.length : Int)) = false := by simpa using hn
   rw [d1, Bool.false_and]
   refine aD [pO] Tryz.func117 Tryz.ntmps117 Tryz.results117 ?_
   refine goR ?_
   refine fzB 3 ?_
   (any_goals refine go Jj 0 ?_)
   all_goals (try simp only [go_sem])
 rw [if_neg k5]
 have d5 : decide (k = 5) = false := by simpa using k5
 refine aD [pO] Tryz.func117 Tryz.ntmps117 Tryz.results117 ?_
 refine goR ?_
 refine fzB 3 ?_
 (any_goals refine go Jj 0 ?_)
 all_goals (try simp only [go_sem])
theorem xI (ca sh tx th en sd : List (List RV)) (aq sq : Int) (h : ca = (cellsOf ca).map aX ∧ sh = (valsOf sh).map valR ∧ tx = (strsOf tx).map strR ∧ th = (threadsOf th).map aJ ∧ en = (aF en).map endR ∧ sd = (valsOf sd).map valR) : cJ ⟨cellsOf ca, valsOf sh, strsOf tx, threadsOf th, aF en, valsOf sd, aq, sq⟩ = [.rs 4 ca, .rs 2 sh, .rs 1 tx, .rs 5 th, .rs 3 en, .rs 2 sd, .v (.int .i64 aq), .v (.int .i64 sq)] := by
 obtain ⟨h1, h2, h3, h4, h5, h6⟩ := h
 show [RV.rs 4 ((cellsOf ca).map aX), .rs 2 ((valsOf sh).map valR), .rs 1 ((strsOf tx).map strR), .rs 5 ((threadsOf th).map aJ), .rs 3 ((aF en).map endR), .rs 2 ((valsOf sd).map valR), _, _] = _
 rw [← h1, ← h2, ← h3, ← h4, ← h5, ← h6]
theorem mK (ca sh tx th en sd : List (List RV)) (aq sq : Int) (h : ca = (cellsOf ca).map aX ∧ sh = (valsOf sh).map valR ∧ tx = (strsOf tx).map strR ∧ th = (threadsOf th).map aJ ∧ en = (aF en).map endR ∧ sd = (valsOf sd).map valR) : bW ⟨cellsOf ca, valsOf sh, strsOf tx, threadsOf th, aF en, valsOf sd, aq, sq⟩ = .r (.rp [.rs 4 ca, .rs 2 sh, .rs 1 tx, .rs 5 th, .rs 3 en, .rs 2 sd, .v (.int .i64 aq), .v (.int .i64 sq)]) := congrArg (fun z => AV.r (RV.rp z)) (xI _ _ _ _ _ _ _ _ h)
theorem gR (ca sh tx th en sd : List (List RV)) (aq sq : Int) (h : ca = (cellsOf ca).map aX ∧ sh = (valsOf sh).map valR ∧ tx = (strsOf tx).map strR ∧ th = (threadsOf th).map aJ ∧ en = (aF en).map endR ∧ sd = (valsOf sd).map valR) : aO ⟨cellsOf ca, valsOf sh, strsOf tx, threadsOf th, aF en, valsOf sd, aq, sq⟩ = .agg [.r (.rs 4 ca), .r (.rs 2 sh), .r (.rs 1 tx), .r (.rs 5 th), .r (.rs 3 en), .r (.rs 2 sd), Iv aq, Iv sq] := congrArg (fun z => AV.agg (z.map AV.r)) (xI _ _ _ _ _ _ aq sq h)
theorem aD5 (ca sh tx th en sd : List (List RV)) (aq sq : Int) (k n : Int) (h : ca = (cellsOf ca).map aX ∧ sh = (valsOf sh).map valR ∧ tx = (strsOf tx).map strR ∧ th = (threadsOf th).map aJ ∧ en = (aF en).map endR ∧ sd = (valsOf sd).map valR) : FC Cx 117 [.r (.rp [.rs 4 ca, .rs 2 sh, .rs 1 tx, .rs 5 th, .rs 3 en, .rs 2 sd, .v (.int .i64 aq), .v (.int .i64 sq)]), VV k n] [] (Bv (fitsF ⟨cellsOf ca, valsOf sh, strsOf tx, threadsOf th, aF en, valsOf sd, aq, sq⟩ (k, n))) [] := by
 have := aJu ⟨cellsOf ca, valsOf sh, strsOf tx, threadsOf th, aF en, valsOf sd, aq, sq⟩ k n
 rwa [mK _ _ _ _ _ _ _ _ h] at this
def uY (args : List AV) (K : AV → Prop) : Prop := match args with
 | [.r (.rp [.rs 4 ca, .rs 2 sh, .rs 1 tx, .rs 5 th, .rs 3 en, .rs 2 sd, .v (.int .i64 aq), .v (.int .i64 sq)]), .agg [.r (.v (.int .i64 k)), .r (.v (.int .i64 n))]] => (ca = (cellsOf ca).map aX ∧ sh = (valsOf sh).map valR ∧ tx = (strsOf tx).map strR ∧ th = (threadsOf th).map aJ ∧ en = (aF en).map endR ∧ sd = (valsOf sd).map valR) ∧ K (Bv (fitsF ⟨cellsOf ca, valsOf sh, strsOf tx, threadsOf th, aF en, valsOf sd, aq, sq⟩ (k, n)))
 | _ => False
noncomputable abbrev nF : Ct Cx := .pure 117 uY fun args K h => by
 unfold uY at h; split at h; exact ⟨_, aA (aD5 _ _ _ _ _ _ _ _ _ _ h.1) aRf rfl rfl, h.2⟩; exact h.elim
@[go_sem] theorem aJc : type_of% @uY.eq_def := @uY.eq_def
theorem aJ9 (s : aC) (k n : Int) : FC Cx 83 [bW s, VV k n] [] (Bv (fitsF s (k, n))) [] := by
 refine aD [nF] Tryz.func83 Tryz.ntmps83 Tryz.results83 ?_
 refine goR ?_
 refine fzB 3 ?_
 (any_goals refine go lv83 0 ?_)
 all_goals (try simp only [go_sem])
theorem aG6 (ca sh tx th en sd : List (List RV)) (aq sq : Int) (k n : Int) (h : ca = (cellsOf ca).map aX ∧ sh = (valsOf sh).map valR ∧ tx = (strsOf tx).map strR ∧ th = (threadsOf th).map aJ ∧ en = (aF en).map endR ∧ sd = (valsOf sd).map valR) : FC Cx 83 [.r (.rp [.rs 4 ca, .rs 2 sh, .rs 1 tx, .rs 5 th, .rs 3 en, .rs 2 sd, .v (.int .i64 aq), .v (.int .i64 sq)]), VV k n] [] (Bv (fitsF ⟨cellsOf ca, valsOf sh, strsOf tx, threadsOf th, aF en, valsOf sd, aq, sq⟩ (k, n))) [] := by
 have := aJ9 ⟨cellsOf ca, valsOf sh, strsOf tx, threadsOf th, aF en, valsOf sd, aq, sq⟩ k n
 rwa [mK _ _ _ _ _ _ _ _ h] at this
def uZ (args : List AV) (K : AV → Prop) : Prop := match args with
 | [.r (.rp [.rs 4 ca, .rs 2 sh, .rs 1 tx, .rs 5 th, .rs 3 en, .rs 2 sd, .v (.int .i64 aq), .v (.int .i64 sq)]), .agg [.r (.v (.int .i64 k)), .r (.v (.int .i64 n))]] => (ca = (cellsOf ca).map aX ∧ sh = (valsOf sh).map valR ∧ tx = (strsOf tx).map strR ∧ th = (threadsOf th).map aJ ∧ en = (aF en).map endR ∧ sd = (valsOf sd).map valR) ∧ K (Bv (fitsF ⟨cellsOf ca, valsOf sh, strsOf tx, threadsOf th, aF en, valsOf sd, aq, sq⟩ (k, n)))
 | _ => False
noncomputable abbrev nN : Ct Cx := .pure 83 uZ fun args K h => by
 unfold uZ at h; split at h; exact ⟨_, aA (aG6 _ _ _ _ _ _ _ _ _ _ h.1) en83 rfl rfl, h.2⟩; exact h.elim
@[go_sem] theorem aHv : type_of% @uZ.eq_def := @uZ.eq_def
theorem zF {α : Type} (l : List α) (q : α → Bool) : l.all q = !(l.any fun v => !q v) := by
 induction l with
 | nil => rfl
 | cons x l ih => rw [List.all_cons, List.any_cons, ih, Bool.not_or, Bool.not_not]
theorem Cb {s : aC} {n : Int} (h : fitsF s (5, n) = true) : 0 ≤ n ∧ n < (s.cells.length : Int) ∧ (s.cells.getD n.toNat dZ).kind ≠ 0 := by
 unfold fitsF at h
 simp only [Bool.and_eq_true] at h
 have h0 := wI h.1 (.inr rfl)
 have h2 := h.2
 simp at h2
 exact ⟨h0, h2.1, h2.2⟩
theorem aMv (s : aC) (k n : Int) : FC Cx 187 [VV k n, .r (.rp [.rp (cJ s)])] [] (Bv (!fitsF s (k, n))) [] := by
 refine aD [nF] Tryz.func187 Tryz.ntmps187 Tryz.results187 ?_
 refine goR ?_
 refine fzB 2 ?_
 (any_goals refine go aS1 0 ?_)
 all_goals (try simp only [go_sem])
theorem aS6 (s : aC) (l : List (Int × Int)) (hl : l.length ≤ 9223372036854775807) : FC Cx 170 [bW s, aS l] [] (Bv (l.all (fitsF s))) [] := by
 have hA : ∀ y, y = [aS l, .r (.fn 187 [.rp [.rp (cJ s)]])] → aT Cx 102 y (Bv (l.any fun v => !fitsF s v)) := fun y hy => by
  subst hy
  refine aA (rX l _ [.rp [.rp (cJ s)]] (fun y => ∃ v, y = valA v) (fun y => !fitsF s (valV y)) ?_ (fun x _ => ⟨x, rfl⟩) hl) Kh rfl rfl
  rintro _ ⟨v, rfl⟩
  exact aA (aMv s v.1 v.2) aTy rfl rfl
 rw [zF l (fitsF s)]
 refine aD [ctE 102 [aS l, .r (.fn 187 [.rp [.rp (cJ s)]])] (Bv (l.any fun v => !fitsF s v)) hA] Tryz.func170 Tryz.ntmps170 Tryz.results170 ?_
 refine goR ?_
 refine fzB 2 ?_
 (any_goals refine go aXg 0 ?_)
 all_goals (try simp only [go_sem])
theorem aMu (ca sh tx th en sd : List (List RV)) (aq sq : Int) (us : List (List RV)) (h : (ca = (cellsOf ca).map aX ∧ sh = (valsOf sh).map valR ∧ tx = (strsOf tx).map strR ∧ th = (threadsOf th).map aJ ∧ en = (aF en).map endR ∧ sd = (valsOf sd).map valR) ∧ us = (valsOf us).map valR ∧ us.length ≤ 9223372036854775807) : FC Cx 170 [.r (.rp [.rs 4 ca, .rs 2 sh, .rs 1 tx, .rs 5 th, .rs 3 en, .rs 2 sd, .v (.int .i64 aq), .v (.int .i64 sq)]), .r (.rs 2 us)] [] (Bv ((valsOf us).all (fitsF ⟨cellsOf ca, valsOf sh, strsOf tx, threadsOf th, aF en, valsOf sd, aq, sq⟩))) [] := by
 have := aS6 ⟨cellsOf ca, valsOf sh, strsOf tx, threadsOf th, aF en, valsOf sd, aq, sq⟩ (valsOf us) (by have := congrArg List.length h.2.1; simp at this; omega)
 rwa [mK _ _ _ _ _ _ _ _ h.1, fG h.2.1] at this
def zS (args : List AV) (K : AV → Prop) : Prop := match args with
 | [.r (.rp [.rs 4 ca, .rs 2 sh, .rs 1 tx, .rs 5 th, .rs 3 en, .rs 2 sd, .v (.int .i64 aq), .v (.int .i64 sq)]), .r (.rs 2 us)] => ((ca = (cellsOf ca).map aX ∧ sh = (valsOf sh).map valR ∧ tx = (strsOf tx).map strR ∧ th = (threadsOf th).map aJ ∧ en = (aF en).map endR ∧ sd = (valsOf sd).map valR) ∧ us = (valsOf us).map valR ∧ us.length ≤ 9223372036854775807) ∧ K (Bv ((valsOf us).all (fitsF ⟨cellsOf ca, valsOf sh, strsOf tx, threadsOf th, aF en, valsOf sd, aq, sq⟩)))
 | _ => False
noncomputable abbrev Gs : Ct Cx := .pure 170 zS fun args K h => by
 unfold zS at h; split at h; exact ⟨_, aA (aMu _ _ _ _ _ _ _ _ _ h.1) aRd rfl rfl, h.2⟩; exact h.elim
@[go_sem] theorem aJz : type_of% @zS.eq_def := @zS.eq_def
theorem is_c (s : aC) (k n q : Int) : FC Cx 121 [bW s, VV k n, Iv q] [] (Bv (isF' s (k, n) q)) [] := by
 have l1 : (s.cells.map aX).length = s.cells.length := List.length_map ..
 unfold isF'
 cases hf : fitsF s (k, n) with
 | false =>
  simp only [Bool.false_and]
  refine aD [nF] Tryz.func121 Tryz.ntmps121 Tryz.results121 ?_
  refine goR ?_
  refine fzB 4 ?_
  (any_goals refine go Yu 0 ?_)
  all_goals (try simp only [go_sem])
 | true =>
 by_cases k5 : k = 5
 ·subst k5
  obtain ⟨h0, h1, h2⟩ := Cb hf
  obtain ⟨c, hc⟩ : ∃ c, s.cells[n.toNat]? = some c := ⟨s.cells[n.toNat]'(by omega), List.getElem?_eq_getElem _⟩
  have hg := aE aX hc ([] : List RV)
  rw [mE hc]
  refine aD [nF] Tryz.func121 Tryz.ntmps121 Tryz.results121 ?_
  refine goR ?_
  refine fzB 4 ?_
  (any_goals refine go Yu 0 ?_)
  all_goals (try simp only [go_sem])
 ·have d5 : decide (k = 5) = false := by simpa using k5
  simp only [d5, Bool.and_false, Bool.false_and]
  refine aD [nF] Tryz.func121 Tryz.ntmps121 Tryz.results121 ?_
  refine goR ?_
  refine fzB 4 ?_
  (any_goals refine go Yu 0 ?_)
  all_goals (try simp only [go_sem])
theorem aUw (ca sh tx th en sd : List (List RV)) (aq sq : Int) (k n q : Int) (h : ca = (cellsOf ca).map aX ∧ sh = (valsOf sh).map valR ∧ tx = (strsOf tx).map strR ∧ th = (threadsOf th).map aJ ∧ en = (aF en).map endR ∧ sd = (valsOf sd).map valR) : FC Cx 121 [.r (.rp [.rs 4 ca, .rs 2 sh, .rs 1 tx, .rs 5 th, .rs 3 en, .rs 2 sd, .v (.int .i64 aq), .v (.int .i64 sq)]), VV k n, Iv q] [] (Bv (isF' ⟨cellsOf ca, valsOf sh, strsOf tx, threadsOf th, aF en, valsOf sd, aq, sq⟩ (k, n) q)) [] := by
 have := is_c ⟨cellsOf ca, valsOf sh, strsOf tx, threadsOf th, aF en, valsOf sd, aq, sq⟩ k n q
 rwa [mK _ _ _ _ _ _ _ _ h] at this
def Ga (args : List AV) (K : AV → Prop) : Prop := match args with
 | [.r (.rp [.rs 4 ca, .rs 2 sh, .rs 1 tx, .rs 5 th, .rs 3 en, .rs 2 sd, .v (.int .i64 aq), .v (.int .i64 sq)]), .agg [.r (.v (.int .i64 k)), .r (.v (.int .i64 n))], .r (.v (.int .i64 q))] => (ca = (cellsOf ca).map aX ∧ sh = (valsOf sh).map valR ∧ tx = (strsOf tx).map strR ∧ th = (threadsOf th).map aJ ∧ en = (aF en).map endR ∧ sd = (valsOf sd).map valR) ∧ K (Bv (isF' ⟨cellsOf ca, valsOf sh, strsOf tx, threadsOf th, aF en, valsOf sd, aq, sq⟩ (k, n) q))
 | _ => False
noncomputable abbrev aBf : Ct Cx := .pure 121 Ga fun args K h => by
 unfold Ga at h; split at h; exact ⟨_, aA (aUw _ _ _ _ _ _ _ _ _ _ _ h.1) aWi rfl rfl, h.2⟩; exact h.elim
@[go_sem] theorem aPi : type_of% @Ga.eq_def := @Ga.eq_def
def evK {α : Type} : List α → List α
 | [] => []
 | [a] => [a]
 | a :: _ :: l => a :: evK l
theorem Cf {α : Type} : ∀ (l : List α) (j : Nat), (evK l)[j]? = l[2 * j]?
 | [], j => by simp [evK]
 | [a], j => by
  cases j with
  | zero => rfl
  | succ j => simp [evK]
 | a :: b :: l, j => by
  cases j with
  | zero => rfl
  | succ j =>
   have e : 2 * (j + 1) = 2 * j + 1 + 1 := by omega
   rw [e]
   simp only [evK, List.getElem?_cons_succ]
   exact Cf l j
theorem Gk {α : Type} : ∀ (l : List α), (evK l).length = (l.length + 1) / 2
 | [] => by simp [evK]
 | [a] => by simp [evK]
 | a :: b :: l => by simp only [evK, List.length_cons, Gk l]; omega
def pG (l : List (Int × Int)) : Bool := ((evK l).all fun v => decide (v.1 = 5)) && decide ((evK l).map (·.2)).Nodup && decide (l.length % 2 = 0)
def WI (n : Int) : Prop := (Lit.int .i64 n).wf = true
open Classical in
noncomputable def eL (S : List Int) (k : Value) : Option Value := if ∃ n ∈ S, k = .int .i64 n then some (.int .i64 1) else none
theorem Bc {S : List Int} {n : Int} (h : n ∉ S) : eL S (.int .i64 n) = none := by
 unfold eL
 rw [if_neg]
 rintro ⟨q, hq, he⟩
 cases he
 exact h hq
theorem xG {S : List Int} {n : Int} (h : n ∈ S) : eL S (.int .i64 n) = some (.int .i64 1) := by
 unfold eL
 rw [if_pos ⟨n, h, rfl⟩]
theorem Du (S : List Int) (n : Int) : updF (eL S) (.int .i64 n) (.int .i64 1) = eL (n :: S) := by
 funext k
 unfold updF eL
 by_cases h : k = .int .i64 n
 ·rw [if_pos h, if_pos ⟨n, List.mem_cons_self .., h⟩]
 ·rw [if_neg h]
  by_cases h2 : ∃ q ∈ S, k = .int .i64 q
  ·obtain ⟨q, hq, he⟩ := h2
   rw [if_pos ⟨q, hq, he⟩, if_pos ⟨q, List.mem_cons_of_mem _ hq, he⟩]
  ·rw [if_neg h2, if_neg]
   rintro ⟨q, hq, he⟩
   rcases List.mem_cons.1 hq with rfl | hq
   ·exact h he
   ·exact h2 ⟨q, hq, he⟩
theorem Ej : eL [] = fun _ => none := by
 funext k; unfold eL; rw [if_neg]; simp
theorem Oy {S S' : List Int} (h : ∀ s, s ∈ S ↔ s ∈ S') : eL S = eL S' := by
 funext k
 unfold eL
 have : (∃ s ∈ S, k = .int .i64 s) ↔ ∃ s ∈ S', k = .int .i64 s := ⟨fun ⟨s, h1, h2⟩ => ⟨s, (h s).1 h1, h2⟩, fun ⟨s, h1, h2⟩ => ⟨s, (h s).2 h1, h2⟩⟩
 by_cases hx : ∃ s ∈ S, k = .int .i64 s
 ·rw [if_pos hx, if_pos (this.1 hx)]
 ·rw [if_neg hx, if_neg fun h => hx (this.2 h)]
theorem keyI (n : Int) (h : WI n) : ∃ l, keyOf Tryz.prog 3 (.int .i64 n) = some l := by
 refine ⟨.int .i64 n, ?_⟩
 simp [keyOf, mapKey, Tryz.underlying3, show (Lit.int .i64 n).wf = true from h]
theorem wU {S : List Int} (hS : ∀ s ∈ S, WI s) {n : Int} (hn : WI n) : rG Tryz.prog 109 (eL S) (.int .i64 n) := by
 refine ⟨⟨_, _, Tryz.underlying109, .int Tryz.underlying3, keyI n hn, fun k' v' h => ?_⟩⟩
 unfold eL at h
 split at h
 ·rename_i hq
  obtain ⟨q, hq, rfl⟩ := hq
  exact keyI q (hS q hq)
 ·cases h
theorem zZ {l : List (Int × Int)} (h1 : ((evK l).all fun v => decide (v.1 = 5)) = true) (h2 : ((evK l).map (·.2)).Nodup) : pG l = decide (l.length % 2 = 0) := by
 unfold pG; rw [h1, decide_eq_true h2]; rfl
theorem Bt {l : List (Int × Int)} {j : Nat} {v : Int × Int} (h : (evK l)[j]? = some v) (hv : v.1 ≠ 5) : pG l = false := by
 unfold pG
 have : ((evK l).all fun v => decide (v.1 = 5)) = false := by
  rw [Bool.eq_false_iff]; intro h3
  have := List.all_eq_true.1 h3 v (List.mem_of_getElem? h)
  simp at this; exact hv this
 rw [this]; rfl
theorem yK {l : List (Int × Int)} {j : Nat} {v : Int × Int} (h : (evK l)[j]? = some v) (hv : v.2 ∈ ((evK l).take j).map (·.2)) : pG l = false := by
 unfold pG
 have : ¬ ((evK l).map (·.2)).Nodup := fun hn => by
  rw [List.map_take] at hv
  obtain ⟨i, hi⟩ := List.mem_iff_getElem?.1 hv
  rw [List.getElem?_take] at hi
  split at hi
  ·rename_i hij
   have hj : ((evK l).map (·.2))[j]? = some v.2 := by rw [List.getElem?_map, h]; rfl
   have h1 := (List.getElem?_eq_some_iff.1 hj).1
   have := (List.getElem?_inj h1 hn).1 (hj.trans hi.symm)
   omega
  ·cases hi
 rw [decide_eq_false this]; simp
theorem aMo (l : List (Int × Int)) (x : AV) (hl : l.length ≤ 9223372036854775800) (hw : ∀ v ∈ l, WI v.2) (hx : bI bO x = true) : FC Cx 169 [x, aS l] [] (Bv (pG l)) [] := by
 have l1 : (l.map valR).length = l.length := List.length_map ..
 refine aD [] Tryz.func169 Tryz.ntmps169 Tryz.results169 ?_
 (any_goals refine go Li 0 ?_)
 refine bX (fun x : Nat × Nat => x.1 ≤ (evK l).length ∧ (((evK l).take x.1).all fun v => decide (v.1 = 5)) = true ∧ (((evK l).take x.1).map (·.2)).Nodup)
  (fun x => ⟨40, [(1, aS l), (5, .os 7 1), (6, Iv ((2 * x.1 : Nat) : Int))], [(7, 1, .mp (eL (((evK l).take x.1).map (·.2))) x.2)]⟩) (fun x => (evK l).length - x.1) (0, 0) ⟨Nat.zero_le _, rfl, List.nodup_nil⟩ ?_ rfl ?_ ⟨rfl, .inl ⟨rfl, by simp [Ej]⟩, trivial⟩
 rotate_left
 ·exact ⟨rfl, rfl, rfl, trivial⟩
 rintro ⟨j, n⟩ ⟨hj, h5, hn⟩
 dsimp only at hj h5 hn ⊢
 have hlen := Gk l
 by_cases hlt : 2 * j < l.length
 case neg =>
  have e1 : decide (((2 * j : Nat) : Int) < (l.length : Int)) = false := by rw [decide_eq_false_iff_not]; omega
  have ej : (evK l).take j = evK l := List.take_of_length_le (by omega)
  rw [ej] at h5 hn
  have hF := zZ h5 hn
  (any_goals refine go Li 0 ?_)
  all_goals (try simp only [go_sem])
  rw [hF]
  refine congrArg (fun b => Bv b) ?_
  rw [decide_eq_decide, show ((l.length : Int)).tmod 2 = ((l.length % 2 : Nat) : Int) from rfl]
  omega
 have e1 : decide (((2 * j : Nat) : Int) < (l.length : Int)) = true := by rw [decide_eq_true_eq]; omega
 have t1 : Int.toNat ((2 * j : Nat) : Int) = 2 * j := by omega
 have w1 : IntKind.i64.wrap (((2 * j : Nat) : Int) + 2) = ((2 * (j + 1) : Nat) : Int) := by rw [aL] <;> omega
 obtain ⟨v, hv⟩ : ∃ v, l[2 * j]? = some v := ⟨l[2 * j], List.getElem?_eq_getElem hlt⟩
 have hg := aE valR hv ([] : List RV)
 have hev : (evK l)[j]? = some v := by rw [Cf]; exact hv
 have hk : j < (evK l).length := (List.getElem?_eq_some_iff.1 hev).1
 by_cases hv5 : v.1 = 5
 case neg =>
  have d5 : decide (v.1 = 5) = false := by simpa using hv5
  have hF := Bt hev hv5
  (any_goals refine go Li 0 ?_)
  all_goals (try simp only [go_sem, hF])
 have d5 : decide (v.1 = 5) = true := by simpa using hv5
 have hM : rG Tryz.prog 109 (eL (((evK l).take j).map (·.2))) (.int .i64 v.2) := wU (fun q hq => by
  obtain ⟨z, hz, rfl⟩ := List.mem_map.1 hq
  have := List.mem_of_mem_take hz
  obtain ⟨i, hi⟩ := List.mem_iff_getElem?.1 this
  rw [Cf] at hi
  exact hw z (List.mem_of_getElem? hi)) (hw v (List.mem_of_getElem? hv))
 by_cases hin : v.2 ∈ ((evK l).take j).map (·.2)
 ·have d6 := xG hin
  have hF := yK hev hin
  (any_goals refine go Li 0 ?_)
  all_goals (try simp only [go_sem, hF])
 ·have d6 := Bc hin
  (any_goals refine go Li 0 ?_)
  have et : (evK l).take (j + 1) = (evK l).take j ++ [v] := by rw [List.take_add_one, hev]; rfl
  refine ⟨(j + 1, updN (eL (((evK l).take j).map (·.2))) (.int .i64 v.2) n), ⟨by dsimp only; omega, by dsimp only; rw [et, List.all_append, h5]; simp [hv5], ?_⟩, by dsimp only; omega, ⟨rfl, pJ ⟨rfl, rfl, rfl, trivial⟩, oS ⟨rfl, .inl ⟨rfl, ?_⟩, trivial⟩⟩⟩
  ·dsimp only
   rw [et, List.map_append]
   refine List.nodup_append.2 ⟨hn, by simp, fun a ha b hb => ?_⟩
   simp at hb; subst hb
   exact fun e => hin (e ▸ ha)
  ·refine congrArg (fun f => Res.mp f _) ?_
   rw [Du]
   dsimp only
   refine Oy fun q => ?_
   rw [et, List.map_append]
   simp [or_comm]
theorem Mk (l : List aR) (f : Nat) (caps : List RV) (dom : AV → Prop) (pv : AV → Bool) (h : ∀ y, dom y → aT Cx f (y :: caps.map AV.r) (Bv (pv y))) (hd : ∀ x ∈ l, dom (dO x)) (hl : l.length ≤ 9223372036854775807) :
  FC Cx 188 [bL l, .r (.fn f caps)] [] (Iv (fidx (fun x => pv (dO x)) l)) [] := by
 have hlen : (l.map bA).length = l.length := List.length_map ..
 refine aD [ctF f caps dom pv h] Tryz.func188 Tryz.ntmps188 Tryz.results188 ?_
 (any_goals refine go Rr 0 ?_)
 refine dX [0, 1, 7, 8] (fun i => i ≤ l.length ∧ ∀ j x, j < i → l[j]? = some x → pv (dO x) = false) (fun (i : Nat) => ⟨19, [(0, bL l), (1, .r (.fn f caps)), (7, Iv l.length), (8, Iv i)], []⟩) (fun i => l.length - i) 0 rfl (by rw [← hlen]; rfl) rfl ⟨Nat.zero_le _, fun j x hj => by omega⟩ ?_
 rintro i ⟨hi, hno⟩
 by_cases hlt : i < l.length
 ·obtain ⟨x, hx⟩ : ∃ x, l[i]? = some x := ⟨l[i], List.getElem?_eq_getElem hlt⟩
  have hg := aE bA hx ([] : List RV)
  have hdx := hd x (List.mem_of_getElem? hx)
  have hw : IntKind.i64.wrap ((i : Int) + 1) = ((i + 1 : Nat) : Int) := by rw [aL] <;> omega
  have h1 : decide ((i : Int) < (l.length : Int)) = true := by rw [decide_eq_true_eq]; omega
  have h2 : Int.toNat (i : Int) = i := by omega
  cases hp : pv (dO x) with
  | true =>
   (any_goals refine go Rr 0 ?_)
   all_goals (try simp only [go_sem])
   rw [iZ hx hp fun j y hj hy => hno j y hj hy]
  | false =>
   (any_goals refine go Rr 0 ?_)
   refine ⟨i + 1, ⟨by omega, fun j y hj hy => ?_⟩, by omega, eZ [0, 1, 7, 8] rfl rfl rfl⟩
   rcases Nat.lt_succ_iff_lt_or_eq.1 hj with h3 | h3
   ·exact hno j y h3 hy
   ·subst h3; rw [hx] at hy; cases hy; exact hp
 ·have h1 : decide ((i : Int) < (l.length : Int)) = false := by rw [decide_eq_false_iff_not]; omega
  (any_goals refine go Rr 0 ?_)
  all_goals (try simp only [go_sem])
  rw [gL fun j y hy => hno j y (by have := (List.getElem?_eq_some_iff.1 hy).1; omega) hy]
theorem Nh (l : List aR) (f : Nat) (caps : List RV) (dom : AV → Prop) (pv : AV → Bool) (h : ∀ y, dom y → aT Cx f (y :: caps.map AV.r) (Bv (pv y))) (hd : ∀ x ∈ l, dom (dO x)) (hl : l.length ≤ 9223372036854775807) :
  FC Cx 171 [bL l, .r (.fn f caps)] [] (Bv (l.any fun x => pv (dO x))) [] := by
 have hA : ∀ y, y = [bL l, .r (.fn f caps)] → aT Cx 188 y (Iv (fidx (fun x => pv (dO x)) l)) := fun y hy => by
  subst hy; exact aA (Mk l f caps dom pv h hd hl) aUp rfl rfl
 refine aD [ctE 188 [bL l, .r (.fn f caps)] (Iv (fidx (fun x => pv (dO x)) l)) hA] Tryz.func171 Tryz.ntmps171 Tryz.results171 ?_
 (any_goals refine go aXi 0 ?_)
 all_goals (try simp only [go_sem])
 all_goals (try rw [iA])
structure Gwf (f : aR) : Prop where
 regs : f.regs.length ≤ 9223372036854775807
 tries : f.tries.length ≤ 9223372036854775807
 gen : WI f.gen
structure Cwf (c : bM) : Prop where
 vals : c.vals.length ≤ 9223372036854775807
 val : ∀ v ∈ c.vals, WI v.2
 frames : c.frames.length ≤ 9223372036854775807
 frame : ∀ f ∈ c.frames, Gwf f
structure Swf (s : aC) : Prop where
 len : Slen s
 shapes : Sh.Wf s.shapes
 cell : ∀ c ∈ s.cells, Cwf c
 thread : ∀ t ∈ s.threads, t.frames.length ≤ 9223372036854775807 ∧ ∀ f ∈ t.frames, Gwf f
noncomputable section
def numF (s : aC) (c : bM) : Bool :=
 if c.kind = 1 then decide (0 ≤ c.num ∧ c.num ≤ (s.shapes.length : Int) - 1) else if c.kind = 4 then decide (0 ≤ c.num) else if c.kind = 5 then decide (0 ≤ c.num ∧ c.num ≤ 2) else
 if c.kind = 6 then decide (-1 ≤ c.num ∧ c.num ≤ 4) else decide (c.num = 0)
def hZ (s : aC) (c : bM) : Bool :=
 if c.kind = 1 then numF s c && decide ((c.vals.length : Int) = ((Sh.namesF s.shapes c.num).length : Int)) else if c.kind = 2 then true else if c.kind = 3 then decide ((c.vals.length : Int) = 1) else
 if c.kind = 4 then !(c.vals.any fun v => !isF' s v 3) else if c.kind = 7 then pG c.vals else decide ((c.vals.length : Int) = 0)
def dE (c : bM) : Int := if c.kind = 5 ∧ c.num = 0 then 1 else 0
def nB (s : aC) (f : aR) : Bool := f.regs.all (fitsF s) && fitsF s f.self
def eB (s : aC) (c : bM) : Bool := decide (0 ≤ c.kind ∧ c.kind ≤ 7) && numF s c && hZ s c && decide ((c.frames.length : Int) = dE c) && c.vals.all (fitsF s) && c.frames.all (nB s)
end
def Yf : AV → aR
 | .agg [.r (.v (.int _ a)), .r (.v (.int _ b)), .r (.v (.int _ c)), .r (.v (.int _ d)), .r (.v (.int _ k)), .r (.v (.int _ n)), .r (.rs _ rs), .r (.rs _ ts)] => ⟨a, b, c, d, (k, n), valsOf rs, triesOf ts⟩
 | _ => Mt
theorem Ly (f : aR) : Yf (dO f) = f := by
 show (⟨f.fn, f.pc, f.tov, f.gen, (f.self.1, f.self.2), valsOf (f.regs.map valR), triesOf (f.tries.map tryR)⟩ : aR) = f
 rw [pY, rP]
theorem aEf (s : aC) (k n : Int) : FC Cx 168 [VV k n, .r (.rp [.rp (cJ s)])] [] (Bv (!isF' s (k, n) 3)) [] := by
 refine aD [aBf] Tryz.func168 Tryz.ntmps168 Tryz.results168 ?_
 refine goR ?_
 refine fzB 2 ?_
 (any_goals refine go aWy 0 ?_)
 all_goals (try simp only [go_sem])
theorem aHg (s : aC) (f : aR) (hf : Gwf f) : FC Cx 172 [dO f, .r (.rp [.rp (cJ s)])] [] (Bv (!nB s f)) [] := by
 have l1 : (f.regs.map valR).length = f.regs.length := List.length_map ..
 have h1 := hf.regs
 unfold nB
 cases hb : f.regs.all (fitsF s)
 all_goals
  refine aD [Gs, nF] Tryz.func172 Tryz.ntmps172 Tryz.results172 ?_
  refine goR ?_
  refine fzB 2 ?_
  (any_goals refine go aSp 0 ?_)
  all_goals (try simp only [go_sem])
  all_goals simp
theorem Tt (n lo hi : Int) : FC Cx 120 [Iv n, Iv lo, Iv hi] [] (Bv (decide (lo ≤ n ∧ n ≤ hi))) [] := by
 refine aD [] Tryz.func120 Tryz.ntmps120 Tryz.results120 ?_
 (any_goals refine go aQ1 0 ?_)
 all_goals (try simp only [go_sem])
 all_goals simp_all
 all_goals omega
def qF (args : List AV) (K : AV → Prop) : Prop := match args with
 | [.r (.v (.int .i64 n)), .r (.v (.int .i64 lo)), .r (.v (.int .i64 hi))] => K (Bv (decide (lo ≤ n ∧ n ≤ hi)))
 | _ => False
noncomputable abbrev uH : Ct Cx := .pure 120 qF fun args K h => by
 unfold qF at h; split at h; exact ⟨_, aA (Tt _ _ _) aQ7 rfl rfl, h⟩; exact h.elim
@[go_sem] theorem aCo : type_of% @qF.eq_def := @qF.eq_def
theorem aGy (x : RV) (us : List (List RV)) (h : us = (valsOf us).map valR ∧ (valsOf us).length ≤ 1000 ∧ ∀ v ∈ valsOf us, WI v.2) : FC Cx 169 [.r x, .r (.rs 2 us)] [] (Bv (pG (valsOf us))) [] := by
 have := aMo (valsOf us) (.r x) (by omega) h.2.2 rfl
 rwa [fG h.1] at this
def wK (args : List AV) (K : AV → Prop) : Prop := match args with
 | [.r x, .r (.rs 2 us)] => (us = (valsOf us).map valR ∧ (valsOf us).length ≤ 1000 ∧ ∀ v ∈ valsOf us, WI v.2) ∧ K (Bv (pG (valsOf us)))
 | _ => False
noncomputable abbrev Lc : Ct Cx := .pure 169 wK fun args K h => by
 unfold wK at h; split at h; exact ⟨_, aA (aGy _ _ h.1) aSf rfl rfl, h.2⟩; exact h.elim
@[go_sem] theorem aIn : type_of% @wK.eq_def := @wK.eq_def
theorem aJ8 (s : aC) (c : bM) (hs : Swf s) (hc : Cwf c) (hv6 : c.vals.length ≤ 600) : FC Cx 115 [bW s, gH c] [] (Bv (eB s c)) [] := by
 have l1 : (c.vals.map valR).length = c.vals.length := List.length_map ..
 have l2 : (c.frames.map bA).length = c.frames.length := List.length_map ..
 have l3 : (s.shapes.map valR).length = s.shapes.length := List.length_map ..
 have hsl := hs.len.shapes
 have hcf := hc.frames
 have hw := hs.shapes
 have hwi := hc.val
 have hv7 : c.vals.length ≤ 1000 := by omega
 have w1 : IntKind.i64.wrap ((s.shapes.length : Int) - 1) = (s.shapes.length : Int) - 1 := by rw [aL] <;> omega
 have ln : ((Sh.namesF s.shapes c.num).map Sh.intR).length = (Sh.namesF s.shapes c.num).length := List.length_map ..
 have hA : ∀ y, y = [aS c.vals, .r (.fn 168 [.rp [.rp (cJ s)]])] → aT Cx 102 y (Bv (c.vals.any fun v => !isF' s v 3)) := fun y hy => by
  subst hy
  refine aA (rX c.vals _ [.rp [.rp (cJ s)]] (fun y => ∃ v, y = valA v) (fun y => !isF' s (valV y) 3) ?_ (fun x _ => ⟨x, rfl⟩) (by omega)) Kh rfl rfl
  rintro _ ⟨v, rfl⟩
  exact aA (aEf s v.1 v.2) aT1 rfl rfl
 have hB : ∀ y, y = [bL c.frames, .r (.fn 172 [.rp [.rp (cJ s)]])] → aT Cx 171 y (Bv (c.frames.any fun f => !nB s f)) := fun y hy => by
  subst hy
  have h := Nh c.frames 172 [.rp [.rp (cJ s)]] (fun y => ∃ f, Gwf f ∧ y = dO f) (fun y => !nB s (Yf y)) (by
   rintro _ ⟨f, hf, rfl⟩
   have := aHg s f hf
   rw [Ly]
   exact aA this aUv rfl rfl) (fun x hx => ⟨x, hc.frame x hx, rfl⟩) hcf
  simp only [Ly] at h
  exact aA h aTu rfl rfl
 have eC : eB s c = (decide (0 ≤ c.kind ∧ c.kind ≤ 7) && !(!numF s c || !hZ s c || !decide ((c.frames.length : Int) = dE c) || !(c.vals.all (fitsF s))) && !(c.frames.any fun f => !nB s f)) := by
  unfold eB
  rw [zF c.frames]
  simp only [Bool.not_or, Bool.not_not, Bool.and_assoc]
 by_cases hk : 0 ≤ c.kind ∧ c.kind ≤ 7
 case neg =>
  rw [eC, decide_eq_false hk, Bool.false_and, Bool.false_and]
  have d0 : decide (c.kind = 0) = false := by rw [decide_eq_false_iff_not]; omega
  have d1 : decide (c.kind = 1) = false := by rw [decide_eq_false_iff_not]; omega
  have d2 : decide (c.kind = 2) = false := by rw [decide_eq_false_iff_not]; omega
  have d3 : decide (c.kind = 3) = false := by rw [decide_eq_false_iff_not]; omega
  have d4 : decide (c.kind = 4) = false := by rw [decide_eq_false_iff_not]; omega
  have d5 : decide (c.kind = 5) = false := by rw [decide_eq_false_iff_not]; omega
  have d6 : decide (c.kind = 6) = false := by rw [decide_eq_false_iff_not]; omega
  have d7 : decide (c.kind = 7) = false := by rw [decide_eq_false_iff_not]; omega
  refine aD [uH, Sh.ct_Names, Lc, Gs] Tryz.func115 Tryz.ntmps115 Tryz.results115 ?_
  refine goR ?_
  refine fzB 2 ?_
  refine fzB 3 ?_
  (any_goals refine go pF 0 ?_)
  all_goals (try simp only [go_sem])
 rw [eC, decide_eq_true hk, Bool.true_and]
 refine aD [uH, Sh.ct_Names, Lc, Gs, ctE 102 [aS c.vals, .r (.fn 168 [.rp [.rp (cJ s)]])] (Bv (c.vals.any fun v => !isF' s v 3)) hA, ctE 171 [bL c.frames, .r (.fn 172 [.rp [.rp (cJ s)]])] (Bv (c.frames.any fun f => !nB s f)) hB] Tryz.func115 Tryz.ntmps115 Tryz.results115 ?_
 refine goR ?_
 refine fzB 2 ?_
 refine fzB 3 ?_
 (any_goals refine go (eM 2 pF) 0 ?_)
 refine goR1 pF 0 ?_
 refine mJ (st' := ⟨107, [(2, .r (.rp [.rp (cJ s)])), (3, .r (.rp (aX c))), (5, Bv (numF s c)), (6, Bv (hZ s c)), (7, Iv (dE c))], [(2, 2, .gone), (3, 2, .gone)]⟩) True rfl ?_ fun _ => ?_
 ·clear eC
  obtain ⟨kind, num, vals, frames⟩ := c
  dsimp only at *
  have k8 : kind = 0 ∨ kind = 1 ∨ kind = 2 ∨ kind = 3 ∨ kind = 4 ∨ kind = 5 ∨ kind = 6 ∨ kind = 7 := by omega
  rcases k8 with rfl | rfl | rfl | rfl | rfl | rfl | rfl | rfl
  ·rw [show numF s ⟨0, num, vals, frames⟩ = decide (num = 0) from rfl, show hZ s ⟨0, num, vals, frames⟩ = decide ((vals.length : Int) = 0) from rfl, show dE ⟨0, num, vals, frames⟩ = 0 from rfl]
   (any_goals refine go pF 0 ?_)
   all_goals (try simp only [go_sem])
   exact Lx.le bE
  ·rw [show numF s ⟨1, num, vals, frames⟩ = decide (0 ≤ num ∧ num ≤ (s.shapes.length : Int) - 1) from rfl, show hZ s ⟨1, num, vals, frames⟩ = (decide (0 ≤ num ∧ num ≤ (s.shapes.length : Int) - 1) && decide ((vals.length : Int) = ((Sh.namesF s.shapes num).length : Int))) from rfl, show dE ⟨1, num, vals, frames⟩ = 0 from rfl]
   cases hb : decide (0 ≤ num ∧ num ≤ (s.shapes.length : Int) - 1)
   all_goals
    (any_goals refine go pF 0 ?_)
    all_goals (try simp only [go_sem])
    exact Lx.le bE
  ·rw [show numF s ⟨2, num, vals, frames⟩ = decide (num = 0) from rfl, show hZ s ⟨2, num, vals, frames⟩ = true from rfl, show dE ⟨2, num, vals, frames⟩ = 0 from rfl]
   (any_goals refine go pF 0 ?_)
   all_goals (try simp only [go_sem])
   exact Lx.le bE
  ·rw [show numF s ⟨3, num, vals, frames⟩ = decide (num = 0) from rfl, show hZ s ⟨3, num, vals, frames⟩ = decide ((vals.length : Int) = 1) from rfl, show dE ⟨3, num, vals, frames⟩ = 0 from rfl]
   (any_goals refine go pF 0 ?_)
   all_goals (try simp only [go_sem])
   exact Lx.le bE
  ·rw [show numF s ⟨4, num, vals, frames⟩ = decide (0 ≤ num) from rfl, show hZ s ⟨4, num, vals, frames⟩ = !(vals.any fun v => !isF' s v 3) from rfl, show dE ⟨4, num, vals, frames⟩ = 0 from rfl]
   (any_goals refine go pF 0 ?_)
   all_goals (try simp only [go_sem])
   exact Lx.le bE
  ·rw [show numF s ⟨5, num, vals, frames⟩ = decide (0 ≤ num ∧ num ≤ 2) from rfl, show hZ s ⟨5, num, vals, frames⟩ = decide ((vals.length : Int) = 0) from rfl]
   by_cases n0 : num = 0
   ·subst n0
    rw [show dE ⟨5, 0, vals, frames⟩ = 1 from rfl]
    (any_goals refine go pF 0 ?_)
    all_goals (try simp only [go_sem])
    exact Lx.le bE
   ·have d0 : decide (num = 0) = false := by simpa using n0
    rw [show dE ⟨5, num, vals, frames⟩ = 0 from if_neg (fun h => n0 h.2)]
    (any_goals refine go pF 0 ?_)
    all_goals (try simp only [go_sem])
    exact Lx.le bE
  ·rw [show numF s ⟨6, num, vals, frames⟩ = decide (-1 ≤ num ∧ num ≤ 4) from rfl, show hZ s ⟨6, num, vals, frames⟩ = decide ((vals.length : Int) = 0) from rfl, show dE ⟨6, num, vals, frames⟩ = 0 from rfl]
   (any_goals refine go pF 0 ?_)
   all_goals (try simp only [go_sem])
   exact Lx.le bE
  ·rw [show numF s ⟨7, num, vals, frames⟩ = decide (num = 0) from rfl, show hZ s ⟨7, num, vals, frames⟩ = pG vals from rfl, show dE ⟨7, num, vals, frames⟩ = 0 from rfl]
   (any_goals refine go pF 0 ?_)
   all_goals (try simp only [go_sem])
   exact Lx.le bE
 generalize numF s c = b1
 generalize hZ s c = b2
 generalize dE c = b3
 generalize hb4 : c.vals.all (fitsF s) = b4
 clear eC
 (any_goals refine go pF 0 ?_)
 repeat' (first | (refine Br.go (fun h h' => ?_) (fun h h' => ?_)) | (refine Br.mk (fun h => ?_) (fun h => ?_)))
 all_goals (try simp only [go_sem])
 all_goals clear hb4 hA hB hwi
 all_goals (simp_all; done)
theorem aGr (ca sh tx th en sd : List (List RV)) (aq sq : Int) (c1 c2 : Int) (us vs : List (List RV)) (h : ((ca = (cellsOf ca).map aX ∧ sh = (valsOf sh).map valR ∧ tx = (strsOf tx).map strR ∧ th = (threadsOf th).map aJ ∧ en = (aF en).map endR ∧ sd = (valsOf sd).map valR) ∧ us = (valsOf us).map valR ∧ vs = (framesOf vs).map bA) ∧ Swf ⟨cellsOf ca, valsOf sh, strsOf tx, threadsOf th, aF en, valsOf sd, aq, sq⟩ ∧ Cwf ⟨c1, c2, valsOf us, framesOf vs⟩ ∧ (valsOf us).length ≤ 600) : FC Cx 115 [.r (.rp [.rs 4 ca, .rs 2 sh, .rs 1 tx, .rs 5 th, .rs 3 en, .rs 2 sd, .v (.int .i64 aq), .v (.int .i64 sq)]), .agg [Iv c1, Iv c2, .r (.rs 2 us), .r (.rs 8 vs)]] [] (Bv (eB ⟨cellsOf ca, valsOf sh, strsOf tx, threadsOf th, aF en, valsOf sd, aq, sq⟩ ⟨c1, c2, valsOf us, framesOf vs⟩)) [] := by
 have := aJ8 ⟨cellsOf ca, valsOf sh, strsOf tx, threadsOf th, aF en, valsOf sd, aq, sq⟩ ⟨c1, c2, valsOf us, framesOf vs⟩ h.2.1 h.2.2.1 h.2.2.2
 rwa [mK _ _ _ _ _ _ _ _ h.1.1, show gH ⟨c1, c2, valsOf us, framesOf vs⟩ = .agg [Iv c1, Iv c2, .r (.rs 2 us), .r (.rs 8 vs)] from by
  show AV.agg [Iv c1, Iv c2, aS (valsOf us), bL (framesOf vs)] = _
  rw [fG h.1.2.1, yA h.1.2.2]] at this
def wC (args : List AV) (K : AV → Prop) : Prop := match args with
 | [.r (.rp [.rs 4 ca, .rs 2 sh, .rs 1 tx, .rs 5 th, .rs 3 en, .rs 2 sd, .v (.int .i64 aq), .v (.int .i64 sq)]), .agg [.r (.v (.int .i64 c1)), .r (.v (.int .i64 c2)), .r (.rs 2 us), .r (.rs 8 vs)]] => (((ca = (cellsOf ca).map aX ∧ sh = (valsOf sh).map valR ∧ tx = (strsOf tx).map strR ∧ th = (threadsOf th).map aJ ∧ en = (aF en).map endR ∧ sd = (valsOf sd).map valR) ∧ us = (valsOf us).map valR ∧ vs = (framesOf vs).map bA) ∧ Swf ⟨cellsOf ca, valsOf sh, strsOf tx, threadsOf th, aF en, valsOf sd, aq, sq⟩ ∧ Cwf ⟨c1, c2, valsOf us, framesOf vs⟩ ∧ (valsOf us).length ≤ 600) ∧ K (Bv (eB ⟨cellsOf ca, valsOf sh, strsOf tx, threadsOf th, aF en, valsOf sd, aq, sq⟩ ⟨c1, c2, valsOf us, framesOf vs⟩))
 | _ => False
noncomputable abbrev Ws : Ct Cx := .pure 115 wC fun args K h => by
 unfold wC at h; split at h; exact ⟨_, aA (aGr _ _ _ _ _ _ _ _ _ _ _ _ h.1) aTh rfl rfl, h.2⟩; exact h.elim
@[go_sem] theorem aHp : type_of% @wC.eq_def := @wC.eq_def
end Go.Proofs.YtbhnmolmkembdaaGreatDoor
namespace Go.Proofs.YtbhnmolmkembdaaGreatDoor
set_option linter.unusedVariables false
set_option linter.unusedSimpArgs false
set_option maxHeartbeats 10000000
open Go Go.ChangeShapes Go.WideShapes Go.ChangeAt Go.RowKit
theorem aVn : Tryz.prog.cellsOf 81 = 2 := by kernel_rfl
theorem Ri : Tryz.prog.cellsOf 61 = 8 := by kernel_rfl
theorem aK1 : Tryz.prog.cellsOf 48 = 4 := by kernel_rfl
theorem Zs : Tryz.prog.cellsOf 56 = 5 := by kernel_rfl
theorem aUo : Tryz.prog.cellsOf 127 = 3 := by kernel_rfl
theorem aF3 : Tryz.prog.cellsOf 97 = 2 := by kernel_rfl
theorem jC {α : Type} {P : Program} {t e sz : Nat} {row : List RV} (f : α → List RV) (p : α → Prop) (h : Ro P t row) (ht : P.underlying t = some (.slice e)) (hc : P.cellsOf e = sz) (hx : ∀ r, Ro P e r → ∃ x, r = f x ∧ p x) : ∃ l : List α, row = [.rs sz (l.map f)] ∧ l.length ≤ 9223372036854775807 ∧ ∀ x ∈ l, p x := by
 obtain ⟨rows, rfl, hm, h2⟩ := pI h ht
 obtain ⟨l, rfl, hl⟩ := nI (f := f) (p := p) fun r hr => hx r (h2 r hr)
 have := tG
 rw [List.length_map] at hm
 exact ⟨l, by rw [hc], by omega, hl⟩
theorem nV {row : List RV} (h : Ro Tryz.prog 50 row) : ∃ v : Int × Int, row = valR v ∧ WI v.2 := by
 obtain ⟨rows, rfl, h1, h2⟩ := dV h Tryz.underlying50
 match rows, h1 with
 | [a, b], _ =>
  obtain ⟨x1, rfl, _⟩ := cS (h2 0 _ a rfl rfl) Tryz.underlying3
  obtain ⟨x2, rfl, q⟩ := cS (h2 1 _ b rfl rfl) Tryz.underlying3
  exact ⟨(x1, x2), rfl, q⟩
theorem Up {row : List RV} (h : Ro Tryz.prog 97 row) : ∃ v : Int × Int, row = valR v ∧ Sh.WfS v := by
 obtain ⟨rows, rfl, h1, h2⟩ := dV h Tryz.underlying97
 match rows, h1 with
 | [a, b], _ =>
  obtain ⟨x1, rfl, q1⟩ := cS (h2 0 _ a rfl rfl) Tryz.underlying3
  obtain ⟨x2, rfl, q2⟩ := cS (h2 1 _ b rfl rfl) Tryz.underlying3
  exact ⟨(x1, x2), rfl, q1, q2⟩
theorem aDz {row : List RV} (h : Ro Tryz.prog 81 row) : ∃ v : Int × Int, row = tryR v ∧ True := by
 obtain ⟨rows, rfl, h1, h2⟩ := dV h Tryz.underlying81
 match rows, h1 with
 | [a, b], _ =>
  obtain ⟨x1, rfl, q1⟩ := cS (h2 0 _ a rfl rfl) Tryz.underlying3
  obtain ⟨x2, rfl, q2⟩ := cS (h2 1 _ b rfl rfl) Tryz.underlying3
  exact ⟨(x1, x2), rfl, trivial⟩
theorem Ip {row : List RV} (h : Ro Tryz.prog 61 row) : ∃ f : aR, row = bA f ∧ Gwf f := by
 obtain ⟨rows, rfl, h1, h2⟩ := dV h Tryz.underlying61
 match rows, h1 with
 | [a, b, c, d, e, u, v], _ =>
  obtain ⟨x1, rfl, _⟩ := cS (h2 0 _ a rfl rfl) Tryz.underlying3
  obtain ⟨x2, rfl, _⟩ := cS (h2 1 _ b rfl rfl) Tryz.underlying3
  obtain ⟨x3, rfl, _⟩ := cS (h2 2 _ c rfl rfl) Tryz.underlying3
  obtain ⟨x4, rfl, q4⟩ := cS (h2 3 _ d rfl rfl) Tryz.underlying3
  obtain ⟨x5, rfl, _⟩ := nV (h2 4 _ e rfl rfl)
  obtain ⟨x6, rfl, m6, _⟩ := jC valR (fun v => WI v.2) (h2 5 _ u rfl rfl) Tryz.underlying23 Jp fun r hr => nV hr
  obtain ⟨x7, rfl, m7, _⟩ := jC tryR (fun _ => True) (h2 6 _ v rfl rfl) Tryz.underlying59 aVn fun r hr => aDz hr
  exact ⟨⟨x1, x2, x3, x4, x5, x6, x7⟩, rfl, m6, m7, q4⟩
theorem Ut {row : List RV} (h : Ro Tryz.prog 56 row) : ∃ t : aP, row = aJ t ∧ t.frames.length ≤ 9223372036854775807 ∧ ∀ f ∈ t.frames, Gwf f := by
 obtain ⟨rows, rfl, h1, h2⟩ := dV h Tryz.underlying56
 match rows, h1 with
 | [v, a, b, c], _ =>
  obtain ⟨x4, rfl, m4, q4⟩ := jC bA Gwf (h2 0 _ v rfl rfl) Tryz.underlying46 Ri fun r hr => Ip hr
  obtain ⟨x1, rfl, _⟩ := cS (h2 1 _ a rfl rfl) Tryz.underlying3
  obtain ⟨x2, rfl, _⟩ := cS (h2 2 _ b rfl rfl) Tryz.underlying3
  obtain ⟨x3, rfl, _⟩ := nV (h2 3 _ c rfl rfl)
  exact ⟨⟨x4, x1, x2, x3⟩, rfl, m4, q4⟩
theorem aJo {row : List RV} (h : Ro Tryz.prog 127 row) : ∃ e : EndT, row = endR e ∧ True := by
 obtain ⟨rows, rfl, h1, h2⟩ := dV h Tryz.underlying127
 match rows, h1 with
 | [a, b], _ =>
  obtain ⟨x1, rfl, _⟩ := cS (h2 0 _ a rfl rfl) Tryz.underlying3
  obtain ⟨x2, rfl, _⟩ := nV (h2 1 _ b rfl rfl)
  exact ⟨⟨x1, x2⟩, rfl, trivial⟩
end Go.Proofs.YtbhnmolmkembdaaGreatDoor
namespace Go.Proofs.YtbhnmolmkembdaaGreatDoor
set_option linter.unusedVariables false
set_option linter.unusedSimpArgs false
set_option maxHeartbeats 10000000
open Go
set_option maxRecDepth 10000
inductive NilD : RV → RV → Prop
 | same (x : RV) : NilD x x
 | nil (sz : Nat) : NilD (.v (.slice none 0 0)) (.rs sz [])
 | rs (sz : Nat) (rows rows' : List (List RV)) (hl : rows'.length = rows.length) (hr : ∀ (i : Nat) (row row' : List RV), rows[i]? = some row → rows'[i]? = some row' → row'.length = row.length)
   (h : ∀ (i j : Nat) (row row' : List RV) (x y : RV), rows[i]? = some row → rows'[i]? = some row' → row[j]? = some x → row'[j]? = some y → NilD x y) : NilD (.rs sz rows) (.rs sz rows')
theorem RR.nilD {w : World} {N : Nat → Prop} {x y : RV} (h : NilD x y) : ∀ {v : Value}, RR w N x v → RR w N y v := by
 induction h with
 | same x => exact fun h => h
 | nil sz => intro v h; cases h; exact .nil sz
 | rs sz rows rows' hl hr _ ih =>
  intro v hv
  cases hv with
  | nil =>
   have : rows' = [] := List.length_eq_zero_iff.1 hl
   subst this; exact .nil sz
  | rs _ _ a cap c hb hcap hw hc hrr =>
   have hget : ∀ (i : Nat) (row' : List RV), rows'[i]? = some row' → ∃ row, rows[i]? = some row := fun i row' hi => by
    have := (List.getElem?_eq_some_iff.1 hi).1
    exact ⟨_, List.getElem?_eq_getElem (by omega)⟩
   rw [← hl]
   refine .rs sz rows' a cap c (fun hne => hb fun h0 => hne (by subst h0; exact List.length_eq_zero_iff.1 hl)) (by omega) (fun row' hrow' => ?_) (fun i j hi hj => hc i j (by omega) hj) (fun i j row' y hi hj => ?_)
   ·obtain ⟨i, hi⟩ := List.mem_iff_getElem?.1 hrow'
    obtain ⟨row, h1⟩ := hget i row' hi
    rw [hr i row row' h1 hi]; exact hw row (List.mem_of_getElem? h1)
   ·obtain ⟨row, h1⟩ := hget i row' hi
    have h2 := hr i row row' h1 hi
    have hlt := (List.getElem?_eq_some_iff.1 hj).1
    have hx : row[j]? = some (row[j]'(by omega)) := List.getElem?_eq_getElem (by omega)
    exact ih i j row row' _ y h1 hi hx hj (hrr i j row _ h1 hx)
theorem AR.nilD {cur : Nat → Nat} {g : Gh} {w : World} {N : Nat → Prop} {xs ys : List RV} {v : Value} (hl : ys.length = xs.length) (h : ∀ (j : Nat) (x y : RV), xs[j]? = some x → ys[j]? = some y → NilD x y) (hv : AR cur g w N (.agg (xs.map .r)) v) : AR cur g w N (.agg (ys.map .r)) v := by
 cases hv with
 | agg _ us hs hu =>
  refine .agg _ us (by simp at hs ⊢; omega) fun j y u hy hju => ?_
  rw [List.getElem?_map] at hy
  cases hyj : ys[j]? with
  | none => simp [hyj] at hy
  | some z =>
   simp [hyj] at hy; subst hy
   have hlt := (List.getElem?_eq_some_iff.1 hyj).1
   have hx : xs[j]? = some (xs[j]'(by omega)) := List.getElem?_eq_getElem (by omega)
   have := hu j (.r (xs[j]'(by omega))) u (by rw [List.getElem?_map, hx]; rfl) hju
   cases this with | r this => exact .r (RR.nilD (h j _ z hx hyj) this)
theorem aA6 {C : Ctx} {f : Nat} {args : List AV} {rs0 : List (Nat × Nat × Res)} {r r' : AV} (hf : FC C f args rs0 r []) (h : ∀ cur g w N v, AR cur g w N r v → AR cur g w N r' v) : FC C f args rs0 r' [] := by
 refine ⟨fun e g w vs hok hs hvs => (hf.run e g w vs hok hs hvs).mono ?_⟩
 rintro x w' ⟨v, g', rfl, hs', hv, hk⟩
 exact ⟨v, g', rfl, hs', h _ _ _ _ _ hv, hk⟩
@[go_sem] theorem aIl (k1 k2 k3 k4 k5 : IntKind) (o a b c l : Int) (xs : List (List RV)) : aQ ([.v (.int k1 o), .v (.int k2 a), .v (.int k3 b), .v (.int k4 c), .v (.int k5 l)] :: xs) = ⟨o, a, b, c, l⟩ :: aQ xs := rfl
@[go_sem] theorem aJn : aQ [] = [] := rfl
structure To (f : FnT) (W : WT) (t : Int) (l : List (Int × Int)) : Prop where
 lo : 0 ≤ t
 hi : t < f.code.length
 few : l.length ≤ 20
 seen : W.seen.getD t.toNat false = true
 out : W.out.getD t.toNat [] = l
theorem eW {α : Type} {l : List α} {i : Nat} {x d : α} (h : i < l.length) : (l.set i x).getD i d = x := by
 simp [List.getD, List.getElem?_set, h]
theorem fY {α : Type} {l : List α} {i j : Nat} {x d : α} (h : i ≠ j) : (l.set i x).getD j d = l.getD j d := by
 simp [List.getD, List.getElem?_set, h]
theorem pC {f : FnT} {n : Int} {l : List (Int × Int)} {W : WT} (h : W.bad = true) : (aZ f n l W).bad = true := by
 unfold aZ; split
 ·rfl
 ·split
  ·exact h
  ·split
   ·exact h
   ·rfl
theorem oR {f : FnT} {n : Int} {l : List (Int × Int)} {W : WT} (hi : Wiv f W) (hn : 0 ≤ n) (h : (aZ f n l W).bad = false) : To f (aZ f n l W) n l := by
 unfold aZ at h ⊢
 split at h
 ·cases h
 ·rename_i hb
  rw [if_neg hb]
  have h1 := hi.seen
  have h2 := hi.out
  split at h
  ·rename_i hs
   rw [if_pos hs]
   exact ⟨hn, by omega, by omega, eW (by omega), eW (by omega)⟩
  ·rename_i hs
   rw [if_neg hs]
   split at h
   ·rename_i ho
    rw [if_pos ho]
    exact ⟨hn, by omega, by omega, by simpa using hs, ho⟩
   ·cases h
theorem cM {f : FnT} {n t : Int} {l l' : List (Int × Int)} {W : WT} (h : To f W t l') : To f (aZ f n l W) t l' := by
 obtain ⟨h1, h2, h3, h4, h5⟩ := h
 unfold aZ
 split
 ·exact ⟨h1, h2, h3, h4, h5⟩
 ·split
  ·rename_i hs
   have hne : n.toNat ≠ t.toNat := fun e => by rw [e, h4] at hs; cases hs
   exact ⟨h1, h2, h3, by rw [fY hne]; exact h4, by rw [fY hne]; exact h5⟩
  ·split
   ·exact ⟨h1, h2, h3, h4, h5⟩
   ·exact ⟨h1, h2, h3, h4, h5⟩
theorem sP {f : FnT} {n : Int} {l : List (Int × Int)} {W : WT} (hn : 0 ≤ n) {k : Nat} (h : (aZ f n l W).seen.getD k false = true) : W.seen.getD k false = true ∨ (k : Int) ∈ (aZ f n l W).todo := by
 unfold aZ at h ⊢
 split at h
 ·exact .inl h
 ·rename_i hb
  rw [if_neg hb]
  split at h
  ·rename_i hs
   rw [if_pos hs]
   by_cases hk : n.toNat = k
   ·subst hk
    right; simp; right; omega
   ·left; dsimp only at h; rwa [fY hk] at h
  ·rename_i hs
   rw [if_neg hs]
   left
   split at h <;> exact h
theorem uX {f : FnT} {n : Int} {l : List (Int × Int)} {W : WT} {t : Int} (h : t ∈ W.todo) : t ∈ (aZ f n l W).todo := by
 unfold aZ; split
 ·exact h
 ·split
  ·exact List.mem_append_left _ h
  ·split <;> exact h
def closed (f : FnT) (W : WT) (n : Int) (l : List (Int × Int)) : Prop :=
 let i := f.code.getD n.toNat ins0
 if i.op = 28 ∨ i.op = 29 then True else if i.op = 13 ∨ i.op = 14 then To f W i.a l else
 if i.op = 15 then To f W i.b l ∧ To f W (n + 1) l else if i.op = 30 then To f W i.b l ∧ To f W (n + 1) (l ++ [(i.a, i.b)]) else
 if i.op = 31 then l ≠ [] ∧ To f W (n + 1) (l.take (l.length - 1)) else To f W (n + 1) l
theorem Fu {f : FnT} {W W' : WT} {n : Int} {l : List (Int × Int)} (h : closed f W n l) (hk : ∀ t l', To f W t l' → To f W' t l') : closed f W' n l := by
 unfold closed at h ⊢
 dsimp only at h ⊢
 split
 ·trivial
 ·rename_i h1
  rw [if_neg h1] at h
  split
  ·rename_i h2; rw [if_pos h2] at h; exact hk _ _ h
  ·rename_i h2
   rw [if_neg h2] at h
   split
   ·rename_i h3; rw [if_pos h3] at h; exact ⟨hk _ _ h.1, hk _ _ h.2⟩
   ·rename_i h3
    rw [if_neg h3] at h
    split
    ·rename_i h4; rw [if_pos h4] at h; exact ⟨hk _ _ h.1, hk _ _ h.2⟩
    ·rename_i h4
     rw [if_neg h4] at h
     split
     ·rename_i h5; rw [if_pos h5] at h; exact ⟨h.1, hk _ _ h.2⟩
     ·rename_i h5; rw [if_neg h5] at h; exact hk _ _ h
structure Fr (f : FnT) (n : Int) (W : WT) : Prop where
 bad : W.bad = true → (bU f n W).bad = true
 keeps : ∀ t l, To f W t l → To f (bU f n W) t l
 seen : ∀ k : Nat, (bU f n W).seen.getD k false = true → W.seen.getD k false = true ∨ (k : Int) ∈ (bU f n W).todo
 sub : ∀ t, t ∈ W.todo → t ∈ (bU f n W).todo
 closed : (bU f n W).bad = false → Go.Proofs.YtbhnmolmkembdaaGreatDoor.closed f (bU f n W) n (W.out.getD n.toNat [])
theorem vJ {f : FnT} {n : Int} {W : WT} (h : Wiv f W) (hc : Cok f) (hn : 0 ≤ n) : Fr f n W := by
 have hi : f.code.getD n.toNat ins0 = ins0 ∨ f.code.getD n.toNat ins0 ∈ f.code := by
  cases hg : f.code[n.toNat]? with
  | none => left; simp [List.getD, hg]
  | some i => right; simp only [List.getD, hg, Option.getD_some]; exact List.mem_of_getElem? hg
 have hA : (f.code.getD n.toNat ins0).op = 13 ∨ (f.code.getD n.toNat ins0).op = 14 → 0 ≤ (f.code.getD n.toNat ins0).a := fun ho => hi.elim (fun h => by rw [h] at ho; rcases ho with ho | ho <;> cases ho) (fun h => hc.a _ h ho)
 have hB : (f.code.getD n.toNat ins0).op = 15 ∨ (f.code.getD n.toNat ins0).op = 30 → 0 ≤ (f.code.getD n.toNat ins0).b := fun ho => hi.elim (fun h => by rw [h] at ho; rcases ho with ho | ho <;> cases ho) (fun h => hc.b _ h ho)
 have one : ∀ (t : Int) (l : List (Int × Int)), 0 ≤ t → bU f n W = aZ f t l W → (closed f (aZ f t l W) n (W.out.getD n.toNat []) ↔ To f (aZ f t l W) t l) → Fr f n W := fun t l ht he hcl => by
  refine ⟨fun hb => by rw [he]; exact pC hb, fun t' l' hT => by rw [he]; exact cM hT, fun k hk => by rw [he] at hk ⊢; exact sP ht hk, fun t' ht' => by rw [he]; exact uX ht', fun hb => ?_⟩
  rw [he] at hb ⊢
  exact hcl.2 (oR h ht hb)
 have two : ∀ (t t2 : Int) (l l2 : List (Int × Int)), 0 ≤ t → 0 ≤ t2 → bU f n W = aZ f t2 l2 (aZ f t l W) → (closed f (aZ f t2 l2 (aZ f t l W)) n (W.out.getD n.toNat []) ↔ To f (aZ f t2 l2 (aZ f t l W)) t l ∧ To f (aZ f t2 l2 (aZ f t l W)) t2 l2) → Fr f n W := fun t t2 l l2 ht ht2 he hcl => by
  have h2 := (cK (n := t) (l := l) h ht).1
  refine ⟨fun hb => by rw [he]; exact pC (pC hb), fun t' l' hT => by rw [he]; exact cM (cM hT), fun k hk => ?_, fun t' ht' => by rw [he]; exact uX (uX ht'), fun hb => ?_⟩
  ·rw [he] at hk ⊢
   rcases sP ht2 hk with hk | hk
   ·rcases sP ht hk with hk | hk
    ·exact .inl hk
    ·exact .inr (uX hk)
   ·exact .inr hk
  ·rw [he] at hb ⊢
   have hb1 : (aZ f t l W).bad = false := by
    cases hx : (aZ f t l W).bad with
    | false => rfl
    | true => rw [pC hx] at hb; cases hb
   exact hcl.2 ⟨cM (oR h ht hb1), oR h2 ht2 hb⟩
 by_cases h1 : (f.code.getD n.toNat ins0).op = 28 ∨ (f.code.getD n.toNat ins0).op = 29
 ·have he : bU f n W = W := by unfold bU; dsimp only; rw [if_pos h1]
  refine ⟨fun hb => by rw [he]; exact hb, fun t l hT => by rw [he]; exact hT, fun k hk => by rw [he] at hk; exact .inl hk, fun t ht => by rw [he]; exact ht, fun _ => ?_⟩
  unfold closed; dsimp only; rw [if_pos h1]; trivial
 by_cases h2 : (f.code.getD n.toNat ins0).op = 13 ∨ (f.code.getD n.toNat ins0).op = 14
 ·exact one (f.code.getD n.toNat ins0).a (W.out.getD n.toNat []) (hA h2) (by unfold bU; dsimp only; rw [if_neg h1, if_pos h2]) (by unfold closed; dsimp only; rw [if_neg h1, if_pos h2])
 by_cases h3 : (f.code.getD n.toNat ins0).op = 15
 ·exact two (f.code.getD n.toNat ins0).b (n + 1) (W.out.getD n.toNat []) (W.out.getD n.toNat []) (hB (.inl h3)) (by omega) (by unfold bU; dsimp only; rw [if_neg h1, if_neg h2, if_pos h3]) (by unfold closed; dsimp only; rw [if_neg h1, if_neg h2, if_pos h3])
 by_cases h4 : (f.code.getD n.toNat ins0).op = 30
 ·exact two (f.code.getD n.toNat ins0).b (n + 1) (W.out.getD n.toNat []) (W.out.getD n.toNat [] ++ [((f.code.getD n.toNat ins0).a, (f.code.getD n.toNat ins0).b)]) (hB (.inr h4)) (by omega) (by unfold bU; dsimp only; rw [if_neg h1, if_neg h2, if_neg h3, if_pos h4]) (by unfold closed; dsimp only; rw [if_neg h1, if_neg h2, if_neg h3, if_pos h4])
 by_cases h5 : (f.code.getD n.toNat ins0).op = 31
 ·by_cases hl : W.out.getD n.toNat [] = []
  ·have he : bU f n W = { W with bad := true } := by unfold bU; dsimp only; rw [if_neg h1, if_neg h2, if_neg h3, if_neg h4, if_pos h5, if_pos hl]
   exact ⟨fun _ => by rw [he], fun t l hT => by rw [he]; exact ⟨hT.lo, hT.hi, hT.few, hT.seen, hT.out⟩, fun k hk => by rw [he] at hk; exact .inl hk, fun t ht => by rw [he]; exact ht, fun hb => by rw [he] at hb; cases hb⟩
  ·exact one (n + 1) ((W.out.getD n.toNat []).take ((W.out.getD n.toNat []).length - 1)) (by omega) (by unfold bU; dsimp only; rw [if_neg h1, if_neg h2, if_neg h3, if_neg h4, if_pos h5, if_neg hl]) (by unfold closed; dsimp only; rw [if_neg h1, if_neg h2, if_neg h3, if_neg h4, if_pos h5]; exact ⟨fun x => x.2, fun x => ⟨hl, x⟩⟩)
 ·exact one (n + 1) (W.out.getD n.toNat []) (by omega) (by unfold bU; dsimp only; rw [if_neg h1, if_neg h2, if_neg h3, if_neg h4, if_neg h5]) (by unfold closed; dsimp only; rw [if_neg h1, if_neg h2, if_neg h3, if_neg h4, if_neg h5])
def Wcl (f : FnT) (W : WT) : Prop := W.bad = true ∨ ∀ k : Nat, W.seen.getD k false = true → (k : Int) ∈ W.todo ∨ closed f W k (W.out.getD k [])
theorem qT {f : FnT} {W : WT} (h : Wiv f W) {k : Nat} (hk : W.seen.getD k false = true) : To f W k (W.out.getD k []) := by
 have hlt : k < W.seen.length := by
  rcases Nat.lt_or_ge k W.seen.length with h | h
  ·exact h
  ·simp [List.getD, List.getElem?_eq_none h] at hk
 have h1 := h.seen
 have h2 := h.out
 refine ⟨by omega, by omega, ?_, hk, rfl⟩
 have hx : W.out[k]? = some (W.out[k]'(by omega)) := List.getElem?_eq_getElem (by omega)
 simp only [List.getD, hx, Option.getD_some]
 exact h.outs _ (List.mem_of_getElem? hx)
theorem aD3 {f : FnT} {W : WT} (h : Wiv f W) (hc : Cok f) (hg : cL W = true) (hW : Wcl f W) : Wcl f (dP f W) := by
 have h0 : 0 < W.todo.length := by simp [cL] at hg; exact hg.1
 obtain ⟨q1, q2, q3, q4⟩ := qO h h0
 have fr := vJ (n := jK W) q1 hc q3
 cases hb : (dP f W).bad with
 | true => exact .inl hb
 | false =>
  right
  have hb1 : W.bad = false := by
   cases hx : W.bad with
   | false => rfl
   | true => have := fr.bad hx; unfold dP at hb; rw [this] at hb; cases hb
  rcases hW with hW | hW
  ·rw [hW] at hb1; cases hb1
  intro k hk
  rcases fr.seen k hk with hk1 | hk1
  ·have hk2 : W.seen.getD k false = true := hk1
   have hT := qT q1 hk1
   have hT2 := fr.keeps _ _ hT
   have ho : (dP f W).out.getD k [] = W.out.getD k [] := hT2.out
   rw [ho]
   rcases hW k hk2 with hin | hcl
   ·by_cases he : (k : Int) = jK W
    ·right
     have := fr.closed hb
     rw [← he] at this
     unfold dP
     rw [← he]
     exact this
    ·left
     refine fr.sub _ ?_
     show (k : Int) ∈ W.todo.take (W.todo.length - 1)
     obtain ⟨j, hj⟩ := List.mem_iff_getElem?.1 hin
     have hjl := (List.getElem?_eq_some_iff.1 hj).1
     have hjn : j ≠ W.todo.length - 1 := fun e => by
      subst e
      exact he (by unfold jK; simp [List.getD, hj])
     exact List.mem_iff_getElem?.2 ⟨j, by rw [List.getElem?_take, if_pos (by omega), hj]⟩
   ·right
    exact Fu hcl fun t l hT => fr.keeps t l ⟨hT.lo, hT.hi, hT.few, hT.seen, hT.out⟩
  ·exact .inl hk1
theorem Zy {f : FnT} (hc : Cok f) : ∀ (k : Nat) (W : WT), Wiv f W → Wcl f W → Wcl f (runW f k W)
 | 0, W, _, h => h
 | k + 1, W, hi, h => by
  show Wcl f (if cL W = true then runW f k (dP f W) else W)
  split
  ·rename_i hg; exact Zy hc k _ (jE hi hc hg).1 (aD3 hi hc hg h)
  ·exact h
theorem Mj {f : FnT} (hc : Cok f) : ∀ (k : Nat) (W : WT), Wiv f W → muW W ≤ k → cL (runW f k W) = false
 | 0, W, _, h => by
  have : W.todo.length = 0 := by unfold muW at h; omega
  simp [runW, cL, this]
 | k + 1, W, hi, h => by
  show cL (if cL W = true then runW f k (dP f W) else W) = false
  split
  ·rename_i hg
   obtain ⟨q1, q2⟩ := jE hi hc hg
   exact Mj hc k _ q1 (by omega)
  ·rename_i hg; simpa using hg
theorem Km {f : FnT} (hc : Cok f) (hb : (bK f).bad = false) {k : Nat} (hk : (bK f).seen.getD k false = true) : closed f (bK f) k ((bK f).out.getD k []) := by
 obtain ⟨i0, m0⟩ := jI f
 obtain ⟨q1, q2⟩ := cK (n := 0) (l := []) i0 (Int.le_refl 0)
 have c0 : Wcl f (aZ f 0 [] (W0 f)) := by
  right; intro k hk
  rcases sP (Int.le_refl 0) hk with hk | hk
  ·exfalso
   have : (W0 f).seen.getD k false = false := by
    show (List.replicate f.code.length false).getD k false = false
    simp only [List.getD, List.getElem?_replicate]
    split <;> rfl
   rw [this] at hk; cases hk
  ·exact .inl hk
 have he := Mj hc (2 * f.code.length) _ q1 (by omega)
 rcases Zy hc (2 * f.code.length) _ q1 c0 with h | h
 ·have : (bK f).bad = true := h
  rw [this] at hb; cases hb
 ·rcases h k hk with h | h
  ·exfalso
   have hg : cL (bK f) = false := he
   have hm : (k : Int) ∈ (bK f).todo := h
   have : 0 < (bK f).todo.length := List.length_pos_of_mem hm
   simp [cL, hb] at hg
   rw [hg] at hm; cases hm
  ·exact h
def Wts (W : WT) : Prop := ∀ t ∈ W.todo, W.seen.getD t.toNat false = true
theorem nZ {f : FnT} {n : Int} {l : List (Int × Int)} {W : WT} (hi : Wiv f W) (hn : 0 ≤ n) (h : Wts W) : Wts (aZ f n l W) := by
 intro t ht
 unfold aZ at ht ⊢
 split at ht
 ·rename_i hb; rw [if_pos hb]; exact h t ht
 ·rename_i hb
  rw [if_neg hb]
  have h1 := hi.seen
  split at ht
  ·rename_i hs
   rw [if_pos hs]
   rcases List.mem_append.1 ht with ht | ht
   ·have hne : n.toNat ≠ t.toNat := fun e => by have := h t ht; rw [← e, hs] at this; cases this
    dsimp only; rw [fY hne]; exact h t ht
   ·simp at ht; subst ht
    exact eW (by omega)
  ·rename_i hs
   rw [if_neg hs]
   split at ht
   ·rename_i ho; rw [if_pos ho]; exact h t ht
   ·rename_i ho; rw [if_neg ho]; exact h t ht
theorem aE7 {f : FnT} {n : Int} {W : WT} (hi : Wiv f W) (hc : Cok f) (hn : 0 ≤ n) (h : Wts W) : Wts (bU f n W) := by
 have hx : f.code.getD n.toNat ins0 = ins0 ∨ f.code.getD n.toNat ins0 ∈ f.code := by
  cases hg : f.code[n.toNat]? with
  | none => left; simp [List.getD, hg]
  | some i => right; simp only [List.getD, hg, Option.getD_some]; exact List.mem_of_getElem? hg
 unfold bU
 generalize f.code.getD n.toNat ins0 = i at hx
 generalize W.out.getD n.toNat [] = l
 have hA : i.op = 13 ∨ i.op = 14 → 0 ≤ i.a := fun ho => hx.elim (fun h => by rw [h] at ho; rcases ho with ho | ho <;> cases ho) (fun h => hc.a i h ho)
 have hB : i.op = 15 ∨ i.op = 30 → 0 ≤ i.b := fun ho => hx.elim (fun h => by rw [h] at ho; rcases ho with ho | ho <;> cases ho) (fun h => hc.b i h ho)
 dsimp only
 split
 ·exact h
 ·split
  ·rename_i ho; exact nZ hi (hA ho) h
  ·split
   ·rename_i ho; exact nZ (cK hi (hB (.inl ho))).1 (by omega) (nZ hi (hB (.inl ho)) h)
   ·split
    ·rename_i ho; exact nZ (cK hi (hB (.inr ho))).1 (by omega) (nZ hi (hB (.inr ho)) h)
    ·split
     ·split
      ·exact h
      ·exact nZ hi (by omega) h
     ·exact nZ hi (by omega) h
theorem Xv {W : WT} (h0 : 0 < W.todo.length) : jK W ∈ W.todo := by
 unfold jK
 have hlt : W.todo.length - 1 < W.todo.length := by omega
 simp only [List.getD, List.getElem?_eq_getElem hlt, Option.getD_some]
 exact List.getElem_mem hlt
theorem aD8 {f : FnT} {W : WT} (hi : Wiv f W) (hc : Cok f) (hg : cL W = true) (h : Wts W) : Wts (dP f W) := by
 have h0 : 0 < W.todo.length := by simp [cL] at hg; exact hg.1
 obtain ⟨q1, q2, q3, q4⟩ := qO hi h0
 exact aE7 q1 hc q3 fun t ht => h t (List.mem_of_mem_take ht)
section
variable {f0 : FnT} {rest : List FnT} {cs : List (Int × Int)} {ts : List ByteArray} {k : Nat}
end
def Inn (f : FnT) (W V : WT) : Prop := W.bad = false ∧ ∀ t l, To f W t l → To f V t l
theorem mD {f : FnT} {n : Int} {l : List (Int × Int)} {W V : WT} (hi : Wiv f W) (h : Inn f W V) (ht : To f V n l) : Inn f (aZ f n l W) V := by
 obtain ⟨h1, h2⟩ := h
 have s1 := hi.seen
 have s2 := hi.out
 have t1 := ht.lo; have t2 := ht.hi; have t3 := ht.few
 unfold aZ
 rw [if_neg (by omega)]
 split
 ·refine ⟨h1, fun t l' hT => ?_⟩
  obtain ⟨a1, a2, a3, a4, a5⟩ := hT
  by_cases e : n.toNat = t.toNat
  ·have e' : n = t := by omega
   subst e'
   have : (W.out.set n.toNat l).getD n.toNat [] = l := eW (by omega)
   dsimp only at a5
   rw [this] at a5; subst a5; exact ht
  ·dsimp only at a4 a5
   rw [fY e] at a4 a5
   exact h2 t l' ⟨a1, a2, a3, a4, a5⟩
 ·rename_i hs
  have hs' : W.seen.getD n.toNat false = true := by simpa using hs
  have hx := qT hi hs'
  have e : ((n.toNat : Nat) : Int) = n := by omega
  rw [e] at hx
  have := (h2 _ _ hx).out
  rw [ht.out] at this
  rw [if_pos this.symm]
  exact ⟨h1, h2⟩
def Clo (f : FnT) (V : WT) : Prop := To f V 0 [] ∧ ∀ t l, To f V t l → closed f V t l
theorem Rc {f : FnT} {n : Int} {W V : WT} (hi : Wiv f W) (h : Inn f W V) (hc : closed f V n (W.out.getD n.toNat [])) : Inn f (bU f n W) V := by
 unfold closed at hc
 unfold bU
 dsimp only at hc ⊢
 split at hc
 ·rename_i e; rw [if_pos e]; exact h
 rename_i e; rw [if_neg e]
 split at hc
 ·rename_i e; rw [if_pos e]; exact mD hi h hc
 rename_i e; rw [if_neg e]
 split at hc
 ·rename_i e; rw [if_pos e]
  exact mD (cK hi hc.1.lo).1 (mD hi h hc.1) hc.2
 rename_i e; rw [if_neg e]
 split at hc
 ·rename_i e; rw [if_pos e]
  exact mD (cK hi hc.1.lo).1 (mD hi h hc.1) hc.2
 rename_i e; rw [if_neg e]
 split at hc
 ·rename_i e; rw [if_pos e, if_neg hc.1]; exact mD hi h hc.2
 ·rename_i e; rw [if_neg e]; exact mD hi h hc
theorem aAn {f : FnT} (hk : Cok f) {V : WT} (hV : Clo f V) : ∀ (k : Nat) (W : WT), Wiv f W → Wts W → Inn f W V → Inn f (runW f k W) V
 | 0, W, _, _, h => h
 | k + 1, W, hi, ht, h => by
  show Inn f (if cL W = true then runW f k (dP f W) else W) V
  split
  ·rename_i hg
   have h0 : 0 < W.todo.length := by simp [cL] at hg; exact hg.1
   obtain ⟨q1, q2, q3, q4⟩ := qO hi h0
   have hs := ht _ (Xv h0)
   have hT := qT hi hs
   have e : (((jK W).toNat : Nat) : Int) = jK W := by omega
   rw [e] at hT
   have hP : Inn f (popW W) V := ⟨h.1, fun t l ⟨a, b, c, d, e⟩ => h.2 t l ⟨a, b, c, d, e⟩⟩
   exact aAn hk hV k _ (jE hi hk hg).1 (aD8 hi hk hg ht) (Rc q1 hP (hV.2 _ _ (h.2 _ _ hT)))
  ·exact h
theorem Sk {f : FnT} (hk : Cok f) {V : WT} (hV : Clo f V) : Inn f (bK f) V := by
 unfold bK
 refine aAn hk hV _ _ (kM hk).1 (nZ (jI f).1 (Int.le_refl 0) fun t ht => by cases ht) (mD (jI f).1 ⟨rfl, fun t l hT => ?_⟩ hV.1)
 have := hT.seen
 simp [W0, List.getD, List.getElem?_replicate] at this
 exfalso; split at this <;> cases this
theorem aAq {f : FnT} (hk : Cok f) {t : Int} {l : List (Int × Int)} : ∀ (k : Nat) (W : WT), Wiv f W → To f W t l → To f (runW f k W) t l
 | 0, W, _, h => h
 | k + 1, W, hi, h => by
  show To f (if cL W = true then runW f k (dP f W) else W) t l
  split
  ·rename_i hg
   have h0 : 0 < W.todo.length := by simp [cL] at hg; exact hg.1
   obtain ⟨q1, q2, q3, q4⟩ := qO hi h0
   obtain ⟨a, b, c, d, e⟩ := h
   exact aAq hk k _ (jE hi hk hg).1 ((vJ q1 hk q3).keeps _ _ ⟨a, b, c, d, e⟩)
  ·exact h
theorem Yc {f : FnT} (hk : Cok f) (hb : (bK f).bad = false) (h0 : 0 < f.code.length) : Clo f (bK f) := by
 have iv := zI hk
 refine ⟨?_, fun t l hT => ?_⟩
 ·refine aAq hk _ _ (kM hk).1 (oR (jI f).1 (Int.le_refl 0) ?_)
  unfold aZ
  rw [if_neg (by simp only [List.length_nil]; omega), if_pos (by simp [W0, List.getD, List.getElem?_replicate, h0])]
  rfl
 ·have e : ((t.toNat : Nat) : Int) = t := by have := hT.lo; omega
  have := Km hk hb (k := t.toNat) hT.seen
  rw [e] at this
  rw [← hT.out]; exact this
def cD (f : FnT) : Nat → WT → WT
 | 0, W => W
 | n + 1, W => if (cD f n W).bad = true then cD f n W else if (cD f n W).seen.getD n false = true then bU f n (cD f n W) else cD f n W
def eY (W : WT) : WT := ⟨W.seen, W.out, [], W.bad⟩
theorem kO {f : FnT} {n : Int} {l : List (Int × Int)} {W : WT} (hb : (aZ f n l W).bad = false) (ht : (aZ f n l W).todo = []) : aZ f n l W = W := by
 unfold aZ at hb ht ⊢
 split at hb
 ·cases hb
 ·rename_i h1
  rw [if_neg h1] at ht ⊢
  split at hb
  ·rename_i h2
   rw [if_pos h2] at ht; simp at ht
  ·rename_i h2
   rw [if_neg h2] at ht ⊢
   split at hb
   ·rename_i h3; rw [if_pos h3]
   ·cases hb
theorem Tn {f : FnT} {n : Int} {W : WT} (hb : (bU f n W).bad = false) (ht : (bU f n W).todo = []) : bU f n W = W := by
 unfold bU at hb ht ⊢
 dsimp only at hb ht ⊢
 split at hb
 ·rename_i e; rw [if_pos e]
 rename_i e; rw [if_neg e] at ht ⊢
 split at hb
 ·rename_i e; rw [if_pos e] at ht ⊢; exact kO hb ht
 rename_i e; rw [if_neg e] at ht ⊢
 split at hb
 ·rename_i e; rw [if_pos e] at ht ⊢
  have h1 := kO hb ht
  rw [h1] at hb ht ⊢
  exact kO hb ht
 rename_i e; rw [if_neg e] at ht ⊢
 split at hb
 ·rename_i e; rw [if_pos e] at ht ⊢
  have h1 := kO hb ht
  rw [h1] at hb ht ⊢
  exact kO hb ht
 rename_i e; rw [if_neg e] at ht ⊢
 split at hb
 ·rename_i e; rw [if_pos e] at ht ⊢
  split at hb
  ·cases hb
  ·rename_i e; rw [if_neg e] at ht ⊢; exact kO hb ht
 ·rename_i e; rw [if_neg e] at ht ⊢; exact kO hb ht
theorem mG {f : FnT} (hk : Cok f) : ∀ (n : Nat) (W : WT), Wiv f W → Wiv f (cD f n W)
 | 0, W, h => h
 | n + 1, W, h => by
  have ih := mG hk n W h
  unfold cD
  split
  ·exact ih
  ·split
   ·exact (Gm ih hk (by omega)).1
   ·exact ih
theorem Qs {f : FnT} (hk : Cok f) {V : WT} (hV : Clo f V) : ∀ (n : Nat) (W : WT), Wiv f W → Inn f W V → Inn f (cD f n W) V
 | 0, W, _, h => h
 | n + 1, W, hi, h => by
  have ih := Qs hk hV n W hi h
  have iv := mG hk n W hi
  unfold cD
  split
  ·exact ih
  ·split
   ·rename_i hs
    exact Rc iv ih (hV.2 _ _ (ih.2 _ _ (qT iv hs)))
   ·exact ih
theorem tN {f : FnT} (hk : Cok f) : ∀ (n : Nat) (W : WT), Wiv f W → (cD f n W).bad = false → (cD f n W).todo = [] → cD f n W = W ∧ ∀ k, k < n → W.seen.getD k false = true → bU f k W = W
 | 0, W, _, _, _ => ⟨rfl, fun k hk => by omega⟩
 | n + 1, W, hi, hb, ht => by
  have iv := mG hk n W hi
  have e : cD f (n + 1) W = if (cD f n W).bad = true then cD f n W else if (cD f n W).seen.getD n false = true then bU f n (cD f n W) else cD f n W := rfl
  rw [e] at hb ht ⊢
  split at hb
  ·rename_i h; rw [h] at hb; cases hb
  rename_i h1
  rw [if_neg h1] at ht ⊢
  split at hb
  ·rename_i h2
   rw [if_pos h2] at ht ⊢
   have h3 := Tn hb ht
   rw [h3] at hb ht ⊢
   obtain ⟨i1, i2⟩ := tN hk n W hi hb ht
   refine ⟨i1, fun k hk' hs => ?_⟩
   rcases Nat.lt_succ_iff_lt_or_eq.1 hk' with h | h
   ·exact i2 k h hs
   ·subst h; rw [i1] at h3; exact h3
  ·rename_i h2
   rw [if_neg h2] at ht ⊢
   obtain ⟨i1, i2⟩ := tN hk n W hi hb ht
   refine ⟨i1, fun k hk' hs => ?_⟩
   rcases Nat.lt_succ_iff_lt_or_eq.1 hk' with h | h
   ·exact i2 k h hs
   ·subst h; rw [i1] at h2; exact (h2 hs).elim
theorem aBa {f : FnT} (hk : Cok f) {W : WT} (hi : Wiv f W) (h0 : To f W 0 []) (hb : (cD f f.code.length W).bad = false) (ht : (cD f f.code.length W).todo = []) : Clo f W := by
 obtain ⟨e1, e2⟩ := tN hk _ W hi hb ht
 rw [e1] at hb
 refine ⟨h0, fun t l hT => ?_⟩
 have e : ((t.toNat : Nat) : Int) = t := by have := hT.lo; omega
 have h3 := e2 t.toNat (by have := hT.hi; have := hT.lo; omega) hT.seen
 have h4 := (vJ hi hk (n := (t.toNat : Nat)) (by omega)).closed (by rw [h3]; exact hb)
 rw [h3, e] at h4
 rw [← hT.out]; exact h4
def lD (f : FnT) : Nat → WT → WT
 | 0, W => W
 | k + 1, W => if W.bad = true ∨ W.todo = [] then W else lD f k (cD f f.code.length (eY W))
def nuW (W : WT) : Nat := 2 * cntF W.seen + (if W.todo = [] then 0 else 1)
theorem pR {f : FnT} {W : WT} (h : W.bad = true ∨ W.todo = []) : ∀ k, lD f k W = W
 | 0 => rfl
 | k + 1 => by unfold lD; rw [if_pos h]
theorem vB {f : FnT} {W : WT} {t : Int} {l : List (Int × Int)} : To f (eY W) t l ↔ To f W t l := ⟨fun ⟨a, b, c, d, e⟩ => ⟨a, b, c, d, e⟩, fun ⟨a, b, c, d, e⟩ => ⟨a, b, c, d, e⟩⟩
theorem mW {f : FnT} {W : WT} (h : Wiv f W) : Wiv f (eY W) := ⟨h.seen, h.out, by have := h.todo; simp only [eY, List.length_nil]; omega, (fun t ht => by simp [eY] at ht), h.outs⟩
theorem Rf {f : FnT} (hk : Cok f) : ∀ (n : Nat) (W : WT), Wiv f W → muW (cD f n W) ≤ muW W
 | 0, W, h => Nat.le_refl _
 | n + 1, W, h => by
  have ih := Rf hk n W h
  have iv := mG hk n W h
  unfold cD
  split
  ·exact ih
  ·split
   ·exact Nat.le_trans (Gm iv hk (by omega)).2 ih
   ·exact ih
theorem Hy {f : FnT} (hk : Cok f) {t : Int} {l : List (Int × Int)} : ∀ (n : Nat) (W : WT), Wiv f W → To f W t l → To f (cD f n W) t l
 | 0, W, _, h => h
 | n + 1, W, hi, h => by
  have ih := Hy hk n W hi h
  have iv := mG hk n W hi
  unfold cD
  split
  ·exact ih
  ·split
   ·exact (vJ iv hk (by omega)).keeps _ _ ih
   ·exact ih
theorem Hu {f : FnT} (hk : Cok f) {W : WT} (hi : Wiv f W) (ht : W.todo ≠ []) : nuW (cD f f.code.length (eY W)) < nuW W := by
 have h := Rf hk f.code.length _ (mW hi)
 have e : muW (eY W) = 2 * cntF W.seen := by simp [muW, eY]
 rw [e] at h
 unfold nuW
 rw [if_neg ht]
 unfold muW at h
 split
 ·omega
 ·rename_i h1
  have := List.length_pos_iff.2 h1
  omega
theorem Qh {f : FnT} (hk : Cok f) {V : WT} (hV : Clo f V) : ∀ (k : Nat) (W : WT), Wiv f W → Inn f W V → Inn f (lD f k W) V
 | 0, W, _, h => h
 | k + 1, W, hi, h => by
  unfold lD
  split
  ·exact h
  ·exact Qh hk hV k _ (mG hk _ _ (mW hi)) (Qs hk hV _ _ (mW hi) ⟨h.1, fun t l hT => h.2 t l (vB.1 hT)⟩)
theorem Pl {f : FnT} (hk : Cok f) : ∀ (k : Nat) (W : WT), Wiv f W → Wiv f (lD f k W)
 | 0, W, h => h
 | k + 1, W, h => by
  unfold lD
  split
  ·exact h
  ·exact Pl hk k _ (mG hk _ _ (mW h))
theorem Jt {f : FnT} (hk : Cok f) : ∀ (k : Nat) (W : WT), Wiv f W → To f W 0 [] → W.todo ≠ [] → nuW W ≤ k → (lD f k W).bad = true ∨ Clo f (lD f k W)
 | 0, W, _, _, ht, hn => by unfold nuW at hn; rw [if_neg ht] at hn; omega
 | k + 1, W, hi, h0, ht, hn => by
  by_cases hb : W.bad = true
  ·left; rw [pR (.inl hb)]; exact hb
  have e : lD f (k + 1) W = lD f k (cD f f.code.length (eY W)) := by
   show (if W.bad = true ∨ W.todo = [] then W else _) = _
   rw [if_neg (fun h => h.elim hb ht)]
  rw [e]
  have hf := mW hi
  have hp := mG hk f.code.length _ hf
  have hT := Hy hk f.code.length _ hf (vB.2 h0)
  by_cases hpb : (cD f f.code.length (eY W)).bad = true
  ·left; rw [pR (.inl hpb)]; exact hpb
  by_cases hpt : (cD f f.code.length (eY W)).todo = []
  ·right
   rw [pR (.inr hpt)]
   have := aBa hk hf (vB.2 h0) (by simpa using hpb) hpt
   rw [(tN hk _ _ hf (by simpa using hpb) hpt).1]; exact this
  ·exact Jt hk k _ hp hT hpt (by have := Hu hk hi ht; omega)
def docW (f : FnT) : WT := lD f (2 * f.code.length + 2) (aZ f 0 [] (W0 f))
theorem mT {f : FnT} (h0 : 0 < f.code.length) : aZ f 0 [] (W0 f) = ⟨(W0 f).seen.set 0 true, (W0 f).out.set 0 [], [0], false⟩ := by
 unfold aZ
 rw [if_neg (by simp only [List.length_nil]; omega), if_pos (by simp [W0, List.getD, List.getElem?_replicate, h0])]
 rfl
theorem Pr {f : FnT} (hk : Cok f) (h0 : 0 < f.code.length) : (docW f).bad = true ∨ Clo f (docW f) := by
 have hi := (cK (n := 0) (l := []) (jI f).1 (Int.le_refl 0))
 refine Jt hk _ _ hi.1 (oR (jI f).1 (Int.le_refl 0) (by rw [mT h0])) (by rw [mT h0]; simp) ?_
 have h1 := hi.2
 rw [(jI f).2] at h1
 unfold muW at h1
 unfold nuW
 split <;> omega
theorem Kc {f : FnT} (hk : Cok f) (h0 : 0 < f.code.length) : (docW f).bad = (bK f).bad ∧ ((bK f).bad = false → ∀ t l, To f (docW f) t l ↔ To f (bK f) t l) := by
 cases hb : (bK f).bad with
 | false =>
  have hV := Yc hk hb h0
  have hi := (cK (n := 0) (l := []) (jI f).1 (Int.le_refl 0)).1
  have hin : Inn f (docW f) (bK f) := Qh hk hV _ _ hi (mD (jI f).1 ⟨rfl, fun t l hT => by
   have := hT.seen
   simp [W0, List.getD, List.getElem?_replicate] at this
   exfalso; split at this <;> cases this⟩ hV.1)
  refine ⟨hin.1, fun _ t l => ⟨hin.2 t l, ?_⟩⟩
  rcases Pr hk h0 with h | h
  ·rw [hin.1] at h; cases h
  ·exact (Sk hk h).2 t l
 | true =>
  refine ⟨?_, fun h => by cases h⟩
  rcases Pr hk h0 with h | h
  ·exact h
  ·have := (Sk hk h).1
   rw [hb] at this; cases this
theorem Ow (n lo hi : Int) : FC Cx 34 [Iv n, Iv lo, Iv hi] [] (Bv (decide (lo ≤ n ∧ n ≤ hi))) [] := by
 refine aD [] Tryz.func34 Tryz.ntmps34 Tryz.results34 ?_
 (any_goals refine go lv34 0 ?_)
 all_goals (try simp only [go_sem])
 all_goals simp_all
 all_goals omega
def nR (args : List AV) (K : AV → Prop) : Prop := match args with
 | [.r (.v (.int .i64 n)), .r (.v (.int .i64 lo)), .r (.v (.int .i64 hi))] => K (Bv (decide (lo ≤ n ∧ n ≤ hi)))
 | _ => False
noncomputable abbrev aV : Ct Cx := .pure 34 nR fun args K h => by
 unfold nR at h; split at h; exact ⟨_, aA (Ow _ _ _) en34 rfl rfl, h⟩; exact h.elim
@[go_sem] theorem aAt : type_of% @nR.eq_def := @nR.eq_def
theorem Ou (k n : Int) : FC Cx 132 [VV k n] [] (Fv (fl n)) [] := by
 refine aD [yL] Tryz.func132 Tryz.ntmps132 Tryz.results132 ?_
 (any_goals refine go aV9 0 ?_)
 all_goals (try simp only [go_sem])
 rfl
def oE (args : List AV) (K : AV → Prop) : Prop := match args with
 | [.agg [.r (.v (.int .i64 k)), .r (.v (.int .i64 n))]] => K (Fv (fl n))
 | _ => False
noncomputable abbrev Mc : Ct Cx := .pure 132 oE fun args K h => by
 unfold oE at h; split at h; exact ⟨_, aA (Ou _ _) aSk rfl rfl, h⟩; exact h.elim
@[go_sem] theorem Xe : type_of% @oE.eq_def := @oE.eq_def
theorem aEl (b : Nat) : FC Cx 131 [Fv b] [] (Bv (!yH b)) [] := by
 refine aD [] Tryz.func131 Tryz.ntmps131 Tryz.results131 ?_
 (any_goals refine go aIj 0 ?_)
 all_goals (try simp only [go_sem])
 all_goals rfl
theorem Ox : FC Cx 131 [.r .nan] [] (Bv true) [] := by
 refine aD [] Tryz.func131 Tryz.ntmps131 Tryz.results131 ?_
 (any_goals refine go aIj 0 ?_)
 all_goals (try simp only [go_sem])
 all_goals rfl
def nanV : AV → Bool
 | .r (.v (.float .f64 b)) => !yH b
 | _ => true
@[go_sem] theorem aYv (b : Nat) : nanV (Fv b) = !yH b := rfl
theorem aAe (x : AV) (h : isF x = true) : FC Cx 131 [x] [] (Bv (nanV x)) [] := by
 unfold isF at h
 split at h
 ·exact aEl _
 ·exact Ox
 ·cases h
def rQ (args : List AV) (K : AV → Prop) : Prop := match args with
 | [x] => isF x = true ∧ K (Bv (nanV x))
 | _ => False
theorem Jz (args : List AV) (K : AV → Prop) (h : rQ args K) : ∃ r, aT Cx 131 args r ∧ K r := by
 unfold rQ at h
 split at h
 ·rename_i x
  refine ⟨_, aA (aAe x h.1) aTf ?_ rfl, h.2⟩
  have := h.1
  unfold isF at this
  split at this
  ·rfl
  ·rfl
  ·cases this
 ·exact h.elim
noncomputable def An : Ct Cx := .pure 131 rQ Jz
@[go_sem] theorem aLe : An.g = 131 := rfl
@[go_sem] theorem aE1 (c : Call) (fop : Operand) (caps : List AV) (o : Oper) (st : St) (K : List Loc → List (Loc × Cont) → Prop) : An.run c fop caps o st K = vQ Cx rQ c fop caps o st K := rfl
@[go_sem] theorem aJf (args : List AV) (K : AV → Prop) : rQ args K = (match args with
  | [x] => isF x = true ∧ K (Bv (nanV x))
  | _ => False) := rfl
theorem Yg (k n : Int) : FC Cx 73 [VV k n] [] (Bv (gM k n)) [] := by
 refine aD [aV, Mc, An] Tryz.func73 Tryz.ntmps73 Tryz.results73 ?_
 (any_goals refine go lv73 0 ?_)
 repeat' (first | (refine Br.go (fun h h' => ?_) (fun h h' => ?_)) | (refine Br.mk (fun h => ?_) (fun h => ?_)))
 all_goals (try simp only [go_sem])
 all_goals (simp only [gM]; simp_all)
 all_goals first | omega | (rw [Bool.eq_iff_iff]; simp; omega)
def tF (args : List AV) (K : AV → Prop) : Prop := match args with
 | [.agg [.r (.v (.int .i64 k)), .r (.v (.int .i64 n))]] => K (Bv (gM k n))
 | _ => False
noncomputable abbrev mL : Ct Cx := .pure 73 tF fun args K h => by
 unfold tF at h; split at h; exact ⟨_, aA (Yg _ _) en73 rfl rfl, h⟩; exact h.elim
@[go_sem] theorem aDv : type_of% @tF.eq_def := @tF.eq_def
def aGz : List ByteArray := [⟨#[]⟩, ⟨#[114, 107, 46]⟩, ⟨#[114, 114, 46]⟩, ⟨#[114, 114, 114]⟩, ⟨#[114, 114, 114]⟩, ⟨#[114, 114, 114]⟩, ⟨#[114, 114, 114]⟩, ⟨#[114, 114, 114]⟩, ⟨#[114, 114, 114]⟩, ⟨#[114, 114, 114]⟩, ⟨#[114, 114, 114]⟩, ⟨#[114, 114, 46]⟩, ⟨#[114, 114, 46]⟩, ⟨#[112, 46, 46]⟩, ⟨#[112, 46, 46]⟩, ⟨#[114, 112, 46]⟩, ⟨#[114, 46, 46]⟩, ⟨#[114, 114, 116]⟩, ⟨#[114, 116, 114]⟩, ⟨#[114, 108, 110]⟩, ⟨#[114, 114, 114]⟩, ⟨#[114, 114, 114]⟩, ⟨#[114, 46, 46]⟩, ⟨#[114, 114, 46]⟩, ⟨#[114, 114, 46]⟩, ⟨#[114, 117, 46]⟩, ⟨#[114, 102, 46]⟩, ⟨#[114, 114, 110]⟩, ⟨#[114, 46, 46]⟩, ⟨#[114, 46, 46]⟩, ⟨#[114, 112, 46]⟩, ⟨#[46, 46, 46]⟩, ⟨#[114, 114, 46]⟩, ⟨#[114, 46, 46]⟩, ⟨#[114, 46, 46]⟩, ⟨#[114, 114, 46]⟩, ⟨#[114, 114, 46]⟩, ⟨#[114, 46, 46]⟩, ⟨#[114, 46, 46]⟩]
def aK (op : Int) : ByteArray := if op < 1 ∨ 39 ≤ op then ⟨#[]⟩ else aGz.getD op.toNat ⟨#[]⟩
theorem yI {op : Int} (h : ¬ (op < 1 ∨ 39 ≤ op)) : (aK op).size = 3 := by
 rcases ors h with rfl | rfl | rfl | rfl | rfl | rfl | rfl | rfl | rfl | rfl | rfl | rfl | rfl | rfl | rfl | rfl | rfl | rfl | rfl | rfl | rfl | rfl | rfl | rfl | rfl | rfl | rfl | rfl | rfl | rfl | rfl | rfl | rfl | rfl | rfl | rfl | rfl | rfl <;> rfl
theorem aGv (op : Int) : FC Cx 133 [Iv op] [] (Sv (aK op)) [] := by
 refine aD [] Tryz.func133 Tryz.ntmps133 Tryz.results133 ?_
 (any_goals refine go aRy 0 ?_)
 repeat' (first | (refine Br.go (fun h h' => ?_) (fun h h' => ?_)) | (refine Br.mk (fun h => ?_) (fun h => ?_)))
 all_goals (try simp only [go_sem])
 all_goals (first | (subst h'; rfl) | (have hx : op < 1 ∨ 39 ≤ op := (by omega); exact congrArg Sv (if_pos hx).symm) | trace_state)
def vV (args : List AV) (K : AV → Prop) : Prop := match args with
 | [.r (.v (.int .i64 op))] => K (Sv (aK op))
 | _ => False
noncomputable abbrev fC : Ct Cx := .pure 133 vV fun args K h => by
 unfold vV at h; split at h; exact ⟨_, aA (aGv _) aVj rfl rfl, h⟩; exact h.elim
@[go_sem] theorem aIt : type_of% @vV.eq_def := @vV.eq_def
def bH (p : aH) (f : FnT) (c : Int) : Int :=
 if c = 114 then f.regs else if c = 107 then p.consts.length else if c = 116 then p.texts.length else if c = 112 then f.code.length else
 if c = 117 then f.caught.length else if c = 102 then p.fns.length else if c = 108 ∨ c = 110 then f.regs + 1 else 1
theorem aNf (p : aH) (f : FnT) (c : Int) (hf : Fok f) (hp : Psz p) : FC Cx 134 [bQ p, fnA f, .r (.v (.int .u8 c))] [] (Iv (bH p f c)) [] := by
 have hw : IntKind.i64.wrap (f.regs + 1) = f.regs + 1 := by have := hf.regs; rw [aL] <;> omega
 have hl1 : (p.consts.map valR).length = p.consts.length := List.length_map ..
 have hl2 : (f.caught.map intR).length = f.caught.length := List.length_map ..
 have hl3 : (p.fns.map fnR).length = p.fns.length := List.length_map ..
 have hl4 : (p.texts.map strR).length = p.texts.length := List.length_map ..
 have hl5 : (f.code.map insR).length = f.code.length := List.length_map ..
 refine aD [] Tryz.func134 Tryz.ntmps134 Tryz.results134 ?_
 refine goR ?_
 refine fzB 3 ?_
 refine fzB 4 ?_
 (any_goals refine go aXn 0 ?_)
 repeat' (first | (refine Br.go (fun h h' => ?_) (fun h h' => ?_)) | (refine Br.mk (fun h => ?_) (fun h => ?_)))
 all_goals (try simp only [go_sem])
 all_goals (simp_all [bH])
theorem aGp (xs ys zs : List (List RV)) (pa rg : Int) (ge : Bool) (us vs : List (List RV)) (c : Int) (h : ((xs = (fnsOf xs).map fnR ∧ ys = (valsOf ys).map valR ∧ zs = (strsOf zs).map strR) ∧ us = (aI us).map intR ∧ vs = (aQ vs).map insR) ∧ Fok ⟨pa, rg, ge, aI us, aQ vs⟩ ∧ Psz ⟨fnsOf xs, valsOf ys, strsOf zs⟩) : FC Cx 134 [.agg [.r (.rs 5 xs), .r (.rs 2 ys), .r (.rs 1 zs)], .agg [Iv pa, Iv rg, Bv ge, .r (.rs 1 us), .r (.rs 5 vs)], .r (.v (.int .u8 c))] [] (Iv (bH ⟨fnsOf xs, valsOf ys, strsOf zs⟩ ⟨pa, rg, ge, aI us, aQ vs⟩ c)) [] := by
 have := aNf ⟨fnsOf xs, valsOf ys, strsOf zs⟩ ⟨pa, rg, ge, aI us, aQ vs⟩ c h.2.1 h.2.2
 rwa [jQ h.1.1, Ec h.1.2] at this
def vA (args : List AV) (K : AV → Prop) : Prop := match args with
 | [.agg [.r (.rs 5 xs), .r (.rs 2 ys), .r (.rs 1 zs)], .agg [.r (.v (.int .i64 pa)), .r (.v (.int .i64 rg)), .r (.v (.bool ge)), .r (.rs 1 us), .r (.rs 5 vs)], .r (.v (.int .u8 c))] => (((xs = (fnsOf xs).map fnR ∧ ys = (valsOf ys).map valR ∧ zs = (strsOf zs).map strR) ∧ us = (aI us).map intR ∧ vs = (aQ vs).map insR) ∧ Fok ⟨pa, rg, ge, aI us, aQ vs⟩ ∧ Psz ⟨fnsOf xs, valsOf ys, strsOf zs⟩) ∧ K (Iv (bH ⟨fnsOf xs, valsOf ys, strsOf zs⟩ ⟨pa, rg, ge, aI us, aQ vs⟩ c))
 | _ => False
noncomputable abbrev fL : Ct Cx := .pure 134 vA fun args K h => by
 unfold vA at h; split at h; exact ⟨_, aA (aGp _ _ _ _ _ _ _ _ _ h.1) aVd rfl rfl, h.2⟩; exact h.elim
@[go_sem] theorem aIc : type_of% @vA.eq_def := @vA.eq_def
theorem aL3 (l m : List (Int × Int)) (hl : l.length ≤ 9223372036854775807) : FC Cx 135 [dK l, dK m] [] (Bv (decide (l = m))) [] := by
 have hlen : (l.map tryR).length = l.length := List.length_map ..
 have hlen' : (m.map tryR).length = m.length := List.length_map ..
 refine aD [] Tryz.func135 Tryz.ntmps135 Tryz.results135 ?_
 (any_goals refine go Vw 0 ?_)
 repeat' (first | (refine Br.go (fun h h' => ?_) (fun h h' => ?_)) | (refine Br.mk (fun h => ?_) (fun h => ?_)))
 ·simp only [go_sem]
  have : l ≠ m := fun he => h' (by rw [he])
  simp [this]
 have hlm : l.length = m.length := by omega
 refine dX [0, 1, 12, 13] (fun i => i ≤ l.length ∧ ∀ j, j < i → l[j]? = m[j]?) (fun (i : Nat) => ⟨26, [(0, dK l), (1, dK m), (12, Iv m.length), (13, Iv i)], []⟩) (fun i => l.length - i) 0 rfl rfl rfl ⟨Nat.zero_le _, fun j hj => by omega⟩ ?_
 rintro i ⟨hi, hno⟩
 by_cases hlt : i < l.length
 ·obtain ⟨x, hx⟩ : ∃ x, l[i]? = some x := ⟨l[i], List.getElem?_eq_getElem hlt⟩
  obtain ⟨y, hy⟩ : ∃ y, m[i]? = some y := ⟨m[i], List.getElem?_eq_getElem (by omega)⟩
  have hg := aE tryR hx ([] : List RV)
  have hg' := aE tryR hy ([] : List RV)
  have hw : IntKind.i64.wrap ((i : Int) + 1) = ((i + 1 : Nat) : Int) := by rw [aL] <;> omega
  have h1 : decide ((i : Int) < (m.length : Int)) = true := by rw [decide_eq_true_eq]; omega
  have h2 : Int.toNat (i : Int) = i := by omega
  (any_goals refine go Vw 0 ?_)
  repeat' (first | (refine Br.go (fun h h' => ?_) (fun h h' => ?_)) | (refine Br.mk (fun h => ?_) (fun h => ?_)))
  all_goals (try simp only [go_sem])
  ·have h9 := h
   have : l ≠ m := fun he => by
    rw [he] at hx; rw [hx] at hy
    have := Option.some.inj hy
    subst this
    simp at h9
   simp [this]
  ·refine ⟨i + 1, ⟨by omega, fun j hj => ?_⟩, by omega, eZ [0, 1, 12, 13] rfl rfl rfl⟩
   rcases Nat.lt_succ_iff_lt_or_eq.1 hj with h3 | h3
   ·exact hno j h3
   ·rw [h3, hx, hy]; exact congrArg some (by first | exact h' | exact Prod.ext h'.1 h'.2 | (cases x; cases y; simp_all))
 ·have h1 : decide ((i : Int) < (m.length : Int)) = false := by rw [decide_eq_false_iff_not]; omega
  (any_goals refine go Vw 0 ?_)
  all_goals (try simp only [go_sem])
  have : l = m := List.ext_getElem? fun j => by
   by_cases hj : j < i
   ·exact hno j hj
   ·rw [List.getElem?_eq_none (by omega), List.getElem?_eq_none (by omega)]
  simp [this]
theorem aEj (xs ys : List (List RV)) (h : xs = (triesOf xs).map tryR ∧ ys = (triesOf ys).map tryR ∧ xs.length ≤ 9223372036854775807) : FC Cx 135 [.r (.rs 2 xs), .r (.rs 2 ys)] [] (Bv (decide (triesOf xs = triesOf ys))) [] := by
 have := aL3 (triesOf xs) (triesOf ys) (by simpa [triesOf] using h.2.2)
 rwa [iD h.1, iD h.2.1] at this
def vP (args : List AV) (K : AV → Prop) : Prop := match args with
 | [.r (.rs 2 xs), .r (.rs 2 ys)] => (xs = (triesOf xs).map tryR ∧ ys = (triesOf ys).map tryR ∧ xs.length ≤ 9223372036854775807) ∧ K (Bv (decide (triesOf xs = triesOf ys)))
 | _ => False
noncomputable abbrev iV : Ct Cx := .pure 135 vP fun args K h => by
 unfold vP at h; split at h; exact ⟨_, aA (aEj _ _ h.1) aRz rfl rfl, h.2⟩; exact h.elim
@[go_sem] theorem aI7 : type_of% @vP.eq_def := @vP.eq_def
theorem aSg (p : aH) (f : FnT) (n op a b c line : Int) (hf : Fok f) (hp : Psz p) (hE : (decide (aK op = ⟨#[]⟩) || !decide (0 ≤ line ∧ line ≤ 2000)) = true) : FC Cx 74 [bQ p, fnA f, Iv n, insA ⟨op, a, b, c, line⟩] [] (Bv false) [] := by
 refine aD [fC, fL, aV] Tryz.func74 Tryz.ntmps74 Tryz.results74 ?_
 refine goR ?_
 refine fzB 4 ?_
 refine fzB 5 ?_
 refine fzB 7 ?_
 (any_goals refine go lv74 3 ?_)
 all_goals (try simp only [go_sem])
 all_goals (first | rfl | (simp_all; done) | trace_state)
theorem aKo (p : aH) (f : FnT) (n op a b c line : Int) (hf : Fok f) (hp : Psz p) (hE : (decide (aK op = ⟨#[]⟩) || !decide (0 ≤ line ∧ line ≤ 2000)) = false) (hs : (aK op).size = 3) (wm : ∀ ch, IntKind.i64.wrap (bH p f ch - 1) = bH p f ch - 1)  (k0 : (!decide (0 ≤ a ∧ a ≤ bH p f (((aK op).data.toList.getD 0 0).toNat : Int) - 1)) = true) : FC Cx 74 [bQ p, fnA f, Iv n, insA ⟨op, a, b, c, line⟩] [] (Bv false) [] := by
 have s0 : (0 : Int) < ((aK op).size : Int) := by rw [hs]; omega
 have s1 : (1 : Int) < ((aK op).size : Int) := by rw [hs]; omega
 have s2 : (2 : Int) < ((aK op).size : Int) := by rw [hs]; omega
 refine aD [fC, fL, aV] Tryz.func74 Tryz.ntmps74 Tryz.results74 ?_
 refine goR ?_
 refine fzB 4 ?_
 refine fzB 5 ?_
 refine fzB 7 ?_
 (any_goals refine go lv74 3 ?_)
 all_goals (try simp only [go_sem])
 all_goals (first | rfl | (simp_all; done) | trace_state)
theorem aMr (p : aH) (f : FnT) (n op a b c line : Int) (hf : Fok f) (hp : Psz p) (hE : (decide (aK op = ⟨#[]⟩) || !decide (0 ≤ line ∧ line ≤ 2000)) = false) (hs : (aK op).size = 3) (wm : ∀ ch, IntKind.i64.wrap (bH p f ch - 1) = bH p f ch - 1)  (k0 : (!decide (0 ≤ a ∧ a ≤ bH p f (((aK op).data.toList.getD 0 0).toNat : Int) - 1)) = false) (m0 : (decide ((((aK op).data.toList.getD 0 0).toNat : Int) = 102) && decide (a = 0)) = true) : FC Cx 74 [bQ p, fnA f, Iv n, insA ⟨op, a, b, c, line⟩] [] (Bv false) [] := by
 have s0 : (0 : Int) < ((aK op).size : Int) := by rw [hs]; omega
 have s1 : (1 : Int) < ((aK op).size : Int) := by rw [hs]; omega
 have s2 : (2 : Int) < ((aK op).size : Int) := by rw [hs]; omega
 refine aD [fC, fL, aV] Tryz.func74 Tryz.ntmps74 Tryz.results74 ?_
 refine goR ?_
 refine fzB 4 ?_
 refine fzB 5 ?_
 refine fzB 7 ?_
 (any_goals refine go lv74 3 ?_)
 all_goals (try simp only [go_sem])
 all_goals (first | rfl | (simp_all; done) | trace_state)
theorem aJ2 (p : aH) (f : FnT) (n op a b c line : Int) (hf : Fok f) (hp : Psz p) (hE : (decide (aK op = ⟨#[]⟩) || !decide (0 ≤ line ∧ line ≤ 2000)) = false) (hs : (aK op).size = 3) (wm : ∀ ch, IntKind.i64.wrap (bH p f ch - 1) = bH p f ch - 1) (k0 : (!decide (0 ≤ a ∧ a ≤ bH p f (((aK op).data.toList.getD 0 0).toNat : Int) - 1)) = false) (m0 : (decide ((((aK op).data.toList.getD 0 0).toNat : Int) = 102) && decide (a = 0)) = false) (k1 : (!decide (0 ≤ b ∧ b ≤ bH p f (((aK op).data.toList.getD 1 0).toNat : Int) - 1)) = true) : FC Cx 74 [bQ p, fnA f, Iv n, insA ⟨op, a, b, c, line⟩] [] (Bv false) [] := by
 have s0 : (0 : Int) < ((aK op).size : Int) := by rw [hs]; omega
 have s1 : (1 : Int) < ((aK op).size : Int) := by rw [hs]; omega
 have s2 : (2 : Int) < ((aK op).size : Int) := by rw [hs]; omega
 refine aD [fC, fL, aV] Tryz.func74 Tryz.ntmps74 Tryz.results74 ?_
 refine goR ?_
 refine fzB 4 ?_
 refine fzB 5 ?_
 refine fzB 7 ?_
 (any_goals refine go lv74 3 ?_)
 all_goals (try simp only [go_sem])
 all_goals (first | rfl | (simp_all; done) | trace_state)
theorem aNd (p : aH) (f : FnT) (n op a b c line : Int) (hf : Fok f) (hp : Psz p) (hE : (decide (aK op = ⟨#[]⟩) || !decide (0 ≤ line ∧ line ≤ 2000)) = false) (hs : (aK op).size = 3) (wm : ∀ ch, IntKind.i64.wrap (bH p f ch - 1) = bH p f ch - 1) (k0 : (!decide (0 ≤ a ∧ a ≤ bH p f (((aK op).data.toList.getD 0 0).toNat : Int) - 1)) = false) (m0 : (decide ((((aK op).data.toList.getD 0 0).toNat : Int) = 102) && decide (a = 0)) = false) (k1 : (!decide (0 ≤ b ∧ b ≤ bH p f (((aK op).data.toList.getD 1 0).toNat : Int) - 1)) = false) (m1 : (decide ((((aK op).data.toList.getD 1 0).toNat : Int) = 102) && decide (b = 0)) = true) : FC Cx 74 [bQ p, fnA f, Iv n, insA ⟨op, a, b, c, line⟩] [] (Bv false) [] := by
 have s0 : (0 : Int) < ((aK op).size : Int) := by rw [hs]; omega
 have s1 : (1 : Int) < ((aK op).size : Int) := by rw [hs]; omega
 have s2 : (2 : Int) < ((aK op).size : Int) := by rw [hs]; omega
 refine aD [fC, fL, aV] Tryz.func74 Tryz.ntmps74 Tryz.results74 ?_
 refine goR ?_
 refine fzB 4 ?_
 refine fzB 5 ?_
 refine fzB 7 ?_
 (any_goals refine go lv74 3 ?_)
 all_goals (try simp only [go_sem])
 all_goals (first | rfl | (simp_all; done) | trace_state)
theorem aL0 (p : aH) (f : FnT) (n op a b c line : Int) (hf : Fok f) (hp : Psz p) (hE : (decide (aK op = ⟨#[]⟩) || !decide (0 ≤ line ∧ line ≤ 2000)) = false) (hs : (aK op).size = 3) (wm : ∀ ch, IntKind.i64.wrap (bH p f ch - 1) = bH p f ch - 1) (k0 : (!decide (0 ≤ a ∧ a ≤ bH p f (((aK op).data.toList.getD 0 0).toNat : Int) - 1)) = false) (m0 : (decide ((((aK op).data.toList.getD 0 0).toNat : Int) = 102) && decide (a = 0)) = false) (k1 : (!decide (0 ≤ b ∧ b ≤ bH p f (((aK op).data.toList.getD 1 0).toNat : Int) - 1)) = false) (m1 : (decide ((((aK op).data.toList.getD 1 0).toNat : Int) = 102) && decide (b = 0)) = false) (k2 : (!decide (0 ≤ c ∧ c ≤ bH p f (((aK op).data.toList.getD 2 0).toNat : Int) - 1)) = true) : FC Cx 74 [bQ p, fnA f, Iv n, insA ⟨op, a, b, c, line⟩] [] (Bv false) [] := by
 have s0 : (0 : Int) < ((aK op).size : Int) := by rw [hs]; omega
 have s1 : (1 : Int) < ((aK op).size : Int) := by rw [hs]; omega
 have s2 : (2 : Int) < ((aK op).size : Int) := by rw [hs]; omega
 refine aD [fC, fL, aV] Tryz.func74 Tryz.ntmps74 Tryz.results74 ?_
 refine goR ?_
 refine fzB 4 ?_
 refine fzB 5 ?_
 refine fzB 7 ?_
 (any_goals refine go lv74 3 ?_)
 all_goals (try simp only [go_sem])
 all_goals (first | rfl | (simp_all; done) | trace_state)
theorem aMt (p : aH) (f : FnT) (n op a b c line : Int) (hf : Fok f) (hp : Psz p) (hE : (decide (aK op = ⟨#[]⟩) || !decide (0 ≤ line ∧ line ≤ 2000)) = false) (hs : (aK op).size = 3) (wm : ∀ ch, IntKind.i64.wrap (bH p f ch - 1) = bH p f ch - 1) (k0 : (!decide (0 ≤ a ∧ a ≤ bH p f (((aK op).data.toList.getD 0 0).toNat : Int) - 1)) = false) (m0 : (decide ((((aK op).data.toList.getD 0 0).toNat : Int) = 102) && decide (a = 0)) = false) (k1 : (!decide (0 ≤ b ∧ b ≤ bH p f (((aK op).data.toList.getD 1 0).toNat : Int) - 1)) = false) (m1 : (decide ((((aK op).data.toList.getD 1 0).toNat : Int) = 102) && decide (b = 0)) = false) (k2 : (!decide (0 ≤ c ∧ c ≤ bH p f (((aK op).data.toList.getD 2 0).toNat : Int) - 1)) = false) (m2 : (decide ((((aK op).data.toList.getD 2 0).toNat : Int) = 102) && decide (c = 0)) = true) : FC Cx 74 [bQ p, fnA f, Iv n, insA ⟨op, a, b, c, line⟩] [] (Bv false) [] := by
 have s0 : (0 : Int) < ((aK op).size : Int) := by rw [hs]; omega
 have s1 : (1 : Int) < ((aK op).size : Int) := by rw [hs]; omega
 have s2 : (2 : Int) < ((aK op).size : Int) := by rw [hs]; omega
 refine aD [fC, fL, aV] Tryz.func74 Tryz.ntmps74 Tryz.results74 ?_
 refine goR ?_
 refine fzB 4 ?_
 refine fzB 5 ?_
 refine fzB 7 ?_
 (any_goals refine go lv74 3 ?_)
 all_goals (try simp only [go_sem])
 all_goals (first | rfl | (simp_all; done) | trace_state)
theorem aNg (p : aH) (f : FnT) (n op a b c line : Int) (hf : Fok f) (hp : Psz p) (hE : (decide (aK op = ⟨#[]⟩) || !decide (0 ≤ line ∧ line ≤ 2000)) = false) (hs : (aK op).size = 3) (wm : ∀ ch, IntKind.i64.wrap (bH p f ch - 1) = bH p f ch - 1) (k0 : (!decide (0 ≤ a ∧ a ≤ bH p f (((aK op).data.toList.getD 0 0).toNat : Int) - 1)) = false) (m0 : (decide ((((aK op).data.toList.getD 0 0).toNat : Int) = 102) && decide (a = 0)) = false) (k1 : (!decide (0 ≤ b ∧ b ≤ bH p f (((aK op).data.toList.getD 1 0).toNat : Int) - 1)) = false) (m1 : (decide ((((aK op).data.toList.getD 1 0).toNat : Int) = 102) && decide (b = 0)) = false) (k2 : (!decide (0 ≤ c ∧ c ≤ bH p f (((aK op).data.toList.getD 2 0).toNat : Int) - 1)) = false) (m2 : (decide ((((aK op).data.toList.getD 2 0).toNat : Int) = 102) && decide (c = 0)) = false) (o1 : decide (op = 14) = true) : FC Cx 74 [bQ p, fnA f, Iv n, insA ⟨op, a, b, c, line⟩] [] (Bv (decide (a ≤ n))) [] := by
 have s0 : (0 : Int) < ((aK op).size : Int) := by rw [hs]; omega
 have s1 : (1 : Int) < ((aK op).size : Int) := by rw [hs]; omega
 have s2 : (2 : Int) < ((aK op).size : Int) := by rw [hs]; omega
 refine aD [fC, fL, aV] Tryz.func74 Tryz.ntmps74 Tryz.results74 ?_
 refine goR ?_
 refine fzB 4 ?_
 refine fzB 5 ?_
 refine fzB 7 ?_
 (any_goals refine go lv74 3 ?_)
 all_goals (try simp only [go_sem])
 all_goals (first | rfl | (simp_all; done) | trace_state)
theorem aJw (p : aH) (f : FnT) (n op a b c line : Int) (hf : Fok f) (hp : Psz p) (hE : (decide (aK op = ⟨#[]⟩) || !decide (0 ≤ line ∧ line ≤ 2000)) = false) (hs : (aK op).size = 3) (wm : ∀ ch, IntKind.i64.wrap (bH p f ch - 1) = bH p f ch - 1) (k0 : (!decide (0 ≤ a ∧ a ≤ bH p f (((aK op).data.toList.getD 0 0).toNat : Int) - 1)) = false) (m0 : (decide ((((aK op).data.toList.getD 0 0).toNat : Int) = 102) && decide (a = 0)) = false) (k1 : (!decide (0 ≤ b ∧ b ≤ bH p f (((aK op).data.toList.getD 1 0).toNat : Int) - 1)) = false) (m1 : (decide ((((aK op).data.toList.getD 1 0).toNat : Int) = 102) && decide (b = 0)) = false) (k2 : (!decide (0 ≤ c ∧ c ≤ bH p f (((aK op).data.toList.getD 2 0).toNat : Int) - 1)) = false) (m2 : (decide ((((aK op).data.toList.getD 2 0).toNat : Int) = 102) && decide (c = 0)) = false) (o1 : decide (op = 14) = false) (o2 : decide (op = 19) = true) (hw : IntKind.i64.wrap (b + c) = b + c) : FC Cx 74 [bQ p, fnA f, Iv n, insA ⟨op, a, b, c, line⟩] [] (Bv (decide (b + c ≤ f.regs))) [] := by
 have s0 : (0 : Int) < ((aK op).size : Int) := by rw [hs]; omega
 have s1 : (1 : Int) < ((aK op).size : Int) := by rw [hs]; omega
 have s2 : (2 : Int) < ((aK op).size : Int) := by rw [hs]; omega
 refine aD [fC, fL, aV] Tryz.func74 Tryz.ntmps74 Tryz.results74 ?_
 refine goR ?_
 refine fzB 4 ?_
 refine fzB 5 ?_
 refine fzB 7 ?_
 (any_goals refine go lv74 3 ?_)
 all_goals (try simp only [go_sem])
 all_goals (first | rfl | (simp_all; done) | trace_state)
theorem aMl (p : aH) (f : FnT) (n op a b c line : Int) (hf : Fok f) (hp : Psz p) (hE : (decide (aK op = ⟨#[]⟩) || !decide (0 ≤ line ∧ line ≤ 2000)) = false) (hs : (aK op).size = 3) (wm : ∀ ch, IntKind.i64.wrap (bH p f ch - 1) = bH p f ch - 1) (k0 : (!decide (0 ≤ a ∧ a ≤ bH p f (((aK op).data.toList.getD 0 0).toNat : Int) - 1)) = false) (m0 : (decide ((((aK op).data.toList.getD 0 0).toNat : Int) = 102) && decide (a = 0)) = false) (k1 : (!decide (0 ≤ b ∧ b ≤ bH p f (((aK op).data.toList.getD 1 0).toNat : Int) - 1)) = false) (m1 : (decide ((((aK op).data.toList.getD 1 0).toNat : Int) = 102) && decide (b = 0)) = false) (k2 : (!decide (0 ≤ c ∧ c ≤ bH p f (((aK op).data.toList.getD 2 0).toNat : Int) - 1)) = false) (m2 : (decide ((((aK op).data.toList.getD 2 0).toNat : Int) = 102) && decide (c = 0)) = false) (o1 : decide (op = 14) = false) (o2 : decide (op = 19) = false) (o3 : decide (op = 27) = true) (hw : IntKind.i64.wrap (b + c) = b + c) : FC Cx 74 [bQ p, fnA f, Iv n, insA ⟨op, a, b, c, line⟩] [] (Bv (decide (b + c < f.regs))) [] := by
 have s0 : (0 : Int) < ((aK op).size : Int) := by rw [hs]; omega
 have s1 : (1 : Int) < ((aK op).size : Int) := by rw [hs]; omega
 have s2 : (2 : Int) < ((aK op).size : Int) := by rw [hs]; omega
 refine aD [fC, fL, aV] Tryz.func74 Tryz.ntmps74 Tryz.results74 ?_
 refine goR ?_
 refine fzB 4 ?_
 refine fzB 5 ?_
 refine fzB 7 ?_
 (any_goals refine go lv74 3 ?_)
 all_goals (try simp only [go_sem])
 all_goals (first | rfl | (simp_all; done) | trace_state)
theorem aKz (p : aH) (f : FnT) (n op a b c line : Int) (hf : Fok f) (hp : Psz p) (hE : (decide (aK op = ⟨#[]⟩) || !decide (0 ≤ line ∧ line ≤ 2000)) = false) (hs : (aK op).size = 3) (wm : ∀ ch, IntKind.i64.wrap (bH p f ch - 1) = bH p f ch - 1) (k0 : (!decide (0 ≤ a ∧ a ≤ bH p f (((aK op).data.toList.getD 0 0).toNat : Int) - 1)) = false) (m0 : (decide ((((aK op).data.toList.getD 0 0).toNat : Int) = 102) && decide (a = 0)) = false) (k1 : (!decide (0 ≤ b ∧ b ≤ bH p f (((aK op).data.toList.getD 1 0).toNat : Int) - 1)) = false) (m1 : (decide ((((aK op).data.toList.getD 1 0).toNat : Int) = 102) && decide (b = 0)) = false) (k2 : (!decide (0 ≤ c ∧ c ≤ bH p f (((aK op).data.toList.getD 2 0).toNat : Int) - 1)) = false) (m2 : (decide ((((aK op).data.toList.getD 2 0).toNat : Int) = 102) && decide (c = 0)) = false) (o1 : decide (op = 14) = false) (o2 : decide (op = 19) = false) (o3 : decide (op = 27) = false) (o4 : decide (op = 32) = true) : FC Cx 74 [bQ p, fnA f, Iv n, insA ⟨op, a, b, c, line⟩] [] (Bv f.gen) [] := by
 have s0 : (0 : Int) < ((aK op).size : Int) := by rw [hs]; omega
 have s1 : (1 : Int) < ((aK op).size : Int) := by rw [hs]; omega
 have s2 : (2 : Int) < ((aK op).size : Int) := by rw [hs]; omega
 refine aD [fC, fL, aV] Tryz.func74 Tryz.ntmps74 Tryz.results74 ?_
 refine goR ?_
 refine fzB 4 ?_
 refine fzB 5 ?_
 refine fzB 7 ?_
 (any_goals refine go lv74 3 ?_)
 all_goals (try simp only [go_sem])
 all_goals (first | rfl | (simp_all; done) | trace_state)
theorem aTk (p : aH) (f : FnT) (n op a b c line : Int) (hf : Fok f) (hp : Psz p) (hE : (decide (aK op = ⟨#[]⟩) || !decide (0 ≤ line ∧ line ≤ 2000)) = false) (hs : (aK op).size = 3) (wm : ∀ ch, IntKind.i64.wrap (bH p f ch - 1) = bH p f ch - 1) (k0 : (!decide (0 ≤ a ∧ a ≤ bH p f (((aK op).data.toList.getD 0 0).toNat : Int) - 1)) = false) (m0 : (decide ((((aK op).data.toList.getD 0 0).toNat : Int) = 102) && decide (a = 0)) = false) (k1 : (!decide (0 ≤ b ∧ b ≤ bH p f (((aK op).data.toList.getD 1 0).toNat : Int) - 1)) = false) (m1 : (decide ((((aK op).data.toList.getD 1 0).toNat : Int) = 102) && decide (b = 0)) = false) (k2 : (!decide (0 ≤ c ∧ c ≤ bH p f (((aK op).data.toList.getD 2 0).toNat : Int) - 1)) = false) (m2 : (decide ((((aK op).data.toList.getD 2 0).toNat : Int) = 102) && decide (c = 0)) = false) (o1 : decide (op = 14) = false) (o2 : decide (op = 19) = false) (o3 : decide (op = 27) = false) (o4 : decide (op = 32) = false) (o5 : decide (op = 26) = false) : FC Cx 74 [bQ p, fnA f, Iv n, insA ⟨op, a, b, c, line⟩] [] (Bv true) [] := by
 have s0 : (0 : Int) < ((aK op).size : Int) := by rw [hs]; omega
 have s1 : (1 : Int) < ((aK op).size : Int) := by rw [hs]; omega
 have s2 : (2 : Int) < ((aK op).size : Int) := by rw [hs]; omega
 refine aD [fC, fL, aV] Tryz.func74 Tryz.ntmps74 Tryz.results74 ?_
 refine goR ?_
 refine fzB 4 ?_
 refine fzB 5 ?_
 refine fzB 7 ?_
 (any_goals refine go lv74 3 ?_)
 all_goals (try simp only [go_sem])
 all_goals (first | rfl | (simp_all; done) | trace_state)
theorem aAu (pa rg : Int) (ge : Bool) (us : List Int) : FC Cx 75 [fnA ⟨pa, rg, ge, us, []⟩] [] (.tup [.r (.v (.slice none 0 0)), Bv false]) [] := by
 refine aD [iV] Tryz.func75 Tryz.ntmps75 Tryz.results75 ?_
 refine goR ?_
 refine fzB 1 ?_
 (any_goals refine go lv75 0 ?_)
 all_goals (try simp only [go_sem])
def kC (b : Bool) (l : List (Int × Int)) : List AV := [Bv b, bif b then dK l else .r (.v (.slice none 0 0))]
def knC (W : WT) : List (List AV) := List.zipWith kC W.seen W.out
theorem zN {f : FnT} {W : WT} (h : Wiv f W) : (knC W).length = f.code.length := by
 unfold knC; rw [List.length_zipWith, h.seen, h.out, Nat.min_self]
theorem Nl {f : FnT} {W : WT} (h : Wiv f W) {n : Nat} (hn : n < f.code.length) : (knC W).getD n [] = kC (W.seen.getD n false) (W.out.getD n []) := by
 have h1 : n < W.seen.length := by rw [h.seen]; exact hn
 have h2 : n < W.out.length := by rw [h.out]; exact hn
 simp only [knC, List.getD, List.getElem?_zipWith, List.getElem?_eq_getElem h1, List.getElem?_eq_getElem h2, Option.getD_some]
theorem Qk (W : WT) (n : Nat) (b : Bool) (l : List (Int × Int)) (t t' : List Int) (q q' : Bool) : (knC ⟨W.seen, W.out, t, q⟩).set n (kC b l) = knC ⟨W.seen.set n b, W.out.set n l, t', q'⟩ := by
 unfold knC
 apply List.ext_getElem?
 intro j
 simp only [List.getElem?_set, List.getElem?_zipWith, List.length_zipWith]
 by_cases e : n = j
 ·subst e
  by_cases h1 : n < W.seen.length <;> by_cases h2 : n < W.out.length <;> simp [h1, h2, Nat.lt_min]
 ·simp [e]
theorem aA3 (f : FnT) : knC (W0 f) = List.replicate f.code.length [Bv false, .r (.v (.slice none 0 0))] := by
 unfold knC W0
 rw [List.zipWith_replicate, Nat.min_self]; rfl
theorem Ti {f : FnT} (h0 : 0 < f.code.length) : knC (aZ f 0 [] (W0 f)) = (List.replicate f.code.length [Bv false, (.r (.v (.slice none 0 0)) : AV)]).set 0 [Bv true, dK []] := by
 rw [mT h0, ← aA3]
 exact (Qk (W0 f) 0 true [] [] [0] false false).symm
theorem Xf {A : List (List AV)} {k : Nat} {r r' : List AV} (h : ∀ (j : Nat) (x x' : AV), r[j]? = some x → r'[j]? = some x' → ∀ cur g w N v, AR cur g w N x v → AR cur g w N x' v) :
  ∀ (i j : Nat) (row row' : List AV) (x x' : AV), (A.set k r)[i]? = some row → (A.set k r')[i]? = some row' → row[j]? = some x → row'[j]? = some x' → ∀ cur g w N v, AR cur g w N x v → AR cur g w N x' v := by
 intro i j row row' x x' h1 h2 h3 h4 cur g w N v hv
 rw [List.getElem?_set] at h1 h2
 by_cases e : k = i
 ·rw [if_pos e] at h1 h2
  by_cases hl : k < A.length
  ·rw [if_pos hl] at h1 h2
   cases h1; cases h2
   exact h j x x' h3 h4 cur g w N v hv
  ·rw [if_neg hl] at h1; cases h1
 ·rw [if_neg e] at h1 h2
  rw [h1] at h2; cases h2
  rw [h3] at h4; cases h4
  exact hv
theorem Nn {f : FnT} (h0 : 0 < f.code.length) :
  ∀ (i j : Nat) (row row' : List AV) (x x' : AV), ((List.replicate f.code.length [Bv false, (.r (.v (.slice none 0 0)) : AV)]).set 0 [Bv true, (.r (.v (.slice none 0 0)) : AV)])[i]? = some row → (knC (aZ f 0 [] (W0 f)))[i]? = some row' → row[j]? = some x → row'[j]? = some x' → ∀ cur g w N v, AR cur g w N x v → AR cur g w N x' v := by
 rw [Ti h0]
 refine Xf fun j x x' h1 h2 cur g w N v hv => ?_
 match j with
 | 0 => simp at h1 h2; subst h1; subst h2; exact hv
 | 1 =>
  simp at h1 h2; subst h1; subst h2
  cases hv with
  | r h => exact .r (RR.nilD (.nil 2) h)
 | j + 2 => simp at h1
theorem aE9 (W : WT) : ∀ row ∈ knC W, (row.length, noNd row) = (2, true) := fun row h => by
 obtain ⟨i, hi⟩ := List.getElem?_of_mem h
 unfold knC at hi
 rw [List.getElem?_zipWith] at hi
 split at hi
 ·rename_i a b _ _; cases hi; cases a <;> rfl
 ·cases hi
def tsF (op a b k : Int) : List Int := if op = 13 ∨ op = 14 then [a] else if op = 15 ∨ op = 30 then [b, k + 1] else [k + 1]
def lsF (op a b : Int) (l : List (Int × Int)) : List (List (Int × Int)) :=
 if op = 13 ∨ op = 14 then [l] else if op = 15 then [l, l] else if op = 30 then [l, l ++ [(a, b)]] else if op = 31 then [l.take (l.length - 1)] else [l]
def gQ (f : FnT) (ts : List Int) (ls : List (List (Int × Int))) : Nat → WT → WT
 | 0, W => W
 | j + 1, W => aZ f (ts.getD j 0) (ls.getD j []) (gQ f ts ls j W)
theorem aLt (op a b k : Int) (l : List (Int × Int)) : (lsF op a b l).length = (tsF op a b k).length ∧ (tsF op a b k).length ≤ 2 := by
 unfold tsF lsF
 repeat' split
 all_goals first | (simp; done) | omega
theorem aVa {f : FnT} (hk : Cok f) {k : Nat} {i : InsT} (hi : f.code[k]? = some i) : ∀ t ∈ tsF i.op i.a i.b k, 0 ≤ t := by
 have hm := List.mem_of_getElem? hi
 intro t ht
 unfold tsF at ht
 split at ht
 ·rename_i h; simp at ht; subst ht; exact hk.a i hm h
 ·split at ht
  ·rename_i h
   simp at ht
   rcases ht with rfl | rfl
   ·exact hk.b i hm h
   ·omega
  ·simp at ht; subst ht; omega
theorem aRa {op a b : Int} {l : List (Int × Int)} (h : l.length ≤ 20) : ∀ x ∈ lsF op a b l, x.length ≤ 21 := by
 intro x hx
 unfold lsF at hx
 repeat' split at hx
 all_goals simp at hx
 all_goals first | (subst hx; first | omega | (simp; omega)) | (rcases hx with rfl | rfl <;> first | omega | (simp; omega))
theorem On {f : FnT} {k : Nat} {W : WT} {i : InsT} (hi : f.code[k]? = some i) (h1 : ¬ (i.op = 28 ∨ i.op = 29)) (h2 : ¬ (i.op = 31 ∧ W.out.getD k [] = [])) :
  bU f k W = gQ f (tsF i.op i.a i.b k) (lsF i.op i.a i.b (W.out.getD k [])) (tsF i.op i.a i.b k).length W := by
 have e1 : f.code.getD (Int.toNat (k : Int)) ins0 = i := by simp [List.getD, hi]
 have e2 : W.out.getD (Int.toNat (k : Int)) [] = W.out.getD k [] := by simp
 unfold bU tsF lsF
 simp only [e1, e2]
 rw [if_neg h1]
 by_cases h13 : i.op = 13 ∨ i.op = 14
 ·simp only [if_pos h13]; rfl
 simp only [if_neg h13]
 by_cases h15 : i.op = 15
 ·simp only [h15, if_true, true_or]; rfl
 by_cases h30 : i.op = 30
 ·simp only [h30, or_true, if_true]; rfl
 rw [if_neg h15, if_neg h30]
 have h3 : ¬ (i.op = 15 ∨ i.op = 30) := fun h => h.elim h15 h30
 simp only [if_neg h3, if_neg h15, if_neg h30]
 by_cases h31 : i.op = 31
 ·have : ¬ (W.out.getD k [] = []) := fun h => h2 ⟨h31, h⟩
  rw [if_pos h31, if_neg this, if_pos h31]; rfl
 ·rw [if_neg h31, if_neg h31]; rfl
theorem Ex {f : FnT} {ts : List Int} {ls : List (List (Int × Int))} {W : WT} : ∀ {j m : Nat}, j ≤ m → (gQ f ts ls j W).bad = true → (gQ f ts ls m W).bad = true
  | j, 0, h, hb => by have : j = 0 := by omega
                      subst this; exact hb
  | j, m + 1, h, hb => by
    rcases Nat.lt_or_ge j (m + 1) with h1 | h1
    · exact pC (Ex (m := m) (by omega) hb)
    · have : j = m + 1 := by omega
      subst this; exact hb
theorem Kw {f : FnT} {ts : List Int} {ls : List (List (Int × Int))} {W : WT} (h : Wiv f W) (hts : ∀ t ∈ ts, 0 ≤ t) : ∀ {j : Nat}, Wiv f (gQ f ts ls j W)
 | 0 => h
 | j + 1 => by
  refine (cK (Kw h hts) ?_).1
  cases hj : ts[j]? with
  | none => simp [List.getD, hj]
  | some t => simpa [List.getD, hj] using hts t (List.mem_of_getElem? hj)
theorem Jb {f : FnT} {W : WT} : ∀ {j m : Nat}, j ≤ m → (cD f j W).bad = true → (cD f m W).bad = true
  | j, 0, h, hb => by have : j = 0 := by omega
                      subst this; exact hb
  | j, m + 1, h, hb => by
    rcases Nat.lt_or_ge j (m + 1) with h1 | h1
    · have := Jb (m := m) (by omega) hb
      show (if (cD f m W).bad = true then _ else _ : WT).bad = true
      rw [if_pos this]; exact this
    · have : j = m + 1 := by omega
      subst this; exact hb
theorem Zl {f : FnT} {W : WT} {k : Nat} (hd : docW f = lD f k W) (hn : nuW W ≤ k) (ht : W.todo ≠ []) (hb : W.bad = false) :
  ((cD f f.code.length (eY W)).bad = true → (docW f).bad = true) ∧ ∃ k', k = k' + 1 ∧ docW f = lD f k' (cD f f.code.length (eY W)) := by
 have h1 : 1 ≤ nuW W := by unfold nuW; rw [if_neg ht]; omega
 obtain ⟨k', rfl⟩ : ∃ k', k = k' + 1 := ⟨k - 1, by omega⟩
 have e : lD f (k' + 1) W = lD f k' (cD f f.code.length (eY W)) := by
  show (if W.bad = true ∨ W.todo = [] then W else _) = _
  rw [if_neg (fun h => h.elim (by rw [hb]; simp) ht)]
 rw [e] at hd
 refine ⟨fun h => ?_, k', rfl, hd⟩
 rw [hd, pR (.inl h)]; exact h
theorem Ui {f : FnT} {W : WT} {k : Nat} (hb : (cD f k W).bad = false) (hs : (cD f k W).seen.getD k false = true) : cD f (k + 1) W = bU f k (cD f k W) := by
 show (if (cD f k W).bad = true then _ else if (cD f k W).seen.getD k false = true then _ else _) = _
 rw [if_neg (by rw [hb]; simp), if_pos hs]
theorem Ua {f : FnT} {W : WT} {k : Nat} (hb : (cD f k W).bad = false) (hs : (cD f k W).seen.getD k false = false) : cD f (k + 1) W = cD f k W := by
 show (if (cD f k W).bad = true then _ else if (cD f k W).seen.getD k false = true then _ else _) = _
 rw [if_neg (by rw [hb]; simp), if_neg (by rw [hs]; simp)]
theorem aB4 {f : FnT} {k : Nat} {W : WT} {i : InsT} (hi : f.code[k]? = some i) (h : i.op = 28 ∨ i.op = 29) : bU f k W = W := by
 have e1 : f.code.getD (Int.toNat (k : Int)) ins0 = i := by simp [List.getD, hi]
 unfold bU
 simp only [e1]
 rw [if_pos h]
theorem aBt {f : FnT} {k : Nat} {W : WT} {i : InsT} (hi : f.code[k]? = some i) (h : i.op = 31) (h2 : W.out.getD k [] = []) : (bU f k W).bad = true := by
 have e1 : f.code.getD (Int.toNat (k : Int)) ins0 = i := by simp [List.getD, hi]
 have e2 : W.out.getD (Int.toNat (k : Int)) [] = [] := by simpa using h2
 unfold bU
 simp only [e1, e2]
 rw [h]; simp
theorem aB3 {f : FnT} {W : WT} (h : Wiv f W) {n : Nat} (hn : n < f.code.length) (hs : W.seen.getD n false = true) {l : List (Int × Int)} (hl : W.out.getD n [] = l) : (knC W).set n (kC true l) = knC W := by
 refine aA0 ?_
 have h1 := Nl h hn
 have h2 : n < (knC W).length := by rw [zN h]; exact hn
 rw [hs, hl] at h1
 simpa [List.getD, List.getElem?_eq_getElem h2] using h1
def knR (W : WT) : List (List RV) := List.zipWith (fun b l => [RV.v (.bool b), bif b then RV.rs 2 (l.map tryR) else .v (.slice none 0 0)]) W.seen W.out
theorem Er (n : Nat) (st : St) : ∀ (a : List Bool) (b : List (List (Int × Int))) (K : List Loc → List (List RV) → Prop), nD (fI n st) (List.zipWith kC a b) K = K [] (List.zipWith (fun b l => [RV.v (.bool b), bif b then RV.rs 2 (l.map tryR) else .v (.slice none 0 0)]) a b)
 | [], _, K => by simp only [List.zipWith_nil_left, nD]
 | _ :: _, [], K => by simp only [List.zipWith_nil_right, nD]
 | x :: a, y :: b, K => by
  cases x <;> cases n <;> (simp only [List.zipWith_cons_cons, nD, nX, fI, kC, cond_true, cond_false]; rw [Er _ st a b]; rfl)
@[go_sem] theorem aV3 (n : Nat) (st : St) (W : WT) (K : List Loc → List (List RV) → Prop) : nD (fI n st) (knC W) K = K [] (knR W) := Er n st _ _ K
def docR (f : FnT) : AV := bif (docW f).bad then .tup [.r (.v (.slice none 0 0)), Bv false] else .tup [.r (.rs 2 (knR (docW f))), Bv true]
theorem Aa {f : FnT} (h : (docW f).bad = true) : docR f = .tup [.r (.v (.slice none 0 0)), Bv false] := by unfold docR; rw [h]; rfl
theorem Ii {f : FnT} (h : (docW f).bad = false) : docR f = .tup [.r (.rs 2 (knR (docW f))), Bv true] := by unfold docR; rw [h]; rfl
structure Qo (op : Int) (l : List (Int × Int)) : Prop where
 o28 : ¬ (op = 28 ∨ op = 29)
 o31 : ¬ (op = 31 ∧ l = [])
theorem aE4 (f : FnT) (h0 : 0 < f.code.length) (hk : Cok f) : FC Cx 75 [fnA f] [] (docR f) [] := by
  have h6 := hk.len
  have l1 : (f.code.map insR).length = f.code.length := List.length_map ..
  have d1 : decide ((f.code.length : Int) = 0) = false := by rw [decide_eq_false_iff_not]; omega
  have b1 : (0 : Int) < (f.code.length : Int) := by omega
  have t1 : Int.toNat (f.code.length : Int) = f.code.length := by omega
  have lr : (List.replicate f.code.length [Bv false, (.r (.v (.slice none 0 0)) : AV)]).length = f.code.length := List.length_replicate
  have g0 : (List.replicate f.code.length [Bv false, (.r (.v (.slice none 0 0)) : AV)]).getD 0 [] = [Bv false, .r (.v (.slice none 0 0))] := by
    simp [List.getD, List.getElem?_replicate, h0]
  have hw : bI bO (docR f) = true := by unfold docR; cases (docW f).bad <;> rfl
  refine jP [iV] Tryz.func75 rfl Tryz.ntmps75 (by simp) Tryz.results75 hw ?_
  refine rnst ?_
  refine goR ?_
  refine fzB 1 ?_
  (any_goals refine go lv75 0 ?_)
  have hi0 := (cK (n := 0) (l := []) (jI f).1 (Int.le_refl 0)).1
  (apply Je 19 (knC (aZ f 0 [] (W0 f))); (exact rfl); (exact (by rw [zN hi0]; simp)); (exact aE9 _); (exact Nn h0); (exact rfl); (intro K0; (try simp only [go_sem]); exact ⟨id⟩))
  refine cI [1, 4, 5, 6] (fun x : WT × Nat => Wiv f x.1 ∧ x.1.bad = false ∧ To f x.1 0 [] ∧ ∃ k, nuW x.1 ≤ k ∧ docW f = lD f k x.1) (fun x => let u := x.2; ⟨166, [(1, .r (.rp (fnR f))), (4, Iv f.code.length), (5, .os 19 1), (6, Bv (!decide (x.1.todo = [])))], [(1, 2, .gone), (19, 1, .sl 185 2 (knC x.1)), (8, u, .gone), (50, u, .gone), (52, u, .gone), (61, u, .gone), (63, u, .gone), (70, u, .gone), (73, u, .gone), (76, u, .gone), (78, u, .gone), (84, u, .gone), (85, u, .gone), (90, u, .gone), (93, u, .gone), (101, u, .gone), (107, u, .gone)]⟩) (fun x => nuW x.1) (aZ f 0 [] (W0 f), 0) ⟨hi0, by rw [mT h0], oR (jI f).1 (Int.le_refl 0) (by rw [mT h0]), 2 * f.code.length + 2, ?_, rfl⟩ ?_ rfl (by rw [mT h0]; rfl)
  · have h1 := (cK (n := 0) (l := []) (jI f).1 (Int.le_refl 0)).2
    rw [(jI f).2] at h1
    unfold muW at h1
    unfold nuW
    dsimp only
    split <;> omega
  rintro ⟨W, u⟩ ⟨hi, hb, hT, kk, hkk, hdk⟩
  dsimp only at hi hb hT hkk hdk ⊢
  by_cases ht : W.todo = []
  · have dt : decide (W.todo = []) = true := by simpa using ht
    have hD : docW f = W := by rw [hdk]; exact pR (.inr ht) _
    have hR : docR f = .tup [.r (.rs 2 (knR W)), Bv true] := by rw [Ii (by rw [hD]; exact hb), hD]
    clear hD hdk
    (any_goals refine go lv75 0 ?_)
    all_goals (try simp only [go_sem, hR])
  have dt : decide (W.todo = []) = false := by simpa using ht
  obtain ⟨hbad, k', rfl, hdk'⟩ := Zl hdk hkk ht hb
  (any_goals refine go lv75 0 ?_)
  refine cI [1, 4, 5, 6, 27, 28, 29] (fun x : Nat × Nat => x.1 ≤ f.code.length ∧ (cD f x.1 (eY W)).bad = false) (fun x => let u := x.2; ⟨166, [(1, .r (.rp (fnR f))), (4, Iv f.code.length), (5, .os 19 1), (6, Bv (!decide ((cD f x.1 (eY W)).todo = []))), (27, nQ f.code), (28, Iv f.code.length), (29, Iv x.1)], [(1, 2, .gone), (19, 1, .sl 185 2 (knC (cD f x.1 (eY W)))), (8, u, .gone), (50, u, .gone), (52, u, .gone), (61, u, .gone), (63, u, .gone), (70, u, .gone), (73, u, .gone), (76, u, .gone), (78, u, .gone), (84, u, .gone), (85, u, .gone), (90, u, .gone), (93, u, .gone), (101, u, .gone), (107, u, .gone)]⟩) (fun x => f.code.length - x.1) (0, u) ⟨Nat.zero_le _, hb⟩ ?_
  rintro ⟨k, u⟩ ⟨hkl, hkb⟩
  dsimp only at hkl hkb ⊢
  have hP := mG (f := f) hk k _ (mW hi)
  by_cases hlt : k < f.code.length
  case neg =>
    have e : k = f.code.length := by omega
    subst e
    have c1 : decide ((f.code.length : Int) < (f.code.length : Int)) = false := by rw [decide_eq_false_iff_not]; omega
    (any_goals refine go lv75 0 ?_)
    refine ⟨(cD f f.code.length (eY W), u), ⟨hP, hkb, Hy hk _ _ (mW hi) (vB.2 hT), k', ?_, hdk'⟩, Hu hk hi ht, ?_⟩
    · have := Hu hk hi ht; dsimp only; omega
    · dsimp only; exact aY [1, 4, 5, 6]
  have c1 : decide ((k : Int) < (f.code.length : Int)) = true := by rw [decide_eq_true_eq]; omega
  have t2 : Int.toNat (k : Int) = k := by omega
  have hw1 : IntKind.i64.wrap ((k : Int) + 1) = ((k + 1 : Nat) : Int) := by rw [aL] <;> omega
  have lk : (knC (cD f k (eY W))).length = f.code.length := zN hP
  have hat := Nl hP hlt
  obtain ⟨i, hx⟩ : ∃ x, f.code[k]? = some x := ⟨f.code[k], List.getElem?_eq_getElem hlt⟩
  have hgx := aE insR hx ([] : List RV)
  cases hs : (cD f k (eY W)).seen.getD k false with
  | false =>
    have hp1 := Ua hkb hs
    rw [hs] at hat
    simp only [kC, cond_false] at hat
    (any_goals refine go lv75 0 ?_)
    refine ⟨(k + 1, u + 9), ⟨by dsimp only; omega, by dsimp only; rw [hp1]; exact hkb⟩, by dsimp only; omega, ?_⟩
    dsimp only; rw [hp1]; exact aY [1, 4, 5, 6, 27, 28, 29]
  | true =>
    have hp1 := Ui hkb hs
    rw [hs] at hat
    simp only [kC, cond_true] at hat
    have hM := fun h => hbad (Jb (m := f.code.length) (j := k + 1) (by omega) h)
    rw [hp1] at hM
    generalize hWk : cD f k (eY W) = V at *
    generalize hl : V.out.getD k [] = l at *
    have hl20 : l.length ≤ 20 := hP.outs l (by have : k < V.out.length := by rw [hP.out]; exact hlt
                                               rw [← hl]; simp [List.getD, List.getElem?_eq_getElem this])
    obtain ⟨op, a, b, c, line⟩ := i
    (any_goals refine go (eM 17 lv75) 0 ?_)
    refine goR1 lv75 0 ?_
    refine mJ (Qo op l) (st' := ⟨166, [(1, .r (.rp (fnR f))), (4, Iv f.code.length), (5, .os 19 1), (6, Bv (!decide (V.todo = []))), (27, nQ f.code), (28, Iv f.code.length), (29, Iv k), (11, .r (.rs 1 ((tsF op a b k).map intR))), (12, .r (.rs 1 ((lsF op a b l).map trsR)))], [(1, 2, .gone), (19, 1, .sl 185 2 (knC V)), (8, u + 9, .gone), (50, u + 9, .gone), (52, u + 9, .gone), (61, u + 9, .gone), (63, u + 9, .gone), (70, u + 9, .gone), (73, u + 9, .gone), (76, u + 9, .gone), (78, u + 9, .gone), (84, u + 9, .gone), (85, u + 9, .gone), (90, u + 9, .gone), (93, u + 9, .gone), (101, u + 9, .gone), (107, u + 9, .gone)]⟩) rfl ?_ ?_
    · by_cases o28 : op = 28 ∨ op = 29
      · have hF := aB4 (W := V) hx o28
        rcases o28 with rfl | rfl
        all_goals
          (any_goals refine go lv75 0 ?_)
          refine ⟨(k + 1, u + 9), ⟨by dsimp only; omega, by dsimp only; rw [hp1, hF]; exact hkb⟩, by dsimp only; omega, ?_⟩
          dsimp only; rw [hp1, hF]; exact aY [1, 4, 5, 6, 27, 28, 29]
      have d28 : decide (op = 28) = false := by rw [decide_eq_false_iff_not]; omega
      have d29 : decide (op = 29) = false := by rw [decide_eq_false_iff_not]; omega
      by_cases o13 : op = 13 ∨ op = 14
      · rcases o13 with rfl | rfl
        all_goals
          (any_goals refine goF ((1000000, [61, 63]) :: lv75) 0 ?_)
          exact ⟨⟨o28, fun h => by have := h.1; omega⟩, Lx.le (aY [1, 4, 5, 6, 27, 28, 29, 11, 12])⟩
      have d13 : decide (op = 13) = false := by rw [decide_eq_false_iff_not]; omega
      have d14 : decide (op = 14) = false := by rw [decide_eq_false_iff_not]; omega
      have hw2 : IntKind.i64.wrap ((k : Int) + 1) = (k : Int) + 1 := by rw [aL] <;> omega
      clear hw1
      by_cases o15 : op = 15
      · subst o15
        (any_goals refine goF ((1000000, [70, 73]) :: lv75) 0 ?_)
        exact ⟨⟨o28, fun h => by have := h.1; omega⟩, Lx.le (aY [1, 4, 5, 6, 27, 28, 29, 11, 12])⟩
      have d15 : decide (op = 15) = false := by rw [decide_eq_false_iff_not]; omega
      by_cases o30 : op = 30
      · subst o30
        have ll' : (l.map tryC).length = l.length := List.length_map ..
        have hm : (l.map tryC) ++ [[Iv a, Iv b]] = (l ++ [(a, b)]).map tryC := by simp
        (any_goals refine go (eM 28 lv75) 0 ?_)
        (apply jD 76 ((l ++ [(a, b)]).map tryR); (exact rfl); (exact (Fn _).symm); (exact rfl); (intro K0; (try simp only [go_sem]); exact ⟨id⟩))
        (any_goals refine goF ((1000000, [90, 93]) :: lv75) 0 ?_)
        exact ⟨⟨o28, fun h => by have := h.1; omega⟩, Lx.le (aY [1, 4, 5, 6, 27, 28, 29, 11, 12])⟩
      have d30 : decide (op = 30) = false := by rw [decide_eq_false_iff_not]; omega
      by_cases o31 : op = 31
      · subst o31
        have ll : (l.map tryR).length = l.length := List.length_map ..
        by_cases hl0 : l = []
        · have e0 : decide ((l.length : Int) = 0) = true := by rw [hl0]; rfl
          have hR := Aa (hM (aBt hx rfl (by rw [hl]; exact hl0)))
          (any_goals refine go lv75 0 ?_)
          all_goals (try simp only [go_sem, hR])
        · have hlp := List.length_pos_iff.2 hl0
          have e0 : decide ((l.length : Int) = 0) = false := by rw [decide_eq_false_iff_not]; omega
          have hw3 : IntKind.i64.wrap ((l.length : Int) - 1) = ((l.length - 1 : Nat) : Int) := by rw [aL] <;> omega
          have t4 : Int.toNat ((l.length - 1 : Nat) : Int) = l.length - 1 := by omega
          have hm : List.take (l.length - 1) (l.map tryR) = (l.take (l.length - 1)).map tryR := List.map_take.symm
          (any_goals refine go lv75 0 ?_)
          refine ⟨⟨o28, fun h => hl0 h.2⟩, ?_⟩
          refine Lx.frzL 101 rfl rfl (Lx.frzL 107 rfl rfl (Lx.le ?_))
          simp only [go_sem]
          exact aY [1, 4, 5, 6, 27, 28, 29, 11, 12]
      have d31 : decide (op = 31) = false := by rw [decide_eq_false_iff_not]; omega
      have q1 : tsF op a b k = [(k : Int) + 1] := by unfold tsF; rw [if_neg o13, if_neg (by omega)]
      have q2 : lsF op a b l = [l] := by unfold lsF; rw [if_neg o13, if_neg o15, if_neg o30, if_neg o31]
      rw [q1, q2]
      (any_goals refine goF ((1000000, [50, 52]) :: lv75) 0 ?_)
      all_goals (try simp only [go_sem])
      exact ⟨⟨o28, fun h => by have := h.1; omega⟩, Lx.le (aY [1, 4, 5, 6, 27, 28, 29, 11, 12])⟩
    · rintro ⟨o28, o31⟩
      obtain ⟨hln, hl2⟩ := aLt op a b k l
      have hts := aVa hk hx
      have hls := aRa (op := op) (a := a) (b := b) hl20
      have hF := On (W := V) hx o28 (by rw [hl]; exact o31)
      rw [hl] at hF
      dsimp only at hts hF
      generalize tsF op a b k = ts at *
      generalize lsF op a b l = ls at *
      have l2 : (ts.map intR).length = ts.length := List.length_map ..
      have l3 : (ls.map trsR).length = ls.length := List.length_map ..
      clear o28 o31 hat
      (any_goals refine go lv75 0 ?_)
      refine cI [1, 4, 5, 6, 27, 28, 29, 12, 108, 109, 110] (fun j : Nat => j ≤ ts.length ∧ (gQ f ts ls j V).bad = false) (fun j => ⟨166, [(1, .r (.rp (fnR f))), (4, Iv f.code.length), (5, .os 19 1), (6, Bv (!decide ((gQ f ts ls j V).todo = []))), (27, nQ f.code), (28, Iv f.code.length), (29, Iv k), (12, .r (.rs 1 (ls.map trsR))), (108, .r (.rs 1 (ts.map intR))), (109, Iv ts.length), (110, Iv j)], [(1, 2, .gone), (19, 1, .sl 185 2 (knC (gQ f ts ls j V))), (8, u + 9, .gone), (50, u + 9, .gone), (52, u + 9, .gone), (61, u + 9, .gone), (63, u + 9, .gone), (70, u + 9, .gone), (73, u + 9, .gone), (76, u + 9, .gone), (78, u + 9, .gone), (84, u + 9, .gone), (85, u + 9, .gone), (90, u + 9, .gone), (93, u + 9, .gone), (101, u + 9, .gone), (107, u + 9, .gone)]⟩) (fun j => ts.length - j) 0 ⟨Nat.zero_le _, hkb⟩ ?_
      rintro j ⟨hj, hjb⟩
      by_cases hjl : j < ts.length
      case neg =>
        have e : j = ts.length := by omega
        subst e
        have c2 : decide ((ts.length : Int) < (ts.length : Int)) = false := by rw [decide_eq_false_iff_not]; omega
        rw [← hF, ← hp1] at hjb
        (any_goals refine go lv75 0 ?_)
        rw [← hF, ← hp1]
        exact ⟨(k + 1, u + 9), ⟨by dsimp only; omega, hjb⟩, by dsimp only; omega, aY [1, 4, 5, 6, 27, 28, 29]⟩
      have c2 : decide ((j : Int) < (ts.length : Int)) = true := by rw [decide_eq_true_eq]; omega
      have t3 : Int.toNat (j : Int) = j := by omega
      have hw2 : IntKind.i64.wrap ((j : Int) + 1) = ((j + 1 : Nat) : Int) := by rw [aL] <;> omega
      obtain ⟨t, ht'⟩ : ∃ t, ts[j]? = some t := ⟨ts[j], List.getElem?_eq_getElem hjl⟩
      obtain ⟨x, hx'⟩ : ∃ x, ls[j]? = some x := ⟨ls[j]'(by omega), List.getElem?_eq_getElem (by omega)⟩
      have ht0 := hts t (List.mem_of_getElem? ht')
      have hx21 := hls x (List.mem_of_getElem? hx')
      obtain ⟨m, rfl⟩ : ∃ m : Nat, t = m := ⟨t.toNat, by omega⟩
      have gt := aE intR ht' ([] : List RV)
      have gx := aE trsR hx' ([] : List RV)
      have hU : Wiv f (gQ f ts ls j V) := Kw hP hts
      have hN : gQ f ts ls (j + 1) V = aZ f m x (gQ f ts ls j V) := by
        show aZ f (ts.getD j 0) (ls.getD j []) _ = _
        simp [List.getD, ht', hx']
      have hB : (aZ f m x (gQ f ts ls j V)).bad = true → docR f = .tup [.r (.v (.slice none 0 0)), Bv false] := fun h => by
        refine Aa (hM ?_)
        rw [hF]
        exact Ex (j := j + 1) (by omega) (by rw [hN]; exact h)
      have lU : (knC (gQ f ts ls j V)).length = f.code.length := zN hU
      have t4 : Int.toNat (m : Int) = m := by omega
      have lx : (x.map tryR).length = x.length := List.length_map ..
      have rowU := fun h => Nl (n := m) hU h
      have outU := hU.outs
      have lenU := hU.out
      have sameU := fun h1 h2 => aB3 (n := m) hU h1 h2 (l := x)
      have setU := fun (t' : List Int) (q' : Bool) => Qk (gQ f ts ls j V) m true x (gQ f ts ls j V).todo t' (gQ f ts ls j V).bad q'
      generalize gQ f ts ls j V = U at *
      clear hbad hM hF hp1 hP hts hls hdk hdk' hT hi0 hx hgx lk hs hlt hkb hWk hl hi hb
      by_cases k1 : f.code.length ≤ m
      · have e1 : decide ((f.code.length : Int) ≤ (m : Int)) = true := by rw [decide_eq_true_eq]; omega
        have hR := hB (by unfold aZ; rw [if_pos (by left; omega)])
        (any_goals refine go lv75 0 ?_)
        all_goals (try simp only [go_sem, hR])
      have e1 : decide ((f.code.length : Int) ≤ (m : Int)) = false := by rw [decide_eq_false_iff_not]; omega
      have mlt : (m : Int) < (f.code.length : Int) := by omega
      by_cases k2 : 20 < x.length
      · have e2 : decide ((20 : Int) < (x.length : Int)) = true := by rw [decide_eq_true_eq]; omega
        have hR := hB (by unfold aZ; rw [if_pos (by right; exact k2)])
        (any_goals refine go lv75 0 ?_)
        all_goals (try simp only [go_sem, hR])
      have e2 : decide ((20 : Int) < (x.length : Int)) = false := by rw [decide_eq_false_iff_not]; omega
      have rU := rowU (by omega)
      have oU : (U.out.getD m []).length ≤ 20 := outU _ (by
        have : m < U.out.length := by omega
        simp [List.getD, List.getElem?_eq_getElem this])
      generalize ho : U.out.getD m [] = o at *
      have lo : (o.map tryR).length = o.length := List.length_map ..
      cases hsm : U.seen.getD m false with
      | false =>
        rw [hsm] at rU
        simp only [kC, cond_false] at rU
        have hC : aZ f m x U = ⟨U.seen.set m true, U.out.set m x, U.todo ++ [(m : Int)], U.bad⟩ := by
          unfold aZ; rw [if_neg (by omega), t4, if_pos hsm]
        have hK : (knC U).set m [Bv true, dK x] = knC (aZ f m x U) := by rw [hC]; exact setU _ _
        have e5 : decide (U.todo ++ [(m : Int)] = []) = false := by simp
        (any_goals refine go lv75 0 ?_)
        repeat' (first | (refine Br.go (fun h h' => ?_) (fun h h' => ?_)) | (refine Br.mk (fun h => ?_) (fun h => ?_)))
        all_goals
          refine ⟨j + 1, ⟨by omega, by rw [hN, hC]; exact hjb⟩, by omega, ?_⟩
          rw [hN, hC, hjb, e5]
          exact aY [1, 4, 5, 6, 27, 28, 29, 12, 108, 109, 110]
      | true =>
        rw [hsm] at rU
        simp only [kC, cond_true] at rU
        by_cases hox : o = x
        · subst hox
          have hC : aZ f m o U = U := by unfold aZ; rw [if_neg (by omega), t4, if_neg (by rw [hsm]; simp), if_pos ho]
          have hK : (knC U).set m [Bv true, dK o] = knC U := sameU (by omega) hsm rfl
          (any_goals refine go lv75 0 ?_)
          repeat' (first | (refine Br.go (fun h h' => ?_) (fun h h' => ?_)) | (refine Br.mk (fun h => ?_) (fun h => ?_)))
          all_goals
            refine ⟨j + 1, ⟨by omega, by rw [hN, hC]; exact hjb⟩, by omega, ?_⟩
            rw [hN, hC, h]
            exact aY [1, 4, 5, 6, 27, 28, 29, 12, 108, 109, 110]
        · have e7 : decide (o = x) = false := by simpa using hox
          have hR := hB (by unfold aZ; rw [if_neg (by omega), t4, if_neg (by rw [hsm]; simp), if_neg (by rw [ho]; exact hox)])
          (any_goals refine go lv75 0 ?_)
          all_goals (try simp only [go_sem, hR])
def dcau (f : FnT) (c : Int) : Bool := decide (f.regs ≤ c) || decide (c < -(f.caught.length : Int))
theorem aLg (p : aH) (f : FnT) (n op a b c line : Int) (hf : Fok f) (hp : Psz p) (hE : (decide (aK op = ⟨#[]⟩) || !decide (0 ≤ line ∧ line ≤ 2000)) = false) (hs : (aK op).size = 3) (wm : ∀ ch, IntKind.i64.wrap (bH p f ch - 1) = bH p f ch - 1) (k0 : (!decide (0 ≤ a ∧ a ≤ bH p f (((aK op).data.toList.getD 0 0).toNat : Int) - 1)) = false) (m0 : (decide ((((aK op).data.toList.getD 0 0).toNat : Int) = 102) && decide (a = 0)) = false) (k1 : (!decide (0 ≤ b ∧ b ≤ bH p f (((aK op).data.toList.getD 1 0).toNat : Int) - 1)) = false) (m1 : (decide ((((aK op).data.toList.getD 1 0).toNat : Int) = 102) && decide (b = 0)) = false) (k2 : (!decide (0 ≤ c ∧ c ≤ bH p f (((aK op).data.toList.getD 2 0).toNat : Int) - 1)) = false) (m2 : (decide ((((aK op).data.toList.getD 2 0).toNat : Int) = 102) && decide (c = 0)) = false) (o1 : decide (op = 14) = false) (o2 : decide (op = 19) = false) (o3 : decide (op = 27) = false) (o4 : decide (op = 32) = false) (o5 : decide (op = 26) = true) (g : FnT) (hg : p.fns[b.toNat]? = some g) (hb : 0 ≤ b) (hgc : g.caught.length ≤ 9223372036854775807) : FC Cx 74 [bQ p, fnA f, Iv n, insA ⟨op, a, b, c, line⟩] [] (Bv (!(g.caught.any (dcau f)))) [] := by
 have s0 : (0 : Int) < ((aK op).size : Int) := by rw [hs]; omega
 have s1 : (1 : Int) < ((aK op).size : Int) := by rw [hs]; omega
 have s2 : (2 : Int) < ((aK op).size : Int) := by rw [hs]; omega
 have k1' : (!decide (b ≤ bH p f (((aK op).data.toList.getD 1 0).toNat : Int) - 1)) = false := by simp only [hb, true_and] at k1; exact k1
 have hl : (p.fns.map fnR).length = p.fns.length := List.length_map ..
 have hgd := aE fnR hg ([] : List RV)
 have hlt : b < (p.fns.length : Int) := by have := (List.getElem?_eq_some_iff.1 hg).1; omega
 have hlc : (g.caught.map intR).length = g.caught.length := List.length_map ..
 have hlf : (f.caught.map intR).length = f.caught.length := List.length_map ..
 refine aD [fC, fL, aV] Tryz.func74 Tryz.ntmps74 Tryz.results74 ?_
 refine goR ?_
 refine fzB 4 ?_
 refine fzB 5 ?_
 refine fzB 7 ?_
 (any_goals refine go (eM 21 lv74) 3 ?_)
 (any_goals refine go lv74 0 ?_)
 refine iW [5, 99, 100, 101] (fun i => i ≤ g.caught.length ∧ ∀ j x, j < i → g.caught[j]? = some x → dcau f x = false)
  (fun (i : Nat) => ⟨118, [(5, .r (.rp (fnR f))), (99, cX g.caught), (100, Iv g.caught.length), (101, Iv i)], [(4, 2, .gone), (5, 2, .gone), (7, 2, .gone)]⟩) (fun i => g.caught.length - i) 0 rfl rfl ⟨rfl, .inl ⟨rfl, rfl⟩, rfl, .inl ⟨rfl, rfl⟩, rfl, .inl ⟨rfl, rfl⟩, trivial⟩ ⟨Nat.zero_le _, fun j x hj => by omega⟩ ?_
 rintro i ⟨hi, hno⟩
 by_cases hlt' : i < g.caught.length
 ·obtain ⟨x, hx⟩ : ∃ x, g.caught[i]? = some x := ⟨g.caught[i], List.getElem?_eq_getElem hlt'⟩
  have hgx := aE intR hx ([] : List RV)
  have hw : IntKind.i64.wrap ((i : Int) + 1) = ((i + 1 : Nat) : Int) := by rw [aL] <;> omega
  have h1 : decide ((i : Int) < (g.caught.length : Int)) = true := by rw [decide_eq_true_eq]; omega
  have h2 : Int.toNat (i : Int) = i := by omega
  have hn1 : IntKind.i64.wrap (0 - (f.caught.length : Int)) = -(f.caught.length : Int) := by have := hf.caught; rw [aL] <;> omega
  have hn2 : IntKind.i64.wrap (-(f.caught.length : Int)) = -(f.caught.length : Int) := by have := hf.caught; rw [aL] <;> omega
  cases hp : dcau f x with
  | true =>
   have hp' : (decide (f.regs ≤ x) || decide (x < -(f.caught.length : Int))) = true := hp
   have hany : g.caught.any (dcau f) = true := List.any_eq_true.2 ⟨x, List.mem_of_getElem? hx, hp⟩
   clear hp
   (any_goals refine go lv74 0 ?_)
   all_goals (try simp only [go_sem])
   rw [hany]; rfl
  | false =>
   have hp' : (decide (f.regs ≤ x) || decide (x < -(f.caught.length : Int))) = false := hp
   clear hp
   (any_goals refine go lv74 0 ?_)
   refine ⟨i + 1, ⟨by omega, fun j y hj hy => ?_⟩, by omega, gG [5, 99, 100, 101] rfl rfl ⟨rfl, .inl ⟨rfl, rfl⟩, rfl, .inl ⟨rfl, rfl⟩, rfl, .inl ⟨rfl, rfl⟩, trivial⟩⟩
   rcases Nat.lt_succ_iff_lt_or_eq.1 hj with h3 | h3
   ·exact hno j y h3 hy
   ·subst h3; rw [hx] at hy; cases hy; exact hp'
 ·have h1 : decide ((i : Int) < (g.caught.length : Int)) = false := by rw [decide_eq_false_iff_not]; omega
  have hany : g.caught.any (dcau f) = false := List.any_eq_false.2 fun x hx => by
   obtain ⟨j, hj, rfl⟩ := List.getElem_of_mem hx
   have := hno j _ (by omega) (List.getElem?_eq_getElem hj)
   rw [this]; simp
  (any_goals refine go lv74 0 ?_)
  all_goals (try simp only [go_sem])
  rw [hany]; rfl
def dB (op : Int) (j : Nat) : Int := ((aK op).data.toList.getD j 0).toNat
def dnam (p : aH) (f : FnT) (d x : Int) : Bool := decide (0 ≤ x ∧ x ≤ bH p f d - 1) && !(decide (d = 102) && decide (x = 0))
def Im (c d : Int) : Bool := decide (c = d ∧ (c = 114 ∨ c = 107 ∨ c = 116 ∨ c = 117 ∨ c = 102 ∨ c = 108 ∨ c = 110)) || decide (c = 45 ∧ d = 46) || decide (c = 97 ∧ d = 112)
theorem uM (p : aH) (f : FnT) {c d x : Int} (h : Im c d = true) : namesF p f c x = dnam p f d x := by
 simp only [Im, Bool.or_eq_true, decide_eq_true_eq] at h
 rw [Bool.eq_iff_iff]
 unfold dnam
 rcases h with (⟨rfl, rfl | rfl | rfl | rfl | rfl | rfl | rfl⟩ | ⟨rfl, rfl⟩) | ⟨rfl, rfl⟩
 all_goals simp [namesF, pX, bH, wiF]
 all_goals omega
theorem Mm {op : Int} (h : ¬ (op < 1 ∨ 39 ≤ op)) : Im (fB op 0) (dB op 0) = true ∧ Im (fB op 2) (dB op 2) = true ∧ (op ≠ 27 → Im (fB op 1) (dB op 1) = true) := by
 rcases ors h with rfl | rfl | rfl | rfl | rfl | rfl | rfl | rfl | rfl | rfl | rfl | rfl | rfl | rfl | rfl | rfl | rfl | rfl | rfl | rfl | rfl | rfl | rfl | rfl | rfl | rfl | rfl | rfl | rfl | rfl | rfl | rfl | rfl | rfl | rfl | rfl | rfl | rfl <;> exact ⟨rfl, rfl, fun h => by first | rfl | exact absurd rfl h⟩
theorem aGo {f : FnT} (hr : 0 ≤ f.regs) (c : Int) : dcau f c = cauF f c := by
 rw [Bool.eq_iff_iff]
 unfold dcau cauF wiF
 simp
 omega
def zM (p : aH) (f : FnT) (n : Int) (i : InsT) : Bool :=
 if (decide (aK i.op = ⟨#[]⟩) || !decide (0 ≤ i.line ∧ i.line ≤ 2000)) = true then false else
 if (dnam p f (dB i.op 0) i.a && dnam p f (dB i.op 1) i.b && dnam p f (dB i.op 2) i.c) = false then false else
 if i.op = 14 then decide (i.a ≤ n) else if i.op = 19 then decide (i.b + i.c ≤ f.regs) else if i.op = 27 then decide (i.b + i.c < f.regs) else if i.op = 32 then f.gen else
 if i.op = 26 then !((p.fns.getD i.b.toNat fn0).caught.any (dcau f)) else true
theorem Cu {op : Int} : decide (aK op = ⟨#[]⟩) = decide (op < 1 ∨ 39 ≤ op) := by
 by_cases h : op < 1 ∨ 39 ≤ op
 ·rw [decide_eq_true h]; unfold aK; rw [if_pos h]; rfl
 ·rw [decide_eq_false h, decide_eq_false_iff_not]
  intro e
  have := yI h
  rw [e] at this; cases this
theorem Sp (p : aH) (f : FnT) (n : Int) (i : InsT) (hr : 0 ≤ f.regs) : zM p f n i = fE p f n i := by
 unfold zM fE
 rw [Cu]
 by_cases h : i.op < 1 ∨ 39 ≤ i.op
 ·rw [decide_eq_true h, if_pos h]; rfl
 ·rw [decide_eq_false h, if_neg h]
  obtain ⟨h0, h2, h1⟩ := Mm h
  have e0 := uM p f (x := i.a) h0
  have e2 := uM p f (x := i.c) h2
  have hc : (p.fns.getD i.b.toNat fn0).caught.any (dcau f) = (p.fns.getD i.b.toNat fn0).caught.any (cauF f) := by
   congr 1; exact funext (aGo hr)
  have hl : wiF i.line 0 2000 = decide (0 ≤ i.line ∧ i.line ≤ 2000) := rfl
  unfold lP qM
  rw [hc, e0, e2, hl]
  by_cases h27 : i.op = 27
  ·have q1 : fB i.op 1 = 99 := by rw [h27]; rfl
   have q2 : dB i.op 1 = 114 := by rw [h27]; rfl
   have q3 : dB i.op 2 = 110 := by rw [h27]; rfl
   have w1 : namesF p f 99 i.b = decide (0 ≤ i.b ∧ i.b ≤ f.regs) := by simp [namesF, wiF]
   have w2 : dnam p f 114 i.b = decide (0 ≤ i.b ∧ i.b ≤ f.regs - 1) := by simp [dnam, bH]
   have w3 : dnam p f 110 i.c = decide (0 ≤ i.c ∧ i.c ≤ f.regs) := by simp [dnam, bH]
   rw [q1, q2, q3, h27, w1, w2, w3]
   generalize dnam p f (dB 27 0) i.a = A
   generalize decide (0 ≤ i.line ∧ i.line ≤ 2000) = L
   cases L <;> cases A
   ·rfl
   ·rfl
   ·simp
   ·simp only [Bool.not_true, Bool.or_false, Bool.true_and, Bool.false_eq_true, if_false]
    rw [Bool.eq_iff_iff]
    by_cases g1 : 0 ≤ i.b ∧ i.b ≤ f.regs - 1
    ·by_cases g2 : 0 ≤ i.c ∧ i.c ≤ f.regs
     ·have g3 : 0 ≤ i.b ∧ i.b ≤ f.regs := by omega
      simp [g1, g2, g3, wiF]
      omega
     ·simp [g2]
    ·by_cases g3 : 0 ≤ i.b ∧ i.b ≤ f.regs
     ·by_cases g2 : 0 ≤ i.c ∧ i.c ≤ f.regs
      ·simp [g1, g2, g3, wiF]
       omega
      ·simp [g2]
     ·simp [g1, g3]
  ·rw [← uM p f (x := i.b) (h1 h27)]
   generalize dnam p f (dB i.op 0) i.a = A
   generalize dnam p f (dB i.op 2) i.c = B
   generalize namesF p f (fB i.op 1) i.b = D
   generalize decide (0 ≤ i.line ∧ i.line ≤ 2000) = L
   cases L <;> cases A <;> cases B <;> cases D <;> simp [h27]
   by_cases h26 : i.op = 26
   ·simp [h26]
   ·simp [h26]
theorem Sr {p : aH} {f : FnT} (hf : Fok f) (hp : Psz p) (ch : Int) : IntKind.i64.wrap (bH p f ch - 1) = bH p f ch - 1 := by
 have h1 := hp.fns; have h2 := hp.consts; have h3 := hp.texts; have h4 := hf.caught; have h5 := hf.code; have hr := hf.regs
 have : 0 ≤ bH p f ch ∧ bH p f ch ≤ 9223372036854775807 := by
  unfold bH
  repeat' split
  all_goals omega
 rw [aL] <;> omega
theorem Nm {p : aH} {f : FnT} {d x : Int} : dnam p f d x = (!(!decide (0 ≤ x ∧ x ≤ bH p f d - 1)) && !(decide (d = 102) && decide (x = 0))) := by
 unfold dnam; rw [Bool.not_not]
theorem Tu (p : aH) (f : FnT) (n op a b c line : Int) (hf : Fok f) (hp : Psz p) (hcau : ∀ g ∈ p.fns, g.caught.length ≤ 9223372036854775807) :
  FC Cx 74 [bQ p, fnA f, Iv n, insA ⟨op, a, b, c, line⟩] [] (Bv (zM p f n ⟨op, a, b, c, line⟩)) [] := by
 have wm := Sr (p := p) hf hp
 have hr := hf.regs
 unfold zM
 simp only [Nm]
 cases hE : (decide (aK op = ⟨#[]⟩) || !decide (0 ≤ line ∧ line ≤ 2000)) with
 | true => rw [if_pos rfl]; exact aSg p f n op a b c line hf hp hE
 | false =>
  rw [if_neg (by simp)]
  have hop : ¬ (op < 1 ∨ 39 ≤ op) := by
   have h1 := hE
   simp only [Bool.or_eq_false_iff] at h1
   rw [Cu] at h1
   simpa using h1.1
  have hs := yI hop
  cases k0 : (!decide (0 ≤ a ∧ a ≤ bH p f (dB op 0) - 1)) with
  | true => exact aKo p f n op a b c line hf hp hE hs wm k0
  | false =>
  cases m0 : (decide (dB op 0 = 102) && decide (a = 0)) with
  | true => exact aMr p f n op a b c line hf hp hE hs wm k0 m0
  | false =>
  cases k1 : (!decide (0 ≤ b ∧ b ≤ bH p f (dB op 1) - 1)) with
  | true => exact aJ2 p f n op a b c line hf hp hE hs wm k0 m0 k1
  | false =>
  cases m1 : (decide (dB op 1 = 102) && decide (b = 0)) with
  | true => exact aNd p f n op a b c line hf hp hE hs wm k0 m0 k1 m1
  | false =>
  cases k2 : (!decide (0 ≤ c ∧ c ≤ bH p f (dB op 2) - 1)) with
  | true => exact aL0 p f n op a b c line hf hp hE hs wm k0 m0 k1 m1 k2
  | false =>
  cases m2 : (decide (dB op 2 = 102) && decide (c = 0)) with
  | true => exact aMt p f n op a b c line hf hp hE hs wm k0 m0 k1 m1 k2 m2
  | false =>
  rw [if_neg (by decide)]
  have q1 : 0 ≤ b ∧ b ≤ bH p f (dB op 1) - 1 := by simpa using k1
  have q2 : 0 ≤ c ∧ c ≤ bH p f (dB op 2) - 1 := by simpa using k2
  cases o1 : decide (op = 14) with
  | true => rw [if_pos (by simpa using o1)]; exact aNg p f n op a b c line hf hp hE hs wm k0 m0 k1 m1 k2 m2 o1
  | false =>
  rw [if_neg (by simpa using o1)]
  cases o2 : decide (op = 19) with
  | true =>
   have e : op = 19 := by simpa using o2
   rw [if_pos e]
   have e1 : bH p f (dB op 1) = f.regs + 1 := by rw [e]; rfl
   have e2 : bH p f (dB op 2) = f.regs + 1 := by rw [e]; rfl
   rw [e1] at q1; rw [e2] at q2
   exact aJw p f n op a b c line hf hp hE hs wm k0 m0 k1 m1 k2 m2 o1 o2 (by rw [aL] <;> omega)
  | false =>
  rw [if_neg (by simpa using o2)]
  cases o3 : decide (op = 27) with
  | true =>
   have e : op = 27 := by simpa using o3
   rw [if_pos e]
   have e1 : bH p f (dB op 1) = f.regs := by rw [e]; rfl
   have e2 : bH p f (dB op 2) = f.regs + 1 := by rw [e]; rfl
   rw [e1] at q1; rw [e2] at q2
   exact aMl p f n op a b c line hf hp hE hs wm k0 m0 k1 m1 k2 m2 o1 o2 o3 (by rw [aL] <;> omega)
  | false =>
  rw [if_neg (by simpa using o3)]
  cases o4 : decide (op = 32) with
  | true => rw [if_pos (by simpa using o4)]; exact aKz p f n op a b c line hf hp hE hs wm k0 m0 k1 m1 k2 m2 o1 o2 o3 o4
  | false =>
  rw [if_neg (by simpa using o4)]
  cases o5 : decide (op = 26) with
  | true =>
   have e : op = 26 := by simpa using o5
   rw [if_pos e]
   have e1 : bH p f (dB op 1) = (p.fns.length : Int) := by rw [e]; rfl
   rw [e1] at q1
   have hlt : b.toNat < p.fns.length := by omega
   have hg : p.fns[b.toNat]? = some p.fns[b.toNat] := List.getElem?_eq_getElem hlt
   have hgd : p.fns.getD b.toNat fn0 = p.fns[b.toNat] := by simp [List.getD, hg]
   rw [hgd]
   exact aLg p f n op a b c line hf hp hE hs wm k0 m0 k1 m1 k2 m2 o1 o2 o3 o4 o5 _ hg q1.1 (hcau _ (List.getElem_mem hlt))
  | false =>
   rw [if_neg (by simpa using o5)]
   exact aTk p f n op a b c line hf hp hE hs wm k0 m0 k1 m1 k2 m2 o1 o2 o3 o4 o5
theorem Wx (p : aH) (f : FnT) (n : Int) (i : InsT) (hf : Fok f) (hp : Psz p) (hcau : ∀ g ∈ p.fns, g.caught.length ≤ 9223372036854775807) :
  FC Cx 74 [bQ p, fnA f, Iv n, insA i] [] (Bv (fE p f n i)) [] := by
 rw [← Sp p f n i (by have := hf.regs; omega)]
 exact Tu p f n i.op i.a i.b i.c i.line hf hp hcau
def Cau (p : aH) : Prop := ∀ g ∈ p.fns, g.caught.length ≤ 9223372036854775807
theorem Tp (xs ys zs : List (List RV)) (pa rg : Int) (ge : Bool) (us vs : List (List RV)) (n op a b c line : Int) (h : ((xs = (fnsOf xs).map fnR ∧ ys = (valsOf ys).map valR ∧ zs = (strsOf zs).map strR) ∧ us = (aI us).map intR ∧ vs = (aQ vs).map insR) ∧ Fok ⟨pa, rg, ge, aI us, aQ vs⟩ ∧ Psz ⟨fnsOf xs, valsOf ys, strsOf zs⟩ ∧ Cau ⟨fnsOf xs, valsOf ys, strsOf zs⟩) : FC Cx 74 [.agg [.r (.rs 5 xs), .r (.rs 2 ys), .r (.rs 1 zs)], .agg [Iv pa, Iv rg, Bv ge, .r (.rs 1 us), .r (.rs 5 vs)], Iv n, .agg [Iv op, Iv a, Iv b, Iv c, Iv line]] [] (Bv (fE ⟨fnsOf xs, valsOf ys, strsOf zs⟩ ⟨pa, rg, ge, aI us, aQ vs⟩ n ⟨op, a, b, c, line⟩)) [] := by
 have := Wx ⟨fnsOf xs, valsOf ys, strsOf zs⟩ ⟨pa, rg, ge, aI us, aQ vs⟩ n ⟨op, a, b, c, line⟩ h.2.1 h.2.2.1 h.2.2.2
 rwa [jQ h.1.1, Ec h.1.2] at this
def pW (args : List AV) (K : AV → Prop) : Prop := match args with
 | [.agg [.r (.rs 5 xs), .r (.rs 2 ys), .r (.rs 1 zs)], .agg [.r (.v (.int .i64 pa)), .r (.v (.int .i64 rg)), .r (.v (.bool ge)), .r (.rs 1 us), .r (.rs 5 vs)], .r (.v (.int .i64 n)), .agg [.r (.v (.int .i64 op)), .r (.v (.int .i64 a)), .r (.v (.int .i64 b)), .r (.v (.int .i64 c)), .r (.v (.int .i64 line))]] => (((xs = (fnsOf xs).map fnR ∧ ys = (valsOf ys).map valR ∧ zs = (strsOf zs).map strR) ∧ us = (aI us).map intR ∧ vs = (aQ vs).map insR) ∧ Fok ⟨pa, rg, ge, aI us, aQ vs⟩ ∧ Psz ⟨fnsOf xs, valsOf ys, strsOf zs⟩ ∧ Cau ⟨fnsOf xs, valsOf ys, strsOf zs⟩) ∧ K (Bv (fE ⟨fnsOf xs, valsOf ys, strsOf zs⟩ ⟨pa, rg, ge, aI us, aQ vs⟩ n ⟨op, a, b, c, line⟩))
 | _ => False
noncomputable abbrev Og : Ct Cx := .pure 74 pW fun args K h => by
 unfold pW at h; split at h; exact ⟨_, aA (Tp _ _ _ _ _ _ _ _ _ _ _ _ _ _ h.1) en74 rfl rfl, h.2⟩; exact h.elim
@[go_sem] theorem aCl : type_of% @pW.eq_def := @pW.eq_def
theorem yM (f : FnT) (hk : Cok f) : FC Cx 75 [fnA f] [] (docR f) [] := by
 rcases Nat.eq_zero_or_pos f.code.length with h | h
 ·obtain ⟨pa, rg, ge, us, code⟩ := f
  have : code = [] := List.length_eq_zero_iff.1 h
  subst this
  exact aAu pa rg ge us
 ·exact aE4 f h hk
theorem Qf {f : FnT} (hk : Cok f) : (docW f).bad = (bK f).bad := by
 rcases Nat.eq_zero_or_pos f.code.length with h | h
 ·obtain ⟨pa, rg, ge, us, code⟩ := f
  have : code = [] := List.length_eq_zero_iff.1 h
  subst this
  rfl
 ·exact (Kc hk h).1
theorem Ye (pa rg : Int) (ge : Bool) (us vs : List (List RV)) (h : (us = (aI us).map intR ∧ vs = (aQ vs).map insR) ∧ Cok ⟨pa, rg, ge, aI us, aQ vs⟩) : FC Cx 75 [.agg [Iv pa, Iv rg, Bv ge, .r (.rs 1 us), .r (.rs 5 vs)]] [] (docR ⟨pa, rg, ge, aI us, aQ vs⟩) [] := by
 have := yM ⟨pa, rg, ge, aI us, aQ vs⟩ h.2
 rwa [Ec h.1] at this
def pP (args : List AV) (K : AV → Prop) : Prop := match args with
 | [.agg [.r (.v (.int .i64 pa)), .r (.v (.int .i64 rg)), .r (.v (.bool ge)), .r (.rs 1 us), .r (.rs 5 vs)]] => ((us = (aI us).map intR ∧ vs = (aQ vs).map insR) ∧ Cok ⟨pa, rg, ge, aI us, aQ vs⟩) ∧ K (docR ⟨pa, rg, ge, aI us, aQ vs⟩)
 | _ => False
theorem Ih (args : List AV) (K : AV → Prop) (h : pP args K) : ∃ r, aT Cx 75 args r ∧ K r := by
 unfold pP at h
 split at h
 ·exact ⟨_, aA (Ye _ _ _ _ _ h.1) en75 rfl (by unfold docR; cases (docW _).bad <;> rfl), h.2⟩
 ·exact h.elim
noncomputable def xY : Ct Cx := .pure 75 pP Ih
@[go_sem] theorem aJb : xY.g = 75 := rfl
@[go_sem] theorem aDg (c : Call) (fop : Operand) (caps : List AV) (o : Oper) (st : St) (K : List Loc → List (Loc × Cont) → Prop) : xY.run c fop caps o st K = vQ Cx pP c fop caps o st K := rfl
@[go_sem] theorem aF8 (args : List AV) (K : AV → Prop) : pP args K = (match args with
 | [.agg [.r (.v (.int .i64 pa)), .r (.v (.int .i64 rg)), .r (.v (.bool ge)), .r (.rs 1 us), .r (.rs 5 vs)]] => ((us = (aI us).map intR ∧ vs = (aQ vs).map insR) ∧ Cok ⟨pa, rg, ge, aI us, aQ vs⟩) ∧ K (docR ⟨pa, rg, ge, aI us, aQ vs⟩)
 | _ => False) := rfl
theorem rM {α : Type} {l : List α} {k : Nat} {x : α} (h : l[k]? = some x) (q : α → Bool) : (l.take (k + 1)).any q = ((l.take k).any q || q x) := by
 rw [List.take_add_one, h]; simp
theorem iH {α : Type} {l : List α} {k : Nat} {x : α} (h : l[k]? = some x) (q : α → Bool) : (l.take (k + 1)).all q = ((l.take k).all q && q x) := by
 rw [List.take_add_one, h]; simp
def tOne (l : List ByteArray) (j : Nat) : Bool := (decide (19 ≤ j) || decide (l.getD j ⟨#[]⟩ = cH.getD j ⟨#[]⟩)) && (l.take j).all fun u => !decide (l.getD j ⟨#[]⟩ = u)
def tOk (l : List ByteArray) (k : Nat) : Bool := (List.range k).all (tOne l)
theorem Lb (l : List ByteArray) (k : Nat) : tOk l (k + 1) = (tOk l k && tOne l k) := by
 unfold tOk; rw [List.range_succ]; simp
theorem mA : cH.length = 19 := rfl
theorem Rb (l : List ByteArray) (h19 : 19 ≤ l.length) : tOk l l.length = (decide (l.take 19 = cH) && decide l.Nodup) := by
 rw [Bool.eq_iff_iff]
 simp only [tOk, tOne, List.all_eq_true, List.mem_range, Bool.and_eq_true, Bool.or_eq_true, decide_eq_true_eq, Bool.not_eq_true', decide_eq_false_iff_not]
 constructor
 ·intro h
  refine ⟨?_, ?_⟩
  ·apply List.ext_getElem?
   intro j
   rw [List.getElem?_take]
   by_cases hj : j < 19
   ·rw [if_pos hj]
    have h1 := (h j (by omega)).1
    have h2 : l.getD j ⟨#[]⟩ = cH.getD j ⟨#[]⟩ := h1.resolve_left (by omega)
    have q1 : j < l.length := by omega
    have q2 : j < cH.length := by rw [mA]; exact hj
    simp only [List.getD, List.getElem?_eq_getElem q1, List.getElem?_eq_getElem q2, Option.getD_some] at h2
    rw [List.getElem?_eq_getElem q1, List.getElem?_eq_getElem q2, h2]
   ·rw [if_neg hj, List.getElem?_eq_none (by rw [mA]; omega)]
  ·have := qH l.length (Nat.le_refl _) fun j x hj hx hm => by
    refine (h j hj).2 x hm ?_
    simp [List.getD, hx]
   rwa [List.take_length] at this
 ·rintro ⟨hw, hn⟩ j hj
  have q1 : l[j]? = some l[j] := List.getElem?_eq_getElem hj
  have e1 : l.getD j ⟨#[]⟩ = l[j] := by simp [List.getD, q1]
  refine ⟨?_, fun u hu he => ?_⟩
  ·rcases Nat.lt_or_ge j 19 with h | h
   ·right
    rw [← hw]
    simp [List.getD, List.getElem?_take, h]
   ·exact .inl h
  ·rw [e1] at he
   exact xR q1 (by rw [he]; exact hu) hn
def uG (p : aH) : Bool := decide (19 ≤ p.texts.length) && decide (0 < p.fns.length) && tOk p.texts p.texts.length && (p.consts.all fun v => !badV p v) && dY p && p.fns.all (bP p)
theorem Qw {α : Type} (l : List α) (q : α → Bool) : l.any q = !(l.all fun x => !q x) := by
 induction l with
 | nil => rfl
 | cons x l ih => simp only [List.any_cons, List.all_cons, ih, Bool.not_and, Bool.not_not]
theorem Io (p : aH) : checkF p = if nG p = true then 2 else if uG p = true then 0 else 3 := by
 unfold checkF
 split
 ·rfl
 by_cases h19 : 19 ≤ p.texts.length
 case neg =>
  have h1 : dS p = false := by unfold dS; rw [decide_eq_false h19]; rfl
  have h2 : uG p = false := by unfold uG; rw [decide_eq_false h19]; rfl
  rw [if_pos h1, h2]; rfl
 have hT : dS p = (tOk p.texts p.texts.length && p.consts.all fun v => !badV p v) := by
  unfold dS
  rw [decide_eq_true h19, Rb p.texts h19, Qw p.consts, Bool.not_not, Bool.true_and]
 have hR : uG p = (decide (0 < p.fns.length) && dS p && dY p && p.fns.all (bP p)) := by
  unfold uG
  rw [hT, decide_eq_true h19, Bool.true_and]
  simp only [Bool.and_assoc]
 rw [hR]
 cases dS p with
 | false => simp
 | true =>
  rw [if_neg (by simp)]
  cases hf : p.fns with
  | nil => simp [dY, hf]
  | cons f0 rest =>
   cases h1 : dY p with
   | false => simp
   | true =>
    rw [Qw]
    simp only [List.length_cons, Nat.zero_lt_succ, decide_true, Bool.true_and, Bool.not_not]
    cases (f0 :: rest).all (bP p) <;> simp
theorem aBz (p : aH) (v : Int × Int) (b : Bool) : (b && gM v.1 v.2 && !decide (v.1 = 5) && (!decide (v.1 = 4) || decide (v.2 < (p.texts.length : Int)))) = (b && !badV p v) := by
 unfold badV
 have e : decide (v.2 < (p.texts.length : Int)) = !decide ((p.texts.length : Int) ≤ v.2) := by
  rw [Bool.eq_iff_iff]; simp
 rw [e]
 cases b <;> cases gM v.1 v.2 <;> cases decide (v.1 = 5) <;> cases decide (v.1 = 4) <;> simp
def sG (p : aH) (b : Bool) (k : Nat) : Bool := b && (decide (k = 0) || dY p) && (p.fns.take k).all (bP p)
theorem Oi {p : aH} {b : Bool} {k : Nat} {f : FnT} (h : p.fns[k]? = some f) : sG p b (k + 1) = (b && dY p && (p.fns.take k).all (bP p) && bP p f) := by
 unfold sG
 rw [iH h]
 simp [Bool.and_assoc]
theorem Kx {p : aH} {b : Bool} {k : Nat} (hk : k ≤ p.fns.length) (h : sG p b k = false) (hb : b = false ∨ 0 < p.fns.length) : (b && dY p && p.fns.all (bP p)) = false := by
 cases h1 : b with
 | false => rfl
 | true =>
  unfold sG at h
  rw [h1, Bool.true_and] at h
  cases h2 : dY p with
  | false => rfl
  | true =>
   rw [h2, Bool.or_true, Bool.true_and] at h
   simp only [Bool.true_and]
   rw [Bool.eq_false_iff]
   intro h3
   rw [Bool.eq_false_iff] at h
   exact h (List.all_eq_true.2 fun x hx => List.all_eq_true.1 h3 x (List.mem_of_mem_take hx))
theorem aJm {p : aH} {b : Bool} {f : FnT} {k : Nat} (h : p.fns[k]? = some f) (hf : bP p f = false) : (b && dY p && p.fns.all (bP p)) = false := by
 have : p.fns.all (bP p) = false := by
  rw [Bool.eq_false_iff]; intro h3
  have := List.all_eq_true.1 h3 f (List.mem_of_getElem? h)
  rw [hf] at this; cases this
 rw [this]; simp
theorem Jg {p : aH} {f : FnT} (hf : p.fns[0]? = some f) : dY p = (decide (f.params = 0) && decide ((f.caught.length : Int) = 0) && !f.gen) := by
 unfold dY
 cases hfs : p.fns with
 | nil => rw [hfs] at hf; cases hf
 | cons g r =>
  rw [hfs] at hf
  have : g = f := by simpa using hf
  subst this
  have : decide ((g.caught.length : Int) = 0) = !decide ((0 : Int) < (g.caught.length : Int)) := by rw [Bool.eq_iff_iff]; simp
  rw [this]
theorem Gt (p : aH) (hwf : Pwf p) : FC Cx 28 [bQ p] [] (Iv (checkF p)) [] := by
 have hsz := hwf.sz
 obtain ⟨s1, s2, s3⟩ := hwf.sz
 have l1 : (p.fns.map fnR).length = p.fns.length := List.length_map ..
 have l2 : (p.consts.map valR).length = p.consts.length := List.length_map ..
 have l3 : (p.texts.map strR).length = p.texts.length := List.length_map ..
 rw [Io]
 refine aD [xY, Og, mL, aV, yR] Tryz.func28 Tryz.ntmps28 Tryz.results28 ?_
 refine goR ?_
 refine fzB 1 ?_
 (any_goals refine go lv28 0 ?_)
 -- texts that are too long
 generalize hA0 : (decide ((60 : Int) < (p.fns.length : Int)) || decide ((200 : Int) < (p.consts.length : Int)) || decide ((200 : Int) < (p.texts.length : Int))) = A0
 refine cI [1, 3, 36, 37, 38] (fun k : Nat => k ≤ p.texts.length) (fun k => ⟨218, [(1, .r (.rp (dQ p))), (3, Bv (A0 || (p.texts.take k).any bigS)), (36, bZ p.texts), (37, Iv p.texts.length), (38, Iv k)], [(1, 2, .gone)]⟩) (fun k => p.texts.length - k) 0 (Nat.zero_le _) ?_ rfl (by simp [cE, memN, hA0])
 intro k hk
 by_cases hlt : k < p.texts.length
 case pos =>
  have c1 : decide ((k : Int) < (p.texts.length : Int)) = true := by rw [decide_eq_true_eq]; omega
  have t1 : Int.toNat (k : Int) = k := by omega
  have w1 : IntKind.i64.wrap ((k : Int) + 1) = ((k + 1 : Nat) : Int) := by rw [aL] <;> omega
  obtain ⟨s, hs⟩ : ∃ s, p.texts[k]? = some s := ⟨p.texts[k], List.getElem?_eq_getElem hlt⟩
  have hg := aE strR hs ([] : List RV)
  (any_goals refine go lv28 0 ?_)
  refine ⟨k + 1, by omega, by omega, ?_⟩
  rw [rM hs, ← Bool.or_assoc]
  exact aY [1, 3, 36, 37, 38]
 obtain rfl : k = p.texts.length := by omega
 have c1 : decide ((p.texts.length : Int) < (p.texts.length : Int)) = false := by rw [decide_eq_false_iff_not]; omega
 have c2 : (A0 || p.texts.any bigS || p.fns.any bigF) = nG p := by rw [← hA0]; rfl
 rw [List.take_length]
 clear hlt hk
 generalize hA1 : (A0 || p.texts.any bigS) = A1 at *
 (any_goals refine go lv28 0 ?_)
 clear c1
 -- functions that are too large
 refine cI [1, 3, 50, 51, 52] (fun x : Nat × Nat => x.1 ≤ p.fns.length) (fun x => let k := x.1; let u := x.2; ⟨218, [(1, .r (.rp (dQ p))), (3, Bv (A1 || (p.fns.take k).any bigF)), (50, fnsV p.fns), (51, Iv p.fns.length), (52, Iv k)], [(1, 2, .gone), (7, u, .gone), (14, u, .gone), (16, u, .gone), (18, u, .gone)]⟩) (fun x => p.fns.length - x.1) (0, 0) (Nat.zero_le _) ?_ rfl (by simp [cE, memN])
 rintro ⟨k, u⟩ hk
 dsimp only at hk
 dsimp only
 by_cases hlt : k < p.fns.length
 case pos =>
  have c1 : decide ((k : Int) < (p.fns.length : Int)) = true := by rw [decide_eq_true_eq]; omega
  have t1 : Int.toNat (k : Int) = k := by omega
  have w1 : IntKind.i64.wrap ((k : Int) + 1) = ((k + 1 : Nat) : Int) := by rw [aL] <;> omega
  obtain ⟨f, hf⟩ : ∃ s, p.fns[k]? = some s := ⟨p.fns[k], List.getElem?_eq_getElem hlt⟩
  have hg := aE fnR hf ([] : List RV)
  have l4 : (f.code.map insR).length = f.code.length := List.length_map ..
  (any_goals refine go lv28 0 ?_)
  refine ⟨(k + 1, u + 9), by dsimp only; omega, by dsimp only; omega, ?_⟩
  dsimp only
  rw [rM hf, ← Bool.or_assoc]
  unfold bigF
  rw [← Bool.or_assoc]
  exact aY [1, 3, 50, 51, 52]
 obtain rfl : k = p.fns.length := by omega
 have c1 : decide ((p.fns.length : Int) < (p.fns.length : Int)) = false := by rw [decide_eq_false_iff_not]; omega
 rw [List.take_length, c2]
 clear hlt hk c2 hA1
 cases hL : nG p with
 | true =>
  rw [if_pos rfl]
  (any_goals refine go lv28 0 ?_)
  all_goals (try simp only [go_sem])
 | false =>
 rw [if_neg (by simp)]
 have hp := vO hwf hL
 (any_goals refine go lv28 0 ?_)
 clear c1
 -- texts
 generalize hB0 : (decide ((19 : Int) ≤ (p.texts.length : Int)) && decide ((0 : Int) < (p.fns.length : Int))) = B0
 refine cI [1, 8, 81, 82, 83] (fun k : Nat => k ≤ p.texts.length) (fun k => ⟨218, [(1, .r (.rp (dQ p))), (8, Bv (B0 && tOk p.texts k)), (81, bZ p.texts), (82, Iv p.texts.length), (83, Iv k)], [(1, 2, .gone), (7, u, .gone), (14, u, .gone), (16, u, .gone), (18, u, .gone)]⟩) (fun k => p.texts.length - k) 0 (Nat.zero_le _) ?_ rfl (by simp [cE, memN, hB0, tOk])
 intro k hk
 by_cases hlt : k < p.texts.length
 case pos =>
  have c1 : decide ((k : Int) < (p.texts.length : Int)) = true := by rw [decide_eq_true_eq]; omega
  have t1 : Int.toNat (k : Int) = k := by omega
  have w1 : IntKind.i64.wrap ((k : Int) + 1) = ((k + 1 : Nat) : Int) := by rw [aL] <;> omega
  obtain ⟨s, hs⟩ : ∃ s, p.texts[k]? = some s := ⟨p.texts[k], List.getElem?_eq_getElem hlt⟩
  have hg := aE strR hs ([] : List RV)
  have hm : List.drop 0 (List.take k (p.texts.map strR)) = (p.texts.take k).map strR := by rw [List.map_take]; rfl
  have lm : ((p.texts.take k).map strR).length = k := by simp; omega
  have ek : p.texts.getD k ⟨#[]⟩ = s := by simp [List.getD, hs]
  (any_goals refine go (eM 18 lv28) 0 ?_)
  refine mJ (st' := ⟨218, [(1, .r (.rp (dQ p))), (8, Bv (B0 && tOk p.texts k && (decide (19 ≤ k) || decide (s = cH.getD k ⟨#[]⟩)))), (81, bZ p.texts), (82, Iv p.texts.length), (83, Iv k), (9, Iv k), (10, Sv s)], [(1, 2, .gone), (7, u, .gone), (14, u, .gone), (16, u, .gone), (18, u, .gone)]⟩) True rfl ?_ fun _ => ?_
  ·cases hq : (B0 && tOk p.texts k) with
   | false =>
    simp only [Bool.false_and]
    (any_goals refine go lv28 0 ?_)
    all_goals (try simp only [go_sem])
    exact Lx.le (aY [1, 8, 81, 82, 83, 9, 10])
   | true =>
    by_cases h19 : 19 ≤ k
    ·have e2 : decide ((19 : Int) ≤ (k : Int)) = true := by rw [decide_eq_true_eq]; omega
     rw [decide_eq_true h19]
     (any_goals refine go lv28 0 ?_)
     all_goals (try simp only [go_sem])
     exact Lx.le (aY [1, 8, 81, 82, 83, 9, 10])
    ·have e2 : decide ((19 : Int) ≤ (k : Int)) = false := by rw [decide_eq_false_iff_not]; omega
     rw [decide_eq_false h19]
     obtain ⟨x, hx⟩ : ∃ x, cH[k]? = some x := ⟨cH[k]'(by rw [mA]; omega), List.getElem?_eq_getElem _⟩
     have hgw := aE strR hx ([] : List RV)
     have ew : cH.getD k ⟨#[]⟩ = x := by simp [List.getD, hx]
     rw [ew]
     (any_goals refine go lv28 0 ?_)
     all_goals (try simp only [go_sem])
     exact Lx.le (aY [1, 8, 81, 82, 83, 9, 10])
  generalize hX : (B0 && tOk p.texts k && (decide (19 ≤ k) || decide (s = cH.getD k ⟨#[]⟩))) = X
  (any_goals refine go lv28 0 ?_)
  refine cI [1, 8, 81, 82, 83, 10, 104, 105, 106] (fun i : Nat => i ≤ k) (fun i => ⟨218, [(1, .r (.rp (dQ p))), (8, Bv (X && ((p.texts.take k).take i).all fun u => !decide (s = u))), (81, bZ p.texts), (82, Iv p.texts.length), (83, Iv k), (10, Sv s), (104, bZ (p.texts.take k)), (105, Iv k), (106, Iv i)], [(1, 2, .gone), (7, u, .gone), (14, u, .gone), (16, u, .gone), (18, u, .gone)]⟩) (fun i => k - i) 0 (Nat.zero_le _) ?_ rfl (by simp [cE, memN])
  intro i hi
  by_cases hik : i < k
  case pos =>
   have c2 : decide ((i : Int) < (k : Int)) = true := by rw [decide_eq_true_eq]; omega
   have t2 : Int.toNat (i : Int) = i := by omega
   have w2 : IntKind.i64.wrap ((i : Int) + 1) = ((i + 1 : Nat) : Int) := by rw [aL] <;> omega
   obtain ⟨y, hy⟩ : ∃ s, (p.texts.take k)[i]? = some s := ⟨(p.texts.take k)[i]'(by simp; omega), List.getElem?_eq_getElem _⟩
   have hgy := aE strR hy ([] : List RV)
   (any_goals refine go lv28 0 ?_)
   refine ⟨i + 1, by omega, by omega, ?_⟩
   rw [iH hy, ← Bool.and_assoc]
   exact aY [1, 8, 81, 82, 83, 10, 104, 105, 106]
  obtain rfl : i = k := by omega
  have c2 : decide ((i : Int) < (i : Int)) = false := by rw [decide_eq_false_iff_not]; omega
  have eX : (X && ((p.texts.take i).take i).all fun u => !decide (s = u)) = (B0 && tOk p.texts (i + 1)) := by
   rw [Lb, ← hX]
   unfold tOne
   rw [ek, List.take_of_length_le (l := p.texts.take i) (by simp; omega)]
   simp only [Bool.and_assoc]
  rw [eX]
  (any_goals refine go lv28 0 ?_)
  refine ⟨i + 1, by omega, by omega, ?_⟩
  exact aY [1, 8, 81, 82, 83]
 obtain rfl : k = p.texts.length := by omega
 have c1 : decide ((p.texts.length : Int) < (p.texts.length : Int)) = false := by rw [decide_eq_false_iff_not]; omega
 clear hlt hk
 generalize hC0 : (B0 && tOk p.texts p.texts.length) = C0
 (any_goals refine go lv28 0 ?_)
 clear c1
 -- constants
 refine cI [1, 8, 119, 120, 121] (fun x : Nat × Nat => x.1 ≤ p.consts.length) (fun x => let k := x.1; let u := x.2; ⟨218, [(1, .r (.rp (dQ p))), (8, Bv (C0 && (p.consts.take k).all fun v => !badV p v)), (119, aS p.consts), (120, Iv p.consts.length), (121, Iv k)], [(1, 2, .gone), (7, u, .gone), (14, u, .gone), (16, u, .gone), (18, u, .gone)]⟩) (fun x => p.consts.length - x.1) (0, u) (Nat.zero_le _) ?_ rfl (by simp [cE, memN])
 clear u
 rintro ⟨k, u⟩ hk
 dsimp only at hk
 dsimp only
 by_cases hlt : k < p.consts.length
 case pos =>
  have c1 : decide ((k : Int) < (p.consts.length : Int)) = true := by rw [decide_eq_true_eq]; omega
  have t1 : Int.toNat (k : Int) = k := by omega
  have w1 : IntKind.i64.wrap ((k : Int) + 1) = ((k + 1 : Nat) : Int) := by rw [aL] <;> omega
  obtain ⟨v, hf⟩ : ∃ s, p.consts[k]? = some s := ⟨p.consts[k], List.getElem?_eq_getElem hlt⟩
  have hg := aE valR hf ([] : List RV)
  (any_goals refine go lv28 0 ?_)
  refine ⟨(k + 1, u + 9), by dsimp only; omega, by dsimp only; omega, ?_⟩
  dsimp only
  rw [iH hf, aBz, Bool.and_assoc]
  exact aY [1, 8, 119, 120, 121]
 obtain rfl : k = p.consts.length := by omega
 have c1 : decide ((p.consts.length : Int) < (p.consts.length : Int)) = false := by rw [decide_eq_false_iff_not]; omega
 clear hlt hk
 have hR : uG p = (C0 && (p.consts.all fun v => !badV p v) && dY p && p.fns.all (bP p)) := by
  unfold uG
  have : (decide (19 ≤ p.texts.length) && decide (0 < p.fns.length)) = B0 := by rw [← hB0]; congr 1 <;> (rw [decide_eq_decide]; omega)
  rw [this, hC0]
 have hD0 : C0 = false ∨ 0 < p.fns.length := by
  rcases Nat.eq_zero_or_pos p.fns.length with h | h
  ·left; rw [← hC0, ← hB0, h]; simp
  ·exact .inr h
 rw [hR]
 rw [List.take_length]
 generalize hD : (C0 && (p.consts.all fun v => !badV p v)) = D at *
 replace hD0 : D = false ∨ 0 < p.fns.length := by
  rcases hD0 with h | h
  ·left; rw [← hD, h]; rfl
  ·exact .inr h
 clear hD hR
 (any_goals refine go lv28 0 ?_)
 clear c1
 -- functions
 refine cI [1, 8, 150, 151, 152] (fun x : Nat × Nat => x.1 ≤ p.fns.length) (fun x => let k := x.1; let u := x.2; ⟨218, [(1, .r (.rp (dQ p))), (8, Bv (sG p D k)), (150, fnsV p.fns), (151, Iv p.fns.length), (152, Iv k)], [(1, 2, .gone), (7, u, .gone), (14, u, .gone), (16, u, .gone), (18, u, .gone)]⟩) (fun x => p.fns.length - x.1) (0, u) (Nat.zero_le _) ?_ rfl (by simp [cE, memN, sG])
 clear u
 rintro ⟨k, u⟩ hk
 dsimp only at hk
 dsimp only
 by_cases hlt : k < p.fns.length
 case neg =>
  obtain rfl : k = p.fns.length := by omega
  have c1 : decide ((p.fns.length : Int) < (p.fns.length : Int)) = false := by rw [decide_eq_false_iff_not]; omega
  cases hq : sG p D p.fns.length with
  | false =>
   have hE := Kx hk hq hD0
   rw [hE]
   (any_goals refine go lv28 0 ?_)
   all_goals (try simp only [go_sem])
  | true =>
   have hE : (D && dY p && p.fns.all (bP p)) = true := by
    unfold sG at hq
    rw [List.take_length] at hq
    rcases hD0 with h | h
    ·rw [h] at hq; cases hq
    ·rw [decide_eq_false (by omega), Bool.false_or] at hq; exact hq
   rw [hE]
   (any_goals refine go lv28 0 ?_)
   all_goals (try simp only [go_sem])
 have c1 : decide ((k : Int) < (p.fns.length : Int)) = true := by rw [decide_eq_true_eq]; omega
 have t1 : Int.toNat (k : Int) = k := by omega
 have w1 : IntKind.i64.wrap ((k : Int) + 1) = ((k + 1 : Nat) : Int) := by rw [aL] <;> omega
 obtain ⟨f, hf⟩ : ∃ s, p.fns[k]? = some s := ⟨p.fns[k], List.getElem?_eq_getElem hlt⟩
 have hg := aE fnR hf ([] : List RV)
 have l4 : (f.code.map insR).length = f.code.length := List.length_map ..
 have l5 : (f.caught.map intR).length = f.caught.length := List.length_map ..
 cases hq : sG p D k with
 | false =>
  have hE := Kx hk hq hD0
  rw [hE]
  cases k0 : decide ((k : Int) = 0)
  all_goals
   (any_goals refine go lv28 0 ?_)
   all_goals (try simp only [go_sem])
   all_goals rfl
 | true =>
 obtain ⟨hD1, hF1, hT1⟩ : D = true ∧ (k = 0 ∨ dY p = true) ∧ (p.fns.take k).all (bP p) = true := by
  unfold sG at hq
  simpa [Bool.and_eq_true, and_assoc] using hq
 have hpf := hp.fn f (List.mem_of_getElem? hf)
 have hsk := Oi (p := p) (b := D) hf
 by_cases hH : 0 ≤ f.params ∧ f.params ≤ f.regs ∧ 0 < f.regs
 case neg =>
  have hE := aJm (b := D) hf (by unfold bP; rw [if_pos (by omega)])
  rw [hE]
  by_cases h1 : 0 ≤ f.params ∧ f.params ≤ f.regs
  ·have e1 : decide (0 ≤ f.params ∧ f.params ≤ f.regs) = true := by simpa using h1
   have e2 : decide (0 < f.regs) = false := by rw [decide_eq_false_iff_not]; omega
   cases k0 : decide ((k : Int) = 0)
   all_goals
    (any_goals refine go lv28 0 ?_)
    all_goals (try simp only [go_sem])
    all_goals rfl
  ·have e1 : decide (0 ≤ f.params ∧ f.params ≤ f.regs) = false := by rw [decide_eq_false_iff_not]; exact h1
   cases k0 : decide ((k : Int) = 0)
   all_goals
    (any_goals refine go lv28 0 ?_)
    all_goals (try simp only [go_sem])
    all_goals rfl
 have e1 : decide (0 ≤ f.params ∧ f.params ≤ f.regs) = true := by rw [decide_eq_true_eq]; exact ⟨hH.1, hH.2.1⟩
 have e2 : decide (0 < f.regs) = true := by rw [decide_eq_true_eq]; exact hH.2.2
 by_cases hF0 : dY p = true
 case neg =>
  have hF0' : dY p = false := by simpa using hF0
  have hk0 : k = 0 := hF1.resolve_right hF0
  have k0 : decide ((k : Int) = 0) = true := by rw [decide_eq_true_eq]; omega
  have hff := (Jg (f := f) (by rw [← hk0]; exact hf)).symm
  rw [hF0'] at hff ⊢
  simp only [Bool.and_false, Bool.false_and]
  clear hk0
  (any_goals refine go lv28 0 ?_)
  all_goals (try simp only [go_sem])
  all_goals rfl
 have hFok : Fok f := ⟨hpf.2.2, by have := hpf.1; omega, by omega, hpf.2.1⟩
 have hcau : Cau p := hp.cau
 have hFr : dY p = true := by simpa using hF0
 (any_goals refine go (eM 34 lv28) 0 ?_)
 refine goR1 lv28 0 ?_
 refine mJ (st' := ⟨218, [(1, .r (.rp (dQ p))), (8, Bv true), (150, fnsV p.fns), (151, Iv p.fns.length), (152, Iv k), (16, .os 16 (u + 1))], [(1, 2, .gone), (7, u, .gone), (14, u, .gone), (16, u + 1, .bx [Iv f.params, Iv f.regs, Bv f.gen, cX f.caught, nQ f.code]), (18, u, .gone)]⟩) True rfl ?_ fun _ => ?_
 ·by_cases hk0 : k = 0
  ·have k0 : decide ((k : Int) = 0) = true := by rw [decide_eq_true_eq]; omega
   have hff := (Jg (f := f) (by rw [← hk0]; exact hf)).symm
   rw [hFr] at hff
   clear hk0
   rw [k0]
   (any_goals refine go lv28 0 ?_)
   all_goals (try simp only [go_sem])
   exact Lx.le (aY [1, 8, 150, 151, 152, 16])
  ·have k0 : decide ((k : Int) = 0) = false := by rw [decide_eq_false_iff_not]; omega
   rw [k0]
   (any_goals refine go lv28 0 ?_)
   all_goals (try simp only [go_sem])
   exact Lx.le (aY [1, 8, 150, 151, 152, 16])
 (any_goals refine go lv28 0 ?_)
 refine cI [1, 8, 150, 151, 152, 16, 192, 193, 194] (fun x : Nat × Nat => x.1 ≤ f.code.length) (fun x => let i := x.1; let v := x.2; ⟨218, [(1, .r (.rp (dQ p))), (8, Bv ((List.range i).all fun j => fE p f j (f.code.getD j ins0))), (150, fnsV p.fns), (151, Iv p.fns.length), (152, Iv k), (16, .os 16 (u + 1)), (192, nQ f.code), (193, Iv f.code.length), (194, Iv i)], [(1, 2, .gone), (7, u, .gone), (14, u, .gone), (16, u + 1, .bx [Iv f.params, Iv f.regs, Bv f.gen, cX f.caught, nQ f.code]), (18, v, .gone)]⟩) (fun x => f.code.length - x.1) (0, u) (Nat.zero_le _) ?_
 rintro ⟨i, v⟩ hi
 dsimp only at hi
 dsimp only
 by_cases hil : i < f.code.length
 case pos =>
  have c2 : decide ((i : Int) < (f.code.length : Int)) = true := by rw [decide_eq_true_eq]; omega
  have t2 : Int.toNat (i : Int) = i := by omega
  have w2 : IntKind.i64.wrap ((i : Int) + 1) = ((i + 1 : Nat) : Int) := by rw [aL] <;> omega
  obtain ⟨x, hx⟩ : ∃ s, f.code[i]? = some s := ⟨f.code[i], List.getElem?_eq_getElem hil⟩
  have hgx := aE insR hx ([] : List RV)
  have hor : ((List.range (i + 1)).all fun j => fE p f j (f.code.getD j ins0)) = (((List.range i).all fun j => fE p f j (f.code.getD j ins0)) && fE p f i x) := by
   rw [List.range_succ, List.all_append]
   simp [List.getD, hx]
  (any_goals refine go lv28 0 ?_)
  refine ⟨(i + 1, v + 9), by dsimp only; omega, by dsimp only; omega, ?_⟩
  dsimp only
  rw [hor]
  exact aY [1, 8, 150, 151, 152, 16, 192, 193, 194]
 obtain rfl : i = f.code.length := by omega
 have c2 : decide ((f.code.length : Int) < (f.code.length : Int)) = false := by rw [decide_eq_false_iff_not]; omega
 have hnoX : bP p f = (kW p f && !(bK f).bad) := by
  unfold bP
  rw [if_neg (by omega)]
  cases kW p f <;> simp
 rw [show ((List.range f.code.length).all fun j => fE p f j (f.code.getD j ins0)) = kW p f from rfl]
 cases hO : kW p f with
 | false =>
  have hE := aJm (b := D) hf (by rw [hnoX, hO]; rfl)
  rw [hE]
  (any_goals refine go lv28 0 ?_)
  all_goals (try simp only [go_sem])
  all_goals rfl
 | true =>
  have hcok : Cok f := Ci hpf.1 hO
  have hsk' : sG p D (k + 1) = !(docW f).bad := by
   rw [hsk, hD1, hFr, hT1, hnoX, hO, Qf hcok]; simp
  cases hb : (docW f).bad with
  | true =>
   have hRR := Aa hb
   rw [hb] at hsk'
   (any_goals refine go lv28 0 ?_)
   refine ⟨(k + 1, max u v + 9), by dsimp only; omega, by dsimp only; omega, ?_⟩
   dsimp only
   rw [hsk']
   exact bE
  | false =>
   have hRR := Ii hb
   rw [hb] at hsk'
   (any_goals refine go lv28 0 ?_)
   refine ⟨(k + 1, max u v + 9), by dsimp only; omega, by dsimp only; omega, ?_⟩
   dsimp only
   rw [hsk']
   exact bE
def Wun (W : WT) : Prop := ∀ k, W.seen.getD k false = false → W.out.getD k [] = []
theorem oO {f : FnT} {n : Int} {l : List (Int × Int)} {W : WT} (hi : Wiv f W) (hn : 0 ≤ n) (h : Wun W) : Wun (aZ f n l W) := by
 intro k hk
 unfold aZ at hk ⊢
 split at hk
 ·rename_i h1; rw [if_pos h1]; exact h k hk
 ·rename_i h1
  rw [if_neg h1]
  split at hk
  ·rename_i h2
   rw [if_pos h2]
   by_cases e : n.toNat = k
   ·subst e
    have : n.toNat < W.seen.length := by rw [hi.seen]; omega
    rw [eW this] at hk; cases hk
   ·dsimp only at hk ⊢
    rw [fY e] at hk ⊢
    exact h k hk
  ·rename_i h2
   rw [if_neg h2]
   split at hk
   ·rename_i h3; rw [if_pos h3]; exact h k hk
   ·rename_i h3; rw [if_neg h3]; exact h k hk
theorem aG1 {f : FnT} {n : Int} {W : WT} (hi : Wiv f W) (hc : Cok f) (hn : 0 ≤ n) (h : Wun W) : Wun (bU f n W) := by
 have hx : f.code.getD n.toNat ins0 = ins0 ∨ f.code.getD n.toNat ins0 ∈ f.code := by
  cases hg : f.code[n.toNat]? with
  | none => left; simp [List.getD, hg]
  | some i => right; simp only [List.getD, hg, Option.getD_some]; exact List.mem_of_getElem? hg
 unfold bU
 generalize f.code.getD n.toNat ins0 = i at hx
 generalize W.out.getD n.toNat [] = l
 have hA : i.op = 13 ∨ i.op = 14 → 0 ≤ i.a := fun ho => hx.elim (fun h => by rw [h] at ho; rcases ho with ho | ho <;> cases ho) (fun h => hc.a i h ho)
 have hB : i.op = 15 ∨ i.op = 30 → 0 ≤ i.b := fun ho => hx.elim (fun h => by rw [h] at ho; rcases ho with ho | ho <;> cases ho) (fun h => hc.b i h ho)
 dsimp only
 split
 ·exact h
 ·split
  ·rename_i ho; exact oO hi (hA ho) h
  ·split
   ·rename_i ho; exact oO (cK hi (hB (.inl ho))).1 (by omega) (oO hi (hB (.inl ho)) h)
   ·split
    ·rename_i ho; exact oO (cK hi (hB (.inr ho))).1 (by omega) (oO hi (hB (.inr ho)) h)
    ·split
     ·split
      ·exact h
      ·exact oO hi (by omega) h
     ·exact oO hi (by omega) h
theorem aW9 (f : FnT) : Wun (W0 f) := fun k _ => by
 simp [W0, List.getD, List.getElem?_replicate]; split <;> rfl
theorem Zi {f : FnT} (hc : Cok f) : ∀ (j : Nat) (W : WT), Wiv f W → Wun W → Wun (runW f j W)
 | 0, W, _, h => h
 | j + 1, W, hi, h => by
  show Wun (if cL W = true then runW f j (dP f W) else W)
  split
  ·rename_i hg
   have h0 : 0 < W.todo.length := by simp [cL] at hg; exact hg.1
   obtain ⟨q1, q2, q3, q4⟩ := qO hi h0
   exact Zi hc j _ (jE hi hc hg).1 (aG1 q1 hc q3 h)
  ·exact h
theorem aG8 {f : FnT} (hc : Cok f) : Wun (bK f) := Zi hc _ _ (kM hc).1 (oO (jI f).1 (Int.le_refl 0) (aW9 f))
def kn2R (W : WT) : List (List RV) := List.zipWith (fun b l => [RV.v (.bool b), RV.rs 2 ((bif b then l else []).map tryR)]) W.seen W.out
theorem aSv (W : WT) : NilD (.rs 2 (knR W)) (.rs 2 (kn2R W)) := by
 refine .rs 2 _ _ (by simp [knR, kn2R]) (fun i row row' h1 h2 => ?_) fun i j row row' x y h1 h2 h3 h4 => ?_
 ·simp only [knR, kn2R, List.getElem?_zipWith] at h1 h2
  cases hs : W.seen[i]? <;> cases ho : W.out[i]? <;> simp [hs, ho] at h1 h2
  subst h1; subst h2; rfl
 ·simp only [knR, kn2R, List.getElem?_zipWith] at h1 h2
  cases hs : W.seen[i]? <;> cases ho : W.out[i]? <;> simp [hs, ho] at h1 h2
  rename_i b l
  subst h1; subst h2
  match j with
  | 0 => simp at h3 h4; subst h3; subst h4; exact .same _
  | 1 =>
   simp at h3 h4; subst h3; subst h4
   cases b with
   | true => exact .same _
   | false => exact .nil 2
  | j + 2 => simp at h3
theorem aBy (f : FnT) (hk : Cok f) (hb : (bK f).bad = false) : FC Cx 75 [fnA f] [] (.tup [.r (.rs 2 (kn2R (docW f))), Bv true]) [] := by
 have h := yM f hk
 rw [Ii (by rw [Qf hk]; exact hb)] at h
 refine aA6 h fun cur g w N v hv => ?_
 cases hv with
 | tup _ us hs hu =>
  refine .tup _ us hs fun j y u hy hju => ?_
  match j with
  | 0 =>
   simp at hy; subst hy
   have := hu 0 _ u rfl hju
   cases this with | r this => exact .r (RR.nilD (aSv _) this)
  | 1 => simp at hy; subst hy; exact hu 1 _ u rfl hju
  | j + 2 => simp at hy
theorem Yd {f : FnT} {W : WT} (hi : Wiv f W) {k : Nat} (hk : k < f.code.length) {l : List (Int × Int)} : To f W k l ↔ W.seen.getD k false = true ∧ W.out.getD k [] = l := by
 constructor
 ·rintro ⟨_, _, _, h4, h5⟩
  exact ⟨by simpa using h4, by simpa using h5⟩
 ·rintro ⟨h1, h2⟩
  have := qT hi h1
  rwa [h2] at this
theorem aBu {f : FnT} (hk : Cok f) (h0 : 0 < f.code.length) : Wiv f (docW f) := Pl hk _ _ (cK (n := 0) (l := []) (jI f).1 (Int.le_refl 0)).1
theorem aKg {f : FnT} (hk : Cok f) (hb : (bK f).bad = false) {k : Nat} (hlt : k < f.code.length) : (kn2R (docW f)).getD k [] = [.v (.bool ((bK f).seen.getD k false)), .rs 2 (((bK f).out.getD k []).map tryR)] := by
 have h0 : 0 < f.code.length := by omega
 have d := aBu hk h0
 have w := zI hk
 have hT := fun l => (Kc hk h0).2 hb k l
 have hT' := fun l => ((Yd d hlt (l := l)).symm.trans (hT l)).trans (Yd w hlt)
 have un := aG8 hk
 have h1 : k < (docW f).seen.length := by rw [d.seen]; exact hlt
 have h2 : k < (docW f).out.length := by rw [d.out]; exact hlt
 have e : (kn2R (docW f)).getD k [] = [RV.v (.bool ((docW f).seen.getD k false)), RV.rs 2 ((bif (docW f).seen.getD k false then (docW f).out.getD k [] else []).map tryR)] := by
  simp only [kn2R, List.getD, List.getElem?_zipWith, List.getElem?_eq_getElem h1, List.getElem?_eq_getElem h2, Option.getD_some]
 rw [e]
 cases hs : (bK f).seen.getD k false with
 | true =>
  obtain ⟨h3, h4⟩ := (hT' _).2 ⟨hs, rfl⟩
  rw [h3, h4]; rfl
 | false =>
  have h3 : (docW f).seen.getD k false = false := by
   cases h3 : (docW f).seen.getD k false with
   | false => rfl
   | true =>
    have := ((hT' _).1 ⟨h3, rfl⟩).1
    rw [hs] at this; cases this
  rw [h3, un k hs]; rfl
theorem aEe {f : FnT} (hk : Cok f) (h0 : 0 < f.code.length) : (kn2R (docW f)).length = f.code.length := by
 have d := aBu hk h0
 unfold kn2R; rw [List.length_zipWith, d.seen, d.out, Nat.min_self]
theorem Ub (pa rg : Int) (ge : Bool) (us vs : List (List RV)) (h : (us = (aI us).map intR ∧ vs = (aQ vs).map insR) ∧ Cok ⟨pa, rg, ge, aI us, aQ vs⟩ ∧ (bK ⟨pa, rg, ge, aI us, aQ vs⟩).bad = false) : FC Cx 75 [.agg [Iv pa, Iv rg, Bv ge, .r (.rs 1 us), .r (.rs 5 vs)]] [] (.tup [.r (.rs 2 (kn2R (docW ⟨pa, rg, ge, aI us, aQ vs⟩))), Bv true]) [] := by
 have := aBy ⟨pa, rg, ge, aI us, aQ vs⟩ h.2.1 h.2.2
 rwa [Ec h.1] at this
def qD (args : List AV) (K : AV → Prop) : Prop := match args with
 | [.agg [.r (.v (.int .i64 pa)), .r (.v (.int .i64 rg)), .r (.v (.bool ge)), .r (.rs 1 us), .r (.rs 5 vs)]] => ((us = (aI us).map intR ∧ vs = (aQ vs).map insR) ∧ Cok ⟨pa, rg, ge, aI us, aQ vs⟩ ∧ (bK ⟨pa, rg, ge, aI us, aQ vs⟩).bad = false) ∧ K (.tup [.r (.rs 2 (kn2R (docW ⟨pa, rg, ge, aI us, aQ vs⟩))), Bv true])
 | _ => False
noncomputable abbrev hJ : Ct Cx := .pure 75 qD fun args K h => by
 unfold qD at h; split at h; exact ⟨_, aA (Ub _ _ _ _ _ h.1) en75 rfl rfl, h.2⟩; exact h.elim
@[go_sem] theorem aCu : type_of% @qD.eq_def := @qD.eq_def
theorem aBg (xs ys zs : List (List RV)) (h : (xs = (fnsOf xs).map fnR ∧ ys = (valsOf ys).map valR ∧ zs = (strsOf zs).map strR) ∧ Pwf ⟨fnsOf xs, valsOf ys, strsOf zs⟩) : FC Cx 28 [.agg [.r (.rs 5 xs), .r (.rs 2 ys), .r (.rs 1 zs)]] [] (Iv (checkF ⟨fnsOf xs, valsOf ys, strsOf zs⟩)) [] := by
 have := Gt ⟨fnsOf xs, valsOf ys, strsOf zs⟩ h.2
 rwa [jQ h.1] at this
def sW (args : List AV) (K : AV → Prop) : Prop := match args with
 | [.agg [.r (.rs 5 xs), .r (.rs 2 ys), .r (.rs 1 zs)]] => ((xs = (fnsOf xs).map fnR ∧ ys = (valsOf ys).map valR ∧ zs = (strsOf zs).map strR) ∧ Pwf ⟨fnsOf xs, valsOf ys, strsOf zs⟩) ∧ K (Iv (checkF ⟨fnsOf xs, valsOf ys, strsOf zs⟩))
 | _ => False
noncomputable abbrev xU : Ct Cx := .pure 28 sW fun args K h => by
 unfold sW at h; split at h; exact ⟨_, aA (aBg _ _ _ h.1) en28 rfl rfl, h.2⟩; exact h.elim
@[go_sem] theorem aF1 : type_of% @sW.eq_def := @sW.eq_def
end Go.Proofs.YtbhnmolmkembdaaGreatDoor
