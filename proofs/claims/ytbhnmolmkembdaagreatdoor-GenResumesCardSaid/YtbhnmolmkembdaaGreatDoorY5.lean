/- Names of shapes, their slots; shapes copied. No condition: contracts. -/
import Derived.Test.YtbhnmolmkembdaaGreatDoorY4
namespace Go.Proofs.YtbhnmolmkembdaaGreatDoor.Sh
set_option linter.unusedVariables false
set_option linter.unusedSimpArgs false
set_option maxHeartbeats 10000000
open Go
set_option maxRecDepth 10000
theorem good_ups {l : List (Int × Int)} (h : checkF l = 0) (s : Int) : Ups l s ∧ l.length ≤ 100 ∧ l[0]? = some (-1, -1) ∧ good l := by
 unfold checkF at h
 split at h
 ·simp at h
 ·split at h
  ·rename_i h1 h2
   refine ⟨fun k p hp h0 _ => ?_, by omega, h2.1, h2.2⟩
   obtain ⟨j, rfl⟩ : ∃ j, k = j + 1 := ⟨k - 1, by omega⟩
   have := (h2.2 j p hp).2.1
   omega
  ·simp at h
theorem aAk (xs : List (List RV)) (s : Int) (h : xs = (shapesOf xs).map cB ∧ xs.length ≤ 1000 ∧ Ups (shapesOf xs) s ∧ s < xs.length) : FC Cx 164 [.r (.rs 2 xs), Iv s] [] (.os 0 1) [(0, 1, .sl 3 1 ((namesL (shapesOf xs) s).map intA))] := by
 have hl : (shapesOf xs).length = xs.length := by simp [shapesOf]
 have := Ke (shapesOf xs) s (by omega) h.2.2.1 (by omega)
 rwa [mU h.1] at this
theorem Mo (xs : List (List RV)) (s : Int) : ∀ row ∈ (namesL (shapesOf xs) s).map intA, aX bR row = true := rJ _
def mW (st : St) (d : Nat) (args : List AV) (K : AV → List Loc → List (Loc × Cont) → Prop) : Prop := match args with
 | [.r (.rs 2 xs), .r (.v (.int .i64 s))] => (xs = (shapesOf xs).map cB ∧ xs.length ≤ 1000 ∧ Ups (shapesOf xs) s ∧ s < xs.length) ∧ K (ren (fun _ => d) (fun _ => st.cur d) (.os 0 1)) [.R d] [(.R d, .s (1 + st.cur d) (.sl 3 1 ((namesL (shapesOf xs) s).map intA)))]
 | _ => False
theorem Gt (st : St) (d : Nat) (args : List AV) (K : AV → List Loc → List (Loc × Cont) → Prop) (h : mW st d args K) : ∃ r ls outs, dI Cx 164 st args r ls outs ∧ K r ls outs := by
 unfold mW at h
 split at h
 ·exact ⟨_, _, _, dI.own (aAk _ _ h.1) rfl (Mo _ _) rfl d, h.2⟩
 ·exact h.elim
noncomputable def mT : Ct Cx := .res 164 mW aIh Gt
@[go_sem] theorem aIb : mT.g = 164 := rfl
@[go_sem] theorem aDc (c : Call) (fop : Operand) (caps : List AV) (o : Oper) (st : St) (K : List Loc → List (Loc × Cont) → Prop) : mT.run c fop caps o st K = kO mW c fop caps o st K := rfl
@[go_sem] theorem aGd : type_of% @mW.eq_def := @mW.eq_def
noncomputable def namesF (l : List (Int × Int)) (s : Int) : List Int := if checkF l = 0 ∧ 0 ≤ s ∧ s < l.length then namesL l s else []
theorem aBy (l : List (Int × Int)) (s : Int) (hw : Wf l) (hc : checkF l = 0) (d1 : decide (s < 0) = false) (d2 : decide ((l.length : Int) ≤ s) = false) (hU : Ups l s) (hl : l.length ≤ 100) (hlen : (l.map cB).length = l.length) (hs : 0 ≤ s ∧ s < l.length) :
  FC Cx 167 [dA l, Iv s] [] (.os 0 1) [(0, 1, .sl 3 1 ((namesL l s).map intA))] := by
 refine iH [ct_check', mT] (i := 0) [.os 0 1] Tryz.func167 rfl Tryz.ntmps167 (by simp) Tryz.results167 (rJ _) ?_
 refine rnst ?_
 (any_goals refine go Rg 0 ?_)
 all_goals (try simp only [go_sem])
theorem Ur (l : List (Int × Int)) (s : Int) (hw : Wf l) (hc : checkF l = 0) (hlen : (l.map cB).length = l.length) (d1 : decide (s < 0) = true) :
  FC Cx 167 [dA l, Iv s] [] (.os 0 1) [(0, 1, .sl 3 1 (([] : List Int).map intA))] := by
 refine iH [ct_check', mT] (i := 0) [.os 0 1] Tryz.func167 rfl Tryz.ntmps167 (by simp) Tryz.results167 (rJ _) ?_
 refine rnst ?_
 (any_goals refine go Rg 0 ?_)
 all_goals (try simp only [go_sem])
theorem Vm (l : List (Int × Int)) (s : Int) (hw : Wf l) (hc : checkF l = 0) (hlen : (l.map cB).length = l.length) (d1 : decide (s < 0) = false) (d2 : decide ((l.length : Int) ≤ s) = true) :
  FC Cx 167 [dA l, Iv s] [] (.os 0 1) [(0, 1, .sl 3 1 (([] : List Int).map intA))] := by
 refine iH [ct_check', mT] (i := 0) [.os 0 1] Tryz.func167 rfl Tryz.ntmps167 (by simp) Tryz.results167 (rJ _) ?_
 refine rnst ?_
 (any_goals refine go Rg 0 ?_)
 all_goals (try simp only [go_sem])
theorem aA4 (l : List (Int × Int)) (s : Int) (hw : Wf l) (hc : checkF l = 0) (hs : ¬ (0 ≤ s ∧ s < l.length)) :
  FC Cx 167 [dA l, Iv s] [] (.os 0 1) [(0, 1, .sl 3 1 ((namesF l s).map intA))] := by
 have hlen : (l.map cB).length = l.length := List.length_map ..
 have hF : namesF l s = [] := by rw [namesF, if_neg fun h => hs h.2]
 rw [hF]
 by_cases h0 : s < 0
 ·exact Ur l s hw hc hlen (by rw [decide_eq_true_eq]; exact h0)
 ·exact Vm l s hw hc hlen (by rw [decide_eq_false_iff_not]; exact h0) (by rw [decide_eq_true_eq]; omega)
theorem Xi (l : List (Int × Int)) (s : Int) (hw : Wf l) (hc : ¬ checkF l = 0) :
  FC Cx 167 [dA l, Iv s] [] (.os 0 1) [(0, 1, .sl 3 1 ((namesF l s).map intA))] := by
 have hF : namesF l s = [] := by rw [namesF, if_neg fun h => hc h.1]
 have d0 : decide (checkF l = 0) = false := by rw [decide_eq_false_iff_not]; exact hc
 rw [hF]
 refine iH [ct_check', mT] (i := 0) [.os 0 1] Tryz.func167 rfl Tryz.ntmps167 (by simp) Tryz.results167 (rJ _) ?_
 refine rnst ?_
 (any_goals refine go Rg 0 ?_)
 all_goals (try simp only [go_sem])
theorem aCi (l : List (Int × Int)) (s : Int) (hw : Wf l) : FC Cx 167 [dA l, Iv s] [] (.os 0 1) [(0, 1, .sl 3 1 ((namesF l s).map intA))] := by
 have hlen : (l.map cB).length = l.length := List.length_map ..
 by_cases hc : checkF l = 0
 ·by_cases hs : 0 ≤ s ∧ s < l.length
  ·have d1 : decide (s < 0) = false := by rw [decide_eq_false_iff_not]; omega
   have d2 : decide ((l.length : Int) ≤ s) = false := by rw [decide_eq_false_iff_not]; omega
   have hU := (good_ups hc s).1
   have hl := (good_ups hc s).2.1
   have hF : namesF l s = namesL l s := by rw [namesF, if_pos ⟨hc, hs⟩]
   rw [hF]
   exact aBy l s hw hc d1 d2 hU hl hlen hs
  ·exact aA4 l s hw hc hs
 ·exact Xi l s hw hc
end Go.Proofs.YtbhnmolmkembdaaGreatDoor.Sh
namespace Go.Proofs.YtbhnmolmkembdaaGreatDoor.Sh
set_option linter.unusedVariables false
set_option linter.unusedSimpArgs false
set_option maxHeartbeats 10000000
open Go
set_option maxRecDepth 10000
theorem Xd (xs : List (List RV)) (s : Int) (h : xs = (shapesOf xs).map cB ∧ Wf (shapesOf xs)) : FC Cx 167 [.r (.rs 2 xs), Iv s] [] (.os 0 1) [(0, 1, .sl 3 1 ((namesF (shapesOf xs) s).map intA))] := by
 have := aCi (shapesOf xs) s h.2
 rwa [mU h.1] at this
theorem aE9 (xs : List (List RV)) (s : Int) (h : xs = (shapesOf xs).map cB ∧ Wf (shapesOf xs)) : FC Cx 167 [.r (.rs 2 xs), Iv s] [] (dF (namesF (shapesOf xs) s)) [] := (Xd xs s h).freeze1 (roI _).symm
def vD (args : List AV) (K : AV → Prop) : Prop := match args with
 | [.r (.rs 2 xs), .r (.v (.int .i64 s))] => (xs = (shapesOf xs).map cB ∧ Wf (shapesOf xs)) ∧ K (dF (namesF (shapesOf xs) s))
 | _ => False
noncomputable abbrev ct_Names : Ct Cx := .pure 167 vD fun args K h => by
 unfold vD at h; split at h; exact ⟨_, aA (aE9 _ _ h.1) aSe rfl rfl, h.2⟩; exact h.elim
@[go_sem] theorem aH1 : type_of% @vD.eq_def := @vD.eq_def
end Go.Proofs.YtbhnmolmkembdaaGreatDoor.Sh
namespace Go.Proofs.YtbhnmolmkembdaaGreatDoor
set_option linter.unusedVariables false
set_option linter.unusedSimpArgs false
set_option maxHeartbeats 10000000
open Go
set_option maxRecDepth 10000
structure aR where
 fn : Int
 pc : Int
 tov : Int
 gen : Int
 self : Int × Int
 regs : List (Int × Int)
 tries : List (Int × Int)
 deriving DecidableEq
structure bJ where
 kind : Int
 num : Int
 vals : List (Int × Int)
 frames : List aR
 deriving DecidableEq
structure aP where
 frames : List aR
 state : Int
 on : Int
 val : Int × Int
 deriving DecidableEq
structure EndT where
 cell : Int
 fn : Int × Int
 deriving DecidableEq
structure aC where
 cells : List bJ
 shapes : List (Int × Int)
 texts : List ByteArray
 threads : List aP
 ends : List EndT
 said : List (Int × Int)
 asked : Int
 steps : Int
 deriving DecidableEq
abbrev bA (f : aR) : List RV := [.v (.int .i64 f.fn), .v (.int .i64 f.pc), .v (.int .i64 f.tov), .v (.int .i64 f.gen), .v (.int .i64 f.self.1), .v (.int .i64 f.self.2), .rs 2 (f.regs.map valR), .rs 2 (f.tries.map tryR)]
abbrev bO (l : List aR) : AV := .r (.rs 8 (l.map bA))
abbrev aW (c : bJ) : List RV := [.v (.int .i64 c.kind), .v (.int .i64 c.num), .rs 2 (c.vals.map valR), .rs 8 (c.frames.map bA)]
abbrev dO (l : List bJ) : AV := .r (.rs 4 (l.map aW))
abbrev aJ (t : aP) : List RV := [.rs 8 (t.frames.map bA), .v (.int .i64 t.state), .v (.int .i64 t.on), .v (.int .i64 t.val.1), .v (.int .i64 t.val.2)]
abbrev cI (l : List aP) : AV := .r (.rs 5 (l.map aJ))
abbrev endR (e : EndT) : List RV := [.v (.int .i64 e.cell), .v (.int .i64 e.fn.1), .v (.int .i64 e.fn.2)]
abbrev eY (l : List EndT) : AV := .r (.rs 3 (l.map endR))
abbrev cN (s : aC) : List RV := [.rs 4 (s.cells.map aW), .rs 2 (s.shapes.map valR), .rs 1 (s.texts.map strR), .rs 5 (s.threads.map aJ), .rs 3 (s.ends.map endR), .rs 2 (s.said.map valR), .v (.int .i64 s.asked), .v (.int .i64 s.steps)]
abbrev aH (s : aC) : AV := .agg [dO s.cells, aT s.shapes, bZ s.texts, cI s.threads, eY s.ends, aT s.said, Iv s.asked, Iv s.steps]
abbrev bT (s : aC) : AV := .r (.rp (cN s))
abbrev fD (f : aR) : AV := .agg [Iv f.fn, Iv f.pc, Iv f.tov, Iv f.gen, Iv f.self.1, Iv f.self.2, aT f.regs, cM f.tries]
abbrev gL (c : bJ) : AV := .agg [Iv c.kind, Iv c.num, aT c.vals, bO c.frames]
abbrev dU (t : aP) : AV := .agg [bO t.frames, Iv t.state, Iv t.on, Iv t.val.1, Iv t.val.2]
abbrev endA (e : EndT) : AV := .agg [Iv e.cell, Iv e.fn.1, Iv e.fn.2]
def aEu : List RV → aR
 | [.v (.int _ a), .v (.int _ b), .v (.int _ c), .v (.int _ d), .v (.int _ k), .v (.int _ n), .rs _ rs, .rs _ ts] => ⟨a, b, c, d, (k, n), valsOf rs, triesOf ts⟩
 | _ => ⟨0, 0, 0, 0, (0, 0), [], []⟩
def framesOf (xs : List (List RV)) : List aR := xs.map aEu
def aJz : List RV → bJ
 | [.v (.int _ a), .v (.int _ b), .rs _ vs, .rs _ fs] => ⟨a, b, valsOf vs, framesOf fs⟩
 | _ => ⟨0, 0, [], []⟩
def cellsOf (xs : List (List RV)) : List bJ := xs.map aJz
def aB9 : List RV → aP
 | [.rs _ fs, .v (.int _ a), .v (.int _ b), .v (.int _ k), .v (.int _ n)] => ⟨framesOf fs, a, b, (k, n)⟩
 | _ => ⟨[], 0, 0, (0, 0)⟩
def threadsOf (xs : List (List RV)) : List aP := xs.map aB9
def aSl : List RV → EndT
 | [.v (.int _ a), .v (.int _ k), .v (.int _ n)] => ⟨a, (k, n)⟩
 | _ => ⟨0, (0, 0)⟩
def aG (xs : List (List RV)) : List EndT := xs.map aSl
@[go_sem] theorem mG (l : List aR) : framesOf (l.map bA) = l := by
 unfold framesOf; rw [List.map_map]; conv => rhs; rw [← List.map_id l]
 refine List.map_congr_left fun x _ => ?_
 show (⟨x.fn, x.pc, x.tov, x.gen, (x.self.1, x.self.2), valsOf (x.regs.map valR), triesOf (x.tries.map tryR)⟩ : aR) = x
 rw [qW, sB]
@[go_sem] theorem aH3 (l : List bJ) : cellsOf (l.map aW) = l := by
 unfold cellsOf; rw [List.map_map]; conv => rhs; rw [← List.map_id l]
 refine List.map_congr_left fun x _ => ?_
 show (⟨x.kind, x.num, valsOf (x.vals.map valR), framesOf (x.frames.map bA)⟩ : bJ) = x
 rw [qW, mG]
@[go_sem] theorem aDu (l : List aP) : threadsOf (l.map aJ) = l := by
 unfold threadsOf; rw [List.map_map]; conv => rhs; rw [← List.map_id l]
 refine List.map_congr_left fun x _ => ?_
 show (⟨framesOf (x.frames.map bA), x.state, x.on, (x.val.1, x.val.2)⟩ : aP) = x
 rw [mG]
@[go_sem] theorem aKe (l : List EndT) : aG (l.map endR) = l := by
 unfold aG; rw [List.map_map]; conv => rhs; rw [← List.map_id l]
 exact List.map_congr_left fun x _ => rfl
theorem yM {xs : List (List RV)} (h : xs = (framesOf xs).map bA) : bO (framesOf xs) = .r (.rs 8 xs) := congrArg (fun z => AV.r (RV.rs 8 z)) h.symm
@[go_sem] theorem aO0 (f : aR) : aR.mk f.fn f.pc f.tov f.gen f.self f.regs f.tries = f := rfl
@[go_sem] theorem aVr (c : bJ) : bJ.mk c.kind c.num c.vals c.frames = c := rfl
@[go_sem] theorem aJ4 (t : aP) : aP.mk t.frames t.state t.on t.val = t := rfl
@[go_sem] theorem aYf (e : EndT) : EndT.mk e.cell e.fn = e := rfl
@[go_sem] theorem aP9 (s : aC) : aC.mk s.cells s.shapes s.texts s.threads s.ends s.said s.asked s.steps = s := rfl
def cZ : bJ := ⟨0, 0, [], []⟩
def Ny : aR := ⟨0, 0, 0, 0, (0, 0), [], []⟩
def wQ : aP := ⟨[], 0, 0, (0, 0)⟩
def fitsF (s : aC) (v : Int × Int) : Bool :=
 fV v.1 v.2 && (if v.1 = 4 then decide (v.2 < (s.texts.length : Int)) else if v.1 = 5 then decide (v.2 < (s.cells.length : Int)) && !decide ((s.cells.getD v.2.toNat cZ).kind = 0) else true)
def isF' (s : aC) (v : Int × Int) (k : Int) : Bool := fitsF s v && decide (v.1 = 5) && decide ((s.cells.getD v.2.toNat cZ).kind = k)
structure Slen (s : aC) : Prop where
 cells : s.cells.length ≤ 9223372036854775807
 shapes : s.shapes.length ≤ 9223372036854775807
 texts : s.texts.length ≤ 9223372036854775807
 threads : s.threads.length ≤ 9223372036854775807
 ends : s.ends.length ≤ 9223372036854775807
 said : s.said.length ≤ 9223372036854775807
theorem vM {k n : Int} (h : fV k n = true) (hk : k = 4 ∨ k = 5) : 0 ≤ n := by
 unfold fV at h
 rcases hk with rfl | rfl
 ·simpa using h
 ·simpa using h
theorem mE {s : aC} {n : Int} {c : bJ} (h : s.cells[n.toNat]? = some c) : s.cells.getD n.toNat cZ = c := by simp [List.getD, h]
theorem aMo (s : aC) (k n : Int) : FC Cx 117 [bT s, VV k n] [] (Bv (fitsF s (k, n))) [] := by
 have l1 : (s.cells.map aW).length = s.cells.length := List.length_map ..
 have l2 : (s.texts.map strR).length = s.texts.length := List.length_map ..
 unfold fitsF
 dsimp only
 cases hr : fV k n with
 | false =>
  rw [Bool.false_and]
  refine aD [pT] Tryz.func117 Tryz.ntmps117 Tryz.results117 ?_
  refine goR ?_
  refine fzB 3 ?_
  (any_goals refine go Kj 0 ?_)
  all_goals (try simp only [go_sem])
 | true =>
 rw [Bool.true_and]
 by_cases k4 : k = 4
 ·subst k4
  rw [if_pos rfl]
  refine aD [pT] Tryz.func117 Tryz.ntmps117 Tryz.results117 ?_
  refine goR ?_
  refine fzB 3 ?_
  (any_goals refine go Kj 0 ?_)
  all_goals (try simp only [go_sem])
 rw [if_neg k4]
 have d4 : decide (k = 4) = false := by simpa using k4
 by_cases k5 : k = 5
 ·subst k5
  rw [if_pos rfl]
  have h0 := vM hr (.inr rfl)
  by_cases hn : n < (s.cells.length : Int)
  ·have d1 : decide (n < (s.cells.length : Int)) = true := by simpa using hn
   obtain ⟨c, hc⟩ : ∃ c, s.cells[n.toNat]? = some c := ⟨s.cells[n.toNat]'(by omega), List.getElem?_eq_getElem _⟩
   have hg := aE aW hc ([] : List RV)
   rw [mE hc, d1, Bool.true_and]
   refine aD [pT] Tryz.func117 Tryz.ntmps117 Tryz.results117 ?_
   refine goR ?_
   refine fzB 3 ?_
   (any_goals refine go Kj 0 ?_)
   all_goals (try simp only [go_sem])
  ·have d1 : decide (n < (s.cells.length : Int)) = false := by simpa using hn
   rw [d1, Bool.false_and]
   refine aD [pT] Tryz.func117 Tryz.ntmps117 Tryz.results117 ?_
   refine goR ?_
   refine fzB 3 ?_
   (any_goals refine go Kj 0 ?_)
   all_goals (try simp only [go_sem])
 rw [if_neg k5]
 have d5 : decide (k = 5) = false := by simpa using k5
 refine aD [pT] Tryz.func117 Tryz.ntmps117 Tryz.results117 ?_
 refine goR ?_
 refine fzB 3 ?_
 (any_goals refine go Kj 0 ?_)
 all_goals (try simp only [go_sem])
theorem yB (ca sh tx th en sd : List (List RV)) (aq sq : Int) (h : ca = (cellsOf ca).map aW ∧ sh = (valsOf sh).map valR ∧ tx = (strsOf tx).map strR ∧ th = (threadsOf th).map aJ ∧ en = (aG en).map endR ∧ sd = (valsOf sd).map valR) : cN ⟨cellsOf ca, valsOf sh, strsOf tx, threadsOf th, aG en, valsOf sd, aq, sq⟩ = [.rs 4 ca, .rs 2 sh, .rs 1 tx, .rs 5 th, .rs 3 en, .rs 2 sd, .v (.int .i64 aq), .v (.int .i64 sq)] := by
 obtain ⟨h1, h2, h3, h4, h5, h6⟩ := h
 show [RV.rs 4 ((cellsOf ca).map aW), .rs 2 ((valsOf sh).map valR), .rs 1 ((strsOf tx).map strR), .rs 5 ((threadsOf th).map aJ), .rs 3 ((aG en).map endR), .rs 2 ((valsOf sd).map valR), _, _] = _
 rw [← h1, ← h2, ← h3, ← h4, ← h5, ← h6]
theorem mZ (ca sh tx th en sd : List (List RV)) (aq sq : Int) (h : ca = (cellsOf ca).map aW ∧ sh = (valsOf sh).map valR ∧ tx = (strsOf tx).map strR ∧ th = (threadsOf th).map aJ ∧ en = (aG en).map endR ∧ sd = (valsOf sd).map valR) : bT ⟨cellsOf ca, valsOf sh, strsOf tx, threadsOf th, aG en, valsOf sd, aq, sq⟩ = .r (.rp [.rs 4 ca, .rs 2 sh, .rs 1 tx, .rs 5 th, .rs 3 en, .rs 2 sd, .v (.int .i64 aq), .v (.int .i64 sq)]) := congrArg (fun z => AV.r (RV.rp z)) (yB _ _ _ _ _ _ _ _ h)
theorem iJ (ca sh tx th en sd : List (List RV)) (aq sq : Int) (h : ca = (cellsOf ca).map aW ∧ sh = (valsOf sh).map valR ∧ tx = (strsOf tx).map strR ∧ th = (threadsOf th).map aJ ∧ en = (aG en).map endR ∧ sd = (valsOf sd).map valR) : aH ⟨cellsOf ca, valsOf sh, strsOf tx, threadsOf th, aG en, valsOf sd, aq, sq⟩ = .agg [.r (.rs 4 ca), .r (.rs 2 sh), .r (.rs 1 tx), .r (.rs 5 th), .r (.rs 3 en), .r (.rs 2 sd), Iv aq, Iv sq] := congrArg (fun z => AV.agg (z.map AV.r)) (yB _ _ _ _ _ _ aq sq h)
theorem aFy (ca sh tx th en sd : List (List RV)) (aq sq : Int) (k n : Int) (h : ca = (cellsOf ca).map aW ∧ sh = (valsOf sh).map valR ∧ tx = (strsOf tx).map strR ∧ th = (threadsOf th).map aJ ∧ en = (aG en).map endR ∧ sd = (valsOf sd).map valR) : FC Cx 117 [.r (.rp [.rs 4 ca, .rs 2 sh, .rs 1 tx, .rs 5 th, .rs 3 en, .rs 2 sd, .v (.int .i64 aq), .v (.int .i64 sq)]), VV k n] [] (Bv (fitsF ⟨cellsOf ca, valsOf sh, strsOf tx, threadsOf th, aG en, valsOf sd, aq, sq⟩ (k, n))) [] := by
 have := aMo ⟨cellsOf ca, valsOf sh, strsOf tx, threadsOf th, aG en, valsOf sd, aq, sq⟩ k n
 rwa [mZ _ _ _ _ _ _ _ _ h] at this
def vH (args : List AV) (K : AV → Prop) : Prop := match args with
 | [.r (.rp [.rs 4 ca, .rs 2 sh, .rs 1 tx, .rs 5 th, .rs 3 en, .rs 2 sd, .v (.int .i64 aq), .v (.int .i64 sq)]), .agg [.r (.v (.int .i64 k)), .r (.v (.int .i64 n))]] => (ca = (cellsOf ca).map aW ∧ sh = (valsOf sh).map valR ∧ tx = (strsOf tx).map strR ∧ th = (threadsOf th).map aJ ∧ en = (aG en).map endR ∧ sd = (valsOf sd).map valR) ∧ K (Bv (fitsF ⟨cellsOf ca, valsOf sh, strsOf tx, threadsOf th, aG en, valsOf sd, aq, sq⟩ (k, n)))
 | _ => False
noncomputable abbrev nJ : Ct Cx := .pure 117 vH fun args K h => by
 unfold vH at h; split at h; exact ⟨_, aA (aFy _ _ _ _ _ _ _ _ _ _ h.1) aV3 rfl rfl, h.2⟩; exact h.elim
@[go_sem] theorem aIv : type_of% @vH.eq_def := @vH.eq_def
theorem aLm (s : aC) (k n : Int) : FC Cx 83 [bT s, VV k n] [] (Bv (fitsF s (k, n))) [] := by
 refine aD [nJ] Tryz.func83 Tryz.ntmps83 Tryz.results83 ?_
 refine goR ?_
 refine fzB 3 ?_
 (any_goals refine go lv83 0 ?_)
 all_goals (try simp only [go_sem])
theorem aGh (ca sh tx th en sd : List (List RV)) (aq sq : Int) (k n : Int) (h : ca = (cellsOf ca).map aW ∧ sh = (valsOf sh).map valR ∧ tx = (strsOf tx).map strR ∧ th = (threadsOf th).map aJ ∧ en = (aG en).map endR ∧ sd = (valsOf sd).map valR) : FC Cx 83 [.r (.rp [.rs 4 ca, .rs 2 sh, .rs 1 tx, .rs 5 th, .rs 3 en, .rs 2 sd, .v (.int .i64 aq), .v (.int .i64 sq)]), VV k n] [] (Bv (fitsF ⟨cellsOf ca, valsOf sh, strsOf tx, threadsOf th, aG en, valsOf sd, aq, sq⟩ (k, n))) [] := by
 have := aLm ⟨cellsOf ca, valsOf sh, strsOf tx, threadsOf th, aG en, valsOf sd, aq, sq⟩ k n
 rwa [mZ _ _ _ _ _ _ _ _ h] at this
def wW (args : List AV) (K : AV → Prop) : Prop := match args with
 | [.r (.rp [.rs 4 ca, .rs 2 sh, .rs 1 tx, .rs 5 th, .rs 3 en, .rs 2 sd, .v (.int .i64 aq), .v (.int .i64 sq)]), .agg [.r (.v (.int .i64 k)), .r (.v (.int .i64 n))]] => (ca = (cellsOf ca).map aW ∧ sh = (valsOf sh).map valR ∧ tx = (strsOf tx).map strR ∧ th = (threadsOf th).map aJ ∧ en = (aG en).map endR ∧ sd = (valsOf sd).map valR) ∧ K (Bv (fitsF ⟨cellsOf ca, valsOf sh, strsOf tx, threadsOf th, aG en, valsOf sd, aq, sq⟩ (k, n)))
 | _ => False
noncomputable abbrev gK : Ct Cx := .pure 83 wW fun args K h => by
 unfold wW at h; split at h; exact ⟨_, aA (aGh _ _ _ _ _ _ _ _ _ _ h.1) en83 rfl rfl, h.2⟩; exact h.elim
@[go_sem] theorem aI5 : type_of% @wW.eq_def := @wW.eq_def
theorem Ah {α : Type} (l : List α) (q : α → Bool) : l.all q = !(l.any fun v => !q v) := by
 induction l with
 | nil => rfl
 | cons x l ih => rw [List.all_cons, List.any_cons, ih, Bool.not_or, Bool.not_not]
theorem Cr {s : aC} {n : Int} (h : fitsF s (5, n) = true) : 0 ≤ n ∧ n < (s.cells.length : Int) ∧ (s.cells.getD n.toNat cZ).kind ≠ 0 := by
 unfold fitsF at h
 simp only [Bool.and_eq_true] at h
 have h0 := vM h.1 (.inr rfl)
 have h2 := h.2
 simp at h2
 exact ⟨h0, h2.1, h2.2⟩
theorem aNg (s : aC) (k n : Int) : FC Cx 187 [VV k n, .r (.rp [.rp (cN s)])] [] (Bv (!fitsF s (k, n))) [] := by
 refine aD [nJ] Tryz.func187 Tryz.ntmps187 Tryz.results187 ?_
 refine goR ?_
 refine fzB 2 ?_
 (any_goals refine go aQ7 0 ?_)
 all_goals (try simp only [go_sem])
theorem aUn (s : aC) (l : List (Int × Int)) (hl : l.length ≤ 9223372036854775807) : FC Cx 170 [bT s, aT l] [] (Bv (l.all (fitsF s))) [] := by
 have hA : ∀ y, y = [aT l, .r (.fn 187 [.rp [.rp (cN s)]])] → aQ Cx 102 y (Bv (l.any fun v => !fitsF s v)) := fun y hy => by
  subst hy
  refine aA (rX l _ [.rp [.rp (cN s)]] (fun y => ∃ v, y = valA v) (fun y => !fitsF s (valV y)) ?_ (fun x _ => ⟨x, rfl⟩) hl) Lw rfl rfl
  rintro _ ⟨v, rfl⟩
  exact aA (aNg s v.1 v.2) aSb rfl rfl
 rw [Ah l (fitsF s)]
 refine aD [ctE 102 [aT l, .r (.fn 187 [.rp [.rp (cN s)]])] (Bv (l.any fun v => !fitsF s v)) hA] Tryz.func170 Tryz.ntmps170 Tryz.results170 ?_
 refine goR ?_
 refine fzB 2 ?_
 (any_goals refine go aS0 0 ?_)
 all_goals (try simp only [go_sem])
theorem aMj (ca sh tx th en sd : List (List RV)) (aq sq : Int) (us : List (List RV)) (h : (ca = (cellsOf ca).map aW ∧ sh = (valsOf sh).map valR ∧ tx = (strsOf tx).map strR ∧ th = (threadsOf th).map aJ ∧ en = (aG en).map endR ∧ sd = (valsOf sd).map valR) ∧ us = (valsOf us).map valR ∧ us.length ≤ 9223372036854775807) : FC Cx 170 [.r (.rp [.rs 4 ca, .rs 2 sh, .rs 1 tx, .rs 5 th, .rs 3 en, .rs 2 sd, .v (.int .i64 aq), .v (.int .i64 sq)]), .r (.rs 2 us)] [] (Bv ((valsOf us).all (fitsF ⟨cellsOf ca, valsOf sh, strsOf tx, threadsOf th, aG en, valsOf sd, aq, sq⟩))) [] := by
 have := aUn ⟨cellsOf ca, valsOf sh, strsOf tx, threadsOf th, aG en, valsOf sd, aq, sq⟩ (valsOf us) (by have := congrArg List.length h.2.1; simp at this; omega)
 rwa [mZ _ _ _ _ _ _ _ _ h.1, fM h.2.1] at this
def Al (args : List AV) (K : AV → Prop) : Prop := match args with
 | [.r (.rp [.rs 4 ca, .rs 2 sh, .rs 1 tx, .rs 5 th, .rs 3 en, .rs 2 sd, .v (.int .i64 aq), .v (.int .i64 sq)]), .r (.rs 2 us)] => ((ca = (cellsOf ca).map aW ∧ sh = (valsOf sh).map valR ∧ tx = (strsOf tx).map strR ∧ th = (threadsOf th).map aJ ∧ en = (aG en).map endR ∧ sd = (valsOf sd).map valR) ∧ us = (valsOf us).map valR ∧ us.length ≤ 9223372036854775807) ∧ K (Bv ((valsOf us).all (fitsF ⟨cellsOf ca, valsOf sh, strsOf tx, threadsOf th, aG en, valsOf sd, aq, sq⟩)))
 | _ => False
noncomputable abbrev Gb : Ct Cx := .pure 170 Al fun args K h => by
 unfold Al at h; split at h; exact ⟨_, aA (aMj _ _ _ _ _ _ _ _ _ h.1) aQ2 rfl rfl, h.2⟩; exact h.elim
@[go_sem] theorem aK8 : type_of% @Al.eq_def := @Al.eq_def
theorem is_c (s : aC) (k n q : Int) : FC Cx 121 [bT s, VV k n, Iv q] [] (Bv (isF' s (k, n) q)) [] := by
 have l1 : (s.cells.map aW).length = s.cells.length := List.length_map ..
 unfold isF'
 cases hf : fitsF s (k, n) with
 | false =>
  simp only [Bool.false_and]
  refine aD [nJ] Tryz.func121 Tryz.ntmps121 Tryz.results121 ?_
  refine goR ?_
  refine fzB 4 ?_
  (any_goals refine go Zx 0 ?_)
  all_goals (try simp only [go_sem])
 | true =>
 by_cases k5 : k = 5
 ·subst k5
  obtain ⟨h0, h1, h2⟩ := Cr hf
  obtain ⟨c, hc⟩ : ∃ c, s.cells[n.toNat]? = some c := ⟨s.cells[n.toNat]'(by omega), List.getElem?_eq_getElem _⟩
  have hg := aE aW hc ([] : List RV)
  rw [mE hc]
  refine aD [nJ] Tryz.func121 Tryz.ntmps121 Tryz.results121 ?_
  refine goR ?_
  refine fzB 4 ?_
  (any_goals refine go Zx 0 ?_)
  all_goals (try simp only [go_sem])
 ·have d5 : decide (k = 5) = false := by simpa using k5
  simp only [d5, Bool.and_false, Bool.false_and]
  refine aD [nJ] Tryz.func121 Tryz.ntmps121 Tryz.results121 ?_
  refine goR ?_
  refine fzB 4 ?_
  (any_goals refine go Zx 0 ?_)
  all_goals (try simp only [go_sem])
theorem aUl (ca sh tx th en sd : List (List RV)) (aq sq : Int) (k n q : Int) (h : ca = (cellsOf ca).map aW ∧ sh = (valsOf sh).map valR ∧ tx = (strsOf tx).map strR ∧ th = (threadsOf th).map aJ ∧ en = (aG en).map endR ∧ sd = (valsOf sd).map valR) : FC Cx 121 [.r (.rp [.rs 4 ca, .rs 2 sh, .rs 1 tx, .rs 5 th, .rs 3 en, .rs 2 sd, .v (.int .i64 aq), .v (.int .i64 sq)]), VV k n, Iv q] [] (Bv (isF' ⟨cellsOf ca, valsOf sh, strsOf tx, threadsOf th, aG en, valsOf sd, aq, sq⟩ (k, n) q)) [] := by
 have := is_c ⟨cellsOf ca, valsOf sh, strsOf tx, threadsOf th, aG en, valsOf sd, aq, sq⟩ k n q
 rwa [mZ _ _ _ _ _ _ _ _ h] at this
def Ir (args : List AV) (K : AV → Prop) : Prop := match args with
 | [.r (.rp [.rs 4 ca, .rs 2 sh, .rs 1 tx, .rs 5 th, .rs 3 en, .rs 2 sd, .v (.int .i64 aq), .v (.int .i64 sq)]), .agg [.r (.v (.int .i64 k)), .r (.v (.int .i64 n))], .r (.v (.int .i64 q))] => (ca = (cellsOf ca).map aW ∧ sh = (valsOf sh).map valR ∧ tx = (strsOf tx).map strR ∧ th = (threadsOf th).map aJ ∧ en = (aG en).map endR ∧ sd = (valsOf sd).map valR) ∧ K (Bv (isF' ⟨cellsOf ca, valsOf sh, strsOf tx, threadsOf th, aG en, valsOf sd, aq, sq⟩ (k, n) q))
 | _ => False
noncomputable abbrev Zb : Ct Cx := .pure 121 Ir fun args K h => by
 unfold Ir at h; split at h; exact ⟨_, aA (aUl _ _ _ _ _ _ _ _ _ _ _ h.1) aXk rfl rfl, h.2⟩; exact h.elim
@[go_sem] theorem aPd : type_of% @Ir.eq_def := @Ir.eq_def
def evK {α : Type} : List α → List α
 | [] => []
 | [a] => [a]
 | a :: _ :: l => a :: evK l
theorem Cn {α : Type} : ∀ (l : List α) (j : Nat), (evK l)[j]? = l[2 * j]?
 | [], j => by simp [evK]
 | [a], j => by
  cases j with
  | zero => rfl
  | succ j => simp [evK]
 | a :: b :: l, j => by
  cases j with
  | zero => rfl
  | succ j =>
   have e : 2 * (j + 1) = 2 * j + 1 + 1 := by omega
   rw [e]
   simp only [evK, List.getElem?_cons_succ]
   exact Cn l j
theorem Gf {α : Type} : ∀ (l : List α), (evK l).length = (l.length + 1) / 2
 | [] => by simp [evK]
 | [a] => by simp [evK]
 | a :: b :: l => by simp only [evK, List.length_cons, Gf l]; omega
def pV (l : List (Int × Int)) : Bool := ((evK l).all fun v => decide (v.1 = 5)) && decide ((evK l).map (·.2)).Nodup && decide (l.length % 2 = 0)
def WI (n : Int) : Prop := (Lit.int .i64 n).wf = true
open Classical in
noncomputable def eP (S : List Int) (k : Value) : Option Value := if ∃ n ∈ S, k = .int .i64 n then some (.int .i64 1) else none
theorem Cw {S : List Int} {n : Int} (h : n ∉ S) : eP S (.int .i64 n) = none := by
 unfold eP
 rw [if_neg]
 rintro ⟨q, hq, he⟩
 cases he
 exact h hq
theorem yH {S : List Int} {n : Int} (h : n ∈ S) : eP S (.int .i64 n) = some (.int .i64 1) := by
 unfold eP
 rw [if_pos ⟨n, h, rfl⟩]
theorem Fn (S : List Int) (n : Int) : updF (eP S) (.int .i64 n) (.int .i64 1) = eP (n :: S) := by
 funext k
 unfold updF eP
 by_cases h : k = .int .i64 n
 ·rw [if_pos h, if_pos ⟨n, List.mem_cons_self .., h⟩]
 ·rw [if_neg h]
  by_cases h2 : ∃ q ∈ S, k = .int .i64 q
  ·obtain ⟨q, hq, he⟩ := h2
   rw [if_pos ⟨q, hq, he⟩, if_pos ⟨q, List.mem_cons_of_mem _ hq, he⟩]
  ·rw [if_neg h2, if_neg]
   rintro ⟨q, hq, he⟩
   rcases List.mem_cons.1 hq with rfl | hq
   ·exact h he
   ·exact h2 ⟨q, hq, he⟩
theorem Ec : eP [] = fun _ => none := by
 funext k; unfold eP; rw [if_neg]; simp
theorem Nt {S S' : List Int} (h : ∀ s, s ∈ S ↔ s ∈ S') : eP S = eP S' := by
 funext k
 unfold eP
 have : (∃ s ∈ S, k = .int .i64 s) ↔ ∃ s ∈ S', k = .int .i64 s := ⟨fun ⟨s, h1, h2⟩ => ⟨s, (h s).1 h1, h2⟩, fun ⟨s, h1, h2⟩ => ⟨s, (h s).2 h1, h2⟩⟩
 by_cases hx : ∃ s ∈ S, k = .int .i64 s
 ·rw [if_pos hx, if_pos (this.1 hx)]
 ·rw [if_neg hx, if_neg fun h => hx (this.2 h)]
theorem keyI (n : Int) (h : WI n) : ∃ l, keyOf Tryz.prog 3 (.int .i64 n) = some l := by
 refine ⟨.int .i64 n, ?_⟩
 simp [keyOf, mapKey, Tryz.underlying3, show (Lit.int .i64 n).wf = true from h]
theorem xC {S : List Int} (hS : ∀ s ∈ S, WI s) {n : Int} (hn : WI n) : rI Tryz.prog 109 (eP S) (.int .i64 n) := by
 refine ⟨⟨_, _, Tryz.underlying109, .int Tryz.underlying3, keyI n hn, fun k' v' h => ?_⟩⟩
 unfold eP at h
 split at h
 ·rename_i hq
  obtain ⟨q, hq, rfl⟩ := hq
  exact keyI q (hS q hq)
 ·cases h
theorem Dg {l : List (Int × Int)} (h1 : ((evK l).all fun v => decide (v.1 = 5)) = true) (h2 : ((evK l).map (·.2)).Nodup) : pV l = decide (l.length % 2 = 0) := by
 unfold pV; rw [h1, decide_eq_true h2]; rfl
theorem Co {l : List (Int × Int)} {j : Nat} {v : Int × Int} (h : (evK l)[j]? = some v) (hv : v.1 ≠ 5) : pV l = false := by
 unfold pV
 have : ((evK l).all fun v => decide (v.1 = 5)) = false := by
  rw [Bool.eq_false_iff]; intro h3
  have := List.all_eq_true.1 h3 v (List.mem_of_getElem? h)
  simp at this; exact hv this
 rw [this]; rfl
theorem zH {l : List (Int × Int)} {j : Nat} {v : Int × Int} (h : (evK l)[j]? = some v) (hv : v.2 ∈ ((evK l).take j).map (·.2)) : pV l = false := by
 unfold pV
 have : ¬ ((evK l).map (·.2)).Nodup := fun hn => by
  rw [List.map_take] at hv
  obtain ⟨i, hi⟩ := List.mem_iff_getElem?.1 hv
  rw [List.getElem?_take] at hi
  split at hi
  ·rename_i hij
   have hj : ((evK l).map (·.2))[j]? = some v.2 := by rw [List.getElem?_map, h]; rfl
   have h1 := (List.getElem?_eq_some_iff.1 hj).1
   have := (List.getElem?_inj h1 hn).1 (hj.trans hi.symm)
   omega
  ·cases hi
 rw [decide_eq_false this]; simp
theorem aJ0 (l : List (Int × Int)) (x : AV) (hl : l.length ≤ 9223372036854775800) (hw : ∀ v ∈ l, WI v.2) (hx : bK bR x = true) : FC Cx 169 [x, aT l] [] (Bv (pV l)) [] := by
 have l1 : (l.map valR).length = l.length := List.length_map ..
 refine aD [] Tryz.func169 Tryz.ntmps169 Tryz.results169 ?_
 (any_goals refine go Ku 0 ?_)
 refine bY (fun x : Nat × Nat => x.1 ≤ (evK l).length ∧ (((evK l).take x.1).all fun v => decide (v.1 = 5)) = true ∧ (((evK l).take x.1).map (·.2)).Nodup)
  (fun x => ⟨40, [(1, aT l), (5, .os 7 1), (6, Iv ((2 * x.1 : Nat) : Int))], [(7, 1, .mp (eP (((evK l).take x.1).map (·.2))) x.2)]⟩) (fun x => (evK l).length - x.1) (0, 0) ⟨Nat.zero_le _, rfl, List.nodup_nil⟩ ?_ rfl ?_ ⟨rfl, .inl ⟨rfl, by simp [Ec]⟩, trivial⟩
 rotate_left
 ·exact ⟨rfl, rfl, rfl, trivial⟩
 rintro ⟨j, n⟩ ⟨hj, h5, hn⟩
 dsimp only at hj h5 hn ⊢
 have hlen := Gf l
 by_cases hlt : 2 * j < l.length
 case neg =>
  have e1 : decide (((2 * j : Nat) : Int) < (l.length : Int)) = false := by rw [decide_eq_false_iff_not]; omega
  have ej : (evK l).take j = evK l := List.take_of_length_le (by omega)
  rw [ej] at h5 hn
  have hF := Dg h5 hn
  (any_goals refine go Ku 0 ?_)
  all_goals (try simp only [go_sem])
  rw [hF]
  refine congrArg (fun b => Bv b) ?_
  rw [decide_eq_decide, show ((l.length : Int)).tmod 2 = ((l.length % 2 : Nat) : Int) from rfl]
  omega
 have e1 : decide (((2 * j : Nat) : Int) < (l.length : Int)) = true := by rw [decide_eq_true_eq]; omega
 have t1 : Int.toNat ((2 * j : Nat) : Int) = 2 * j := by omega
 have w1 : IntKind.i64.wrap (((2 * j : Nat) : Int) + 2) = ((2 * (j + 1) : Nat) : Int) := by rw [aN] <;> omega
 obtain ⟨v, hv⟩ : ∃ v, l[2 * j]? = some v := ⟨l[2 * j], List.getElem?_eq_getElem hlt⟩
 have hg := aE valR hv ([] : List RV)
 have hev : (evK l)[j]? = some v := by rw [Cn]; exact hv
 have hk : j < (evK l).length := (List.getElem?_eq_some_iff.1 hev).1
 by_cases hv5 : v.1 = 5
 case neg =>
  have d5 : decide (v.1 = 5) = false := by simpa using hv5
  have hF := Co hev hv5
  (any_goals refine go Ku 0 ?_)
  all_goals (try simp only [go_sem, hF])
 have d5 : decide (v.1 = 5) = true := by simpa using hv5
 have hM : rI Tryz.prog 109 (eP (((evK l).take j).map (·.2))) (.int .i64 v.2) := xC (fun q hq => by
  obtain ⟨z, hz, rfl⟩ := List.mem_map.1 hq
  have := List.mem_of_mem_take hz
  obtain ⟨i, hi⟩ := List.mem_iff_getElem?.1 this
  rw [Cn] at hi
  exact hw z (List.mem_of_getElem? hi)) (hw v (List.mem_of_getElem? hv))
 by_cases hin : v.2 ∈ ((evK l).take j).map (·.2)
 ·have d6 := yH hin
  have hF := zH hev hin
  (any_goals refine go Ku 0 ?_)
  all_goals (try simp only [go_sem, hF])
 ·have d6 := Cw hin
  (any_goals refine go Ku 0 ?_)
  have et : (evK l).take (j + 1) = (evK l).take j ++ [v] := by rw [List.take_add_one, hev]; rfl
  refine ⟨(j + 1, updN (eP (((evK l).take j).map (·.2))) (.int .i64 v.2) n), ⟨by dsimp only; omega, by dsimp only; rw [et, List.all_append, h5]; simp [hv5], ?_⟩, by dsimp only; omega, ⟨rfl, pI ⟨rfl, rfl, rfl, trivial⟩, oH ⟨rfl, .inl ⟨rfl, ?_⟩, trivial⟩⟩⟩
  ·dsimp only
   rw [et, List.map_append]
   refine List.nodup_append.2 ⟨hn, by simp, fun a ha b hb => ?_⟩
   simp at hb; subst hb
   exact fun e => hin (e ▸ ha)
  ·refine congrArg (fun f => Res.mp f _) ?_
   rw [Fn]
   dsimp only
   refine Nt fun q => ?_
   rw [et, List.map_append]
   simp [or_comm]
theorem Lq (l : List aR) (f : Nat) (caps : List RV) (dom : AV → Prop) (pv : AV → Bool) (h : ∀ y, dom y → aQ Cx f (y :: caps.map AV.r) (Bv (pv y))) (hd : ∀ x ∈ l, dom (fD x)) (hl : l.length ≤ 9223372036854775807) :
  FC Cx 188 [bO l, .r (.fn f caps)] [] (Iv (fidx (fun x => pv (fD x)) l)) [] := by
 have hlen : (l.map bA).length = l.length := List.length_map ..
 refine aD [ctF f caps dom pv h] Tryz.func188 Tryz.ntmps188 Tryz.results188 ?_
 (any_goals refine go Ry 0 ?_)
 refine eB [0, 1, 7, 8] (fun i => i ≤ l.length ∧ ∀ j x, j < i → l[j]? = some x → pv (fD x) = false) (fun (i : Nat) => ⟨19, [(0, bO l), (1, .r (.fn f caps)), (7, Iv l.length), (8, Iv i)], []⟩) (fun i => l.length - i) 0 rfl (by rw [← hlen]; rfl) rfl ⟨Nat.zero_le _, fun j x hj => by omega⟩ ?_
 rintro i ⟨hi, hno⟩
 by_cases hlt : i < l.length
 ·obtain ⟨x, hx⟩ : ∃ x, l[i]? = some x := ⟨l[i], List.getElem?_eq_getElem hlt⟩
  have hg := aE bA hx ([] : List RV)
  have hdx := hd x (List.mem_of_getElem? hx)
  have hw : IntKind.i64.wrap ((i : Int) + 1) = ((i + 1 : Nat) : Int) := by rw [aN] <;> omega
  have h1 : decide ((i : Int) < (l.length : Int)) = true := by rw [decide_eq_true_eq]; omega
  have h2 : Int.toNat (i : Int) = i := by omega
  cases hp : pv (fD x) with
  | true =>
   (any_goals refine go Ry 0 ?_)
   all_goals (try simp only [go_sem])
   rw [jH hx hp fun j y hj hy => hno j y hj hy]
  | false =>
   (any_goals refine go Ry 0 ?_)
   refine ⟨i + 1, ⟨by omega, fun j y hj hy => ?_⟩, by omega, fI [0, 1, 7, 8] rfl rfl rfl⟩
   rcases Nat.lt_succ_iff_lt_or_eq.1 hj with h3 | h3
   ·exact hno j y h3 hy
   ·subst h3; rw [hx] at hy; cases hy; exact hp
 ·have h1 : decide ((i : Int) < (l.length : Int)) = false := by rw [decide_eq_false_iff_not]; omega
  (any_goals refine go Ry 0 ?_)
  all_goals (try simp only [go_sem])
  rw [gR fun j y hy => hno j y (by have := (List.getElem?_eq_some_iff.1 hy).1; omega) hy]
theorem Oa (l : List aR) (f : Nat) (caps : List RV) (dom : AV → Prop) (pv : AV → Bool) (h : ∀ y, dom y → aQ Cx f (y :: caps.map AV.r) (Bv (pv y))) (hd : ∀ x ∈ l, dom (fD x)) (hl : l.length ≤ 9223372036854775807) :
  FC Cx 171 [bO l, .r (.fn f caps)] [] (Bv (l.any fun x => pv (fD x))) [] := by
 have hA : ∀ y, y = [bO l, .r (.fn f caps)] → aQ Cx 188 y (Iv (fidx (fun x => pv (fD x)) l)) := fun y hy => by
  subst hy; exact aA (Lq l f caps dom pv h hd hl) aXr rfl rfl
 refine aD [ctE 188 [bO l, .r (.fn f caps)] (Iv (fidx (fun x => pv (fD x)) l)) hA] Tryz.func171 Tryz.ntmps171 Tryz.results171 ?_
 (any_goals refine go aT5 0 ?_)
 all_goals (try simp only [go_sem])
 all_goals (try rw [iN])
structure Gwf (f : aR) : Prop where
 regs : f.regs.length ≤ 9223372036854775807
 tries : f.tries.length ≤ 9223372036854775807
 gen : WI f.gen
structure Cwf (c : bJ) : Prop where
 vals : c.vals.length ≤ 9223372036854775807
 val : ∀ v ∈ c.vals, WI v.2
 frames : c.frames.length ≤ 9223372036854775807
 frame : ∀ f ∈ c.frames, Gwf f
structure Swf (s : aC) : Prop where
 len : Slen s
 shapes : Sh.Wf s.shapes
 cell : ∀ c ∈ s.cells, Cwf c
 thread : ∀ t ∈ s.threads, t.frames.length ≤ 9223372036854775807 ∧ ∀ f ∈ t.frames, Gwf f
noncomputable section
def numF (s : aC) (c : bJ) : Bool :=
 if c.kind = 1 then decide (0 ≤ c.num ∧ c.num ≤ (s.shapes.length : Int) - 1) else if c.kind = 4 then decide (0 ≤ c.num) else if c.kind = 5 then decide (0 ≤ c.num ∧ c.num ≤ 2) else
 if c.kind = 6 then decide (-1 ≤ c.num ∧ c.num ≤ 4) else decide (c.num = 0)
def iF (s : aC) (c : bJ) : Bool :=
 if c.kind = 1 then numF s c && decide ((c.vals.length : Int) = ((Sh.namesF s.shapes c.num).length : Int)) else if c.kind = 2 then true else if c.kind = 3 then decide ((c.vals.length : Int) = 1) else
 if c.kind = 4 then !(c.vals.any fun v => !isF' s v 3) else if c.kind = 7 then pV c.vals else decide ((c.vals.length : Int) = 0)
def dM (c : bJ) : Int := if c.kind = 5 ∧ c.num = 0 then 1 else 0
def nC (s : aC) (f : aR) : Bool := f.regs.all (fitsF s) && fitsF s f.self
def eO (s : aC) (c : bJ) : Bool := decide (0 ≤ c.kind ∧ c.kind ≤ 7) && numF s c && iF s c && decide ((c.frames.length : Int) = dM c) && c.vals.all (fitsF s) && c.frames.all (nC s)
end
def aBh : AV → aR
 | .agg [.r (.v (.int _ a)), .r (.v (.int _ b)), .r (.v (.int _ c)), .r (.v (.int _ d)), .r (.v (.int _ k)), .r (.v (.int _ n)), .r (.rs _ rs), .r (.rs _ ts)] => ⟨a, b, c, d, (k, n), valsOf rs, triesOf ts⟩
 | _ => Ny
theorem Je (f : aR) : aBh (fD f) = f := by
 show (⟨f.fn, f.pc, f.tov, f.gen, (f.self.1, f.self.2), valsOf (f.regs.map valR), triesOf (f.tries.map tryR)⟩ : aR) = f
 rw [qW, sB]
theorem aFz (s : aC) (k n : Int) : FC Cx 168 [VV k n, .r (.rp [.rp (cN s)])] [] (Bv (!isF' s (k, n) 3)) [] := by
 refine aD [Zb] Tryz.func168 Tryz.ntmps168 Tryz.results168 ?_
 refine goR ?_
 refine fzB 2 ?_
 (any_goals refine go aRh 0 ?_)
 all_goals (try simp only [go_sem])
theorem aF4 (s : aC) (f : aR) (hf : Gwf f) : FC Cx 172 [fD f, .r (.rp [.rp (cN s)])] [] (Bv (!nC s f)) [] := by
 have l1 : (f.regs.map valR).length = f.regs.length := List.length_map ..
 have h1 := hf.regs
 unfold nC
 cases hb : f.regs.all (fitsF s)
 all_goals
  refine aD [Gb, nJ] Tryz.func172 Tryz.ntmps172 Tryz.results172 ?_
  refine goR ?_
  refine fzB 2 ?_
  (any_goals refine go aRn 0 ?_)
  all_goals (try simp only [go_sem])
  all_goals simp
theorem Tp (n lo hi : Int) : FC Cx 120 [Iv n, Iv lo, Iv hi] [] (Bv (decide (lo ≤ n ∧ n ≤ hi))) [] := by
 refine aD [] Tryz.func120 Tryz.ntmps120 Tryz.results120 ?_
 (any_goals refine go aRo 0 ?_)
 all_goals (try simp only [go_sem])
 all_goals simp_all
 all_goals omega
def qY (args : List AV) (K : AV → Prop) : Prop := match args with
 | [.r (.v (.int .i64 n)), .r (.v (.int .i64 lo)), .r (.v (.int .i64 hi))] => K (Bv (decide (lo ≤ n ∧ n ≤ hi)))
 | _ => False
noncomputable abbrev uE : Ct Cx := .pure 120 qY fun args K h => by
 unfold qY at h; split at h; exact ⟨_, aA (Tp _ _ _) aRf rfl rfl, h⟩; exact h.elim
@[go_sem] theorem aDs : type_of% @qY.eq_def := @qY.eq_def
theorem aDx (x : RV) (us : List (List RV)) (h : us = (valsOf us).map valR ∧ (valsOf us).length ≤ 1000 ∧ ∀ v ∈ valsOf us, WI v.2) : FC Cx 169 [.r x, .r (.rs 2 us)] [] (Bv (pV (valsOf us))) [] := by
 have := aJ0 (valsOf us) (.r x) (by omega) h.2.2 rfl
 rwa [fM h.1] at this
def xG (args : List AV) (K : AV → Prop) : Prop := match args with
 | [.r x, .r (.rs 2 us)] => (us = (valsOf us).map valR ∧ (valsOf us).length ≤ 1000 ∧ ∀ v ∈ valsOf us, WI v.2) ∧ K (Bv (pV (valsOf us)))
 | _ => False
noncomputable abbrev Jx : Ct Cx := .pure 169 xG fun args K h => by
 unfold xG at h; split at h; exact ⟨_, aA (aDx _ _ h.1) aXu rfl rfl, h.2⟩; exact h.elim
@[go_sem] theorem aIq : type_of% @xG.eq_def := @xG.eq_def
theorem aLf (s : aC) (c : bJ) (hs : Swf s) (hc : Cwf c) (hv6 : c.vals.length ≤ 600) : FC Cx 115 [bT s, gL c] [] (Bv (eO s c)) [] := by
 have l1 : (c.vals.map valR).length = c.vals.length := List.length_map ..
 have l2 : (c.frames.map bA).length = c.frames.length := List.length_map ..
 have l3 : (s.shapes.map valR).length = s.shapes.length := List.length_map ..
 have hsl := hs.len.shapes
 have hcf := hc.frames
 have hw := hs.shapes
 have hwi := hc.val
 have hv7 : c.vals.length ≤ 1000 := by omega
 have w1 : IntKind.i64.wrap ((s.shapes.length : Int) - 1) = (s.shapes.length : Int) - 1 := by rw [aN] <;> omega
 have ln : ((Sh.namesF s.shapes c.num).map Sh.intR).length = (Sh.namesF s.shapes c.num).length := List.length_map ..
 have hA : ∀ y, y = [aT c.vals, .r (.fn 168 [.rp [.rp (cN s)]])] → aQ Cx 102 y (Bv (c.vals.any fun v => !isF' s v 3)) := fun y hy => by
  subst hy
  refine aA (rX c.vals _ [.rp [.rp (cN s)]] (fun y => ∃ v, y = valA v) (fun y => !isF' s (valV y) 3) ?_ (fun x _ => ⟨x, rfl⟩) (by omega)) Lw rfl rfl
  rintro _ ⟨v, rfl⟩
  exact aA (aFz s v.1 v.2) aT7 rfl rfl
 have hB : ∀ y, y = [bO c.frames, .r (.fn 172 [.rp [.rp (cN s)]])] → aQ Cx 171 y (Bv (c.frames.any fun f => !nC s f)) := fun y hy => by
  subst hy
  have h := Oa c.frames 172 [.rp [.rp (cN s)]] (fun y => ∃ f, Gwf f ∧ y = fD f) (fun y => !nC s (aBh y)) (by
   rintro _ ⟨f, hf, rfl⟩
   have := aF4 s f hf
   rw [Je]
   exact aA this aV1 rfl rfl) (fun x hx => ⟨x, hc.frame x hx, rfl⟩) hcf
  simp only [Je] at h
  exact aA h aWj rfl rfl
 have eC : eO s c = (decide (0 ≤ c.kind ∧ c.kind ≤ 7) && !(!numF s c || !iF s c || !decide ((c.frames.length : Int) = dM c) || !(c.vals.all (fitsF s))) && !(c.frames.any fun f => !nC s f)) := by
  unfold eO
  rw [Ah c.frames]
  simp only [Bool.not_or, Bool.not_not, Bool.and_assoc]
 by_cases hk : 0 ≤ c.kind ∧ c.kind ≤ 7
 case neg =>
  rw [eC, decide_eq_false hk, Bool.false_and, Bool.false_and]
  have d0 : decide (c.kind = 0) = false := by rw [decide_eq_false_iff_not]; omega
  have d1 : decide (c.kind = 1) = false := by rw [decide_eq_false_iff_not]; omega
  have d2 : decide (c.kind = 2) = false := by rw [decide_eq_false_iff_not]; omega
  have d3 : decide (c.kind = 3) = false := by rw [decide_eq_false_iff_not]; omega
  have d4 : decide (c.kind = 4) = false := by rw [decide_eq_false_iff_not]; omega
  have d5 : decide (c.kind = 5) = false := by rw [decide_eq_false_iff_not]; omega
  have d6 : decide (c.kind = 6) = false := by rw [decide_eq_false_iff_not]; omega
  have d7 : decide (c.kind = 7) = false := by rw [decide_eq_false_iff_not]; omega
  refine aD [uE, Sh.ct_Names, Jx, Gb] Tryz.func115 Tryz.ntmps115 Tryz.results115 ?_
  refine goR ?_
  refine fzB 2 ?_
  refine fzB 3 ?_
  (any_goals refine go pK 0 ?_)
  all_goals (try simp only [go_sem])
 rw [eC, decide_eq_true hk, Bool.true_and]
 refine aD [uE, Sh.ct_Names, Jx, Gb, ctE 102 [aT c.vals, .r (.fn 168 [.rp [.rp (cN s)]])] (Bv (c.vals.any fun v => !isF' s v 3)) hA, ctE 171 [bO c.frames, .r (.fn 172 [.rp [.rp (cN s)]])] (Bv (c.frames.any fun f => !nC s f)) hB] Tryz.func115 Tryz.ntmps115 Tryz.results115 ?_
 refine goR ?_
 refine fzB 2 ?_
 refine fzB 3 ?_
 (any_goals refine go (eM 2 pK) 0 ?_)
 refine goR1 pK 0 ?_
 refine mL (st' := ⟨107, [(2, .r (.rp [.rp (cN s)])), (3, .r (.rp (aW c))), (5, Bv (numF s c)), (6, Bv (iF s c)), (7, Iv (dM c))], [(2, 2, .gone), (3, 2, .gone)]⟩) True rfl ?_ fun _ => ?_
 ·clear eC
  obtain ⟨kind, num, vals, frames⟩ := c
  dsimp only at *
  have k8 : kind = 0 ∨ kind = 1 ∨ kind = 2 ∨ kind = 3 ∨ kind = 4 ∨ kind = 5 ∨ kind = 6 ∨ kind = 7 := by omega
  rcases k8 with rfl | rfl | rfl | rfl | rfl | rfl | rfl | rfl
  ·rw [show numF s ⟨0, num, vals, frames⟩ = decide (num = 0) from rfl, show iF s ⟨0, num, vals, frames⟩ = decide ((vals.length : Int) = 0) from rfl, show dM ⟨0, num, vals, frames⟩ = 0 from rfl]
   (any_goals refine go pK 0 ?_)
   all_goals (try simp only [go_sem])
   exact Lx.le bF
  ·rw [show numF s ⟨1, num, vals, frames⟩ = decide (0 ≤ num ∧ num ≤ (s.shapes.length : Int) - 1) from rfl, show iF s ⟨1, num, vals, frames⟩ = (decide (0 ≤ num ∧ num ≤ (s.shapes.length : Int) - 1) && decide ((vals.length : Int) = ((Sh.namesF s.shapes num).length : Int))) from rfl, show dM ⟨1, num, vals, frames⟩ = 0 from rfl]
   cases hb : decide (0 ≤ num ∧ num ≤ (s.shapes.length : Int) - 1)
   all_goals
    (any_goals refine go pK 0 ?_)
    all_goals (try simp only [go_sem])
    exact Lx.le bF
  ·rw [show numF s ⟨2, num, vals, frames⟩ = decide (num = 0) from rfl, show iF s ⟨2, num, vals, frames⟩ = true from rfl, show dM ⟨2, num, vals, frames⟩ = 0 from rfl]
   (any_goals refine go pK 0 ?_)
   all_goals (try simp only [go_sem])
   exact Lx.le bF
  ·rw [show numF s ⟨3, num, vals, frames⟩ = decide (num = 0) from rfl, show iF s ⟨3, num, vals, frames⟩ = decide ((vals.length : Int) = 1) from rfl, show dM ⟨3, num, vals, frames⟩ = 0 from rfl]
   (any_goals refine go pK 0 ?_)
   all_goals (try simp only [go_sem])
   exact Lx.le bF
  ·rw [show numF s ⟨4, num, vals, frames⟩ = decide (0 ≤ num) from rfl, show iF s ⟨4, num, vals, frames⟩ = !(vals.any fun v => !isF' s v 3) from rfl, show dM ⟨4, num, vals, frames⟩ = 0 from rfl]
   (any_goals refine go pK 0 ?_)
   all_goals (try simp only [go_sem])
   exact Lx.le bF
  ·rw [show numF s ⟨5, num, vals, frames⟩ = decide (0 ≤ num ∧ num ≤ 2) from rfl, show iF s ⟨5, num, vals, frames⟩ = decide ((vals.length : Int) = 0) from rfl]
   by_cases n0 : num = 0
   ·subst n0
    rw [show dM ⟨5, 0, vals, frames⟩ = 1 from rfl]
    (any_goals refine go pK 0 ?_)
    all_goals (try simp only [go_sem])
    exact Lx.le bF
   ·have d0 : decide (num = 0) = false := by simpa using n0
    rw [show dM ⟨5, num, vals, frames⟩ = 0 from if_neg (fun h => n0 h.2)]
    (any_goals refine go pK 0 ?_)
    all_goals (try simp only [go_sem])
    exact Lx.le bF
  ·rw [show numF s ⟨6, num, vals, frames⟩ = decide (-1 ≤ num ∧ num ≤ 4) from rfl, show iF s ⟨6, num, vals, frames⟩ = decide ((vals.length : Int) = 0) from rfl, show dM ⟨6, num, vals, frames⟩ = 0 from rfl]
   (any_goals refine go pK 0 ?_)
   all_goals (try simp only [go_sem])
   exact Lx.le bF
  ·rw [show numF s ⟨7, num, vals, frames⟩ = decide (num = 0) from rfl, show iF s ⟨7, num, vals, frames⟩ = pV vals from rfl, show dM ⟨7, num, vals, frames⟩ = 0 from rfl]
   (any_goals refine go pK 0 ?_)
   all_goals (try simp only [go_sem])
   exact Lx.le bF
 generalize numF s c = b1
 generalize iF s c = b2
 generalize dM c = b3
 generalize hb4 : c.vals.all (fitsF s) = b4
 clear eC
 (any_goals refine go pK 0 ?_)
 repeat' (first | (refine Br.go (fun h h' => ?_) (fun h h' => ?_)) | (refine Br.mk (fun h => ?_) (fun h => ?_)))
 all_goals (try simp only [go_sem])
 all_goals clear hb4 hA hB hwi
 all_goals (simp_all; done)
theorem aHh (ca sh tx th en sd : List (List RV)) (aq sq : Int) (c1 c2 : Int) (us vs : List (List RV)) (h : ((ca = (cellsOf ca).map aW ∧ sh = (valsOf sh).map valR ∧ tx = (strsOf tx).map strR ∧ th = (threadsOf th).map aJ ∧ en = (aG en).map endR ∧ sd = (valsOf sd).map valR) ∧ us = (valsOf us).map valR ∧ vs = (framesOf vs).map bA) ∧ Swf ⟨cellsOf ca, valsOf sh, strsOf tx, threadsOf th, aG en, valsOf sd, aq, sq⟩ ∧ Cwf ⟨c1, c2, valsOf us, framesOf vs⟩ ∧ (valsOf us).length ≤ 600) : FC Cx 115 [.r (.rp [.rs 4 ca, .rs 2 sh, .rs 1 tx, .rs 5 th, .rs 3 en, .rs 2 sd, .v (.int .i64 aq), .v (.int .i64 sq)]), .agg [Iv c1, Iv c2, .r (.rs 2 us), .r (.rs 8 vs)]] [] (Bv (eO ⟨cellsOf ca, valsOf sh, strsOf tx, threadsOf th, aG en, valsOf sd, aq, sq⟩ ⟨c1, c2, valsOf us, framesOf vs⟩)) [] := by
 have := aLf ⟨cellsOf ca, valsOf sh, strsOf tx, threadsOf th, aG en, valsOf sd, aq, sq⟩ ⟨c1, c2, valsOf us, framesOf vs⟩ h.2.1 h.2.2.1 h.2.2.2
 rwa [mZ _ _ _ _ _ _ _ _ h.1.1, show gL ⟨c1, c2, valsOf us, framesOf vs⟩ = .agg [Iv c1, Iv c2, .r (.rs 2 us), .r (.rs 8 vs)] from by
  show AV.agg [Iv c1, Iv c2, aT (valsOf us), bO (framesOf vs)] = _
  rw [fM h.1.2.1, yM h.1.2.2]] at this
def vW (args : List AV) (K : AV → Prop) : Prop := match args with
 | [.r (.rp [.rs 4 ca, .rs 2 sh, .rs 1 tx, .rs 5 th, .rs 3 en, .rs 2 sd, .v (.int .i64 aq), .v (.int .i64 sq)]), .agg [.r (.v (.int .i64 c1)), .r (.v (.int .i64 c2)), .r (.rs 2 us), .r (.rs 8 vs)]] => (((ca = (cellsOf ca).map aW ∧ sh = (valsOf sh).map valR ∧ tx = (strsOf tx).map strR ∧ th = (threadsOf th).map aJ ∧ en = (aG en).map endR ∧ sd = (valsOf sd).map valR) ∧ us = (valsOf us).map valR ∧ vs = (framesOf vs).map bA) ∧ Swf ⟨cellsOf ca, valsOf sh, strsOf tx, threadsOf th, aG en, valsOf sd, aq, sq⟩ ∧ Cwf ⟨c1, c2, valsOf us, framesOf vs⟩ ∧ (valsOf us).length ≤ 600) ∧ K (Bv (eO ⟨cellsOf ca, valsOf sh, strsOf tx, threadsOf th, aG en, valsOf sd, aq, sq⟩ ⟨c1, c2, valsOf us, framesOf vs⟩))
 | _ => False
noncomputable abbrev Yc : Ct Cx := .pure 115 vW fun args K h => by
 unfold vW at h; split at h; exact ⟨_, aA (aHh _ _ _ _ _ _ _ _ _ _ _ _ h.1) aXt rfl rfl, h.2⟩; exact h.elim
@[go_sem] theorem aJv : type_of% @vW.eq_def := @vW.eq_def
end Go.Proofs.YtbhnmolmkembdaaGreatDoor
namespace Go.Proofs.YtbhnmolmkembdaaGreatDoor
set_option linter.unusedVariables false
set_option linter.unusedSimpArgs false
set_option maxHeartbeats 10000000
open Go Go.ChangeShapes Go.WideShapes Go.ChangeAt Go.RowKit
theorem aW2 : Tryz.prog.cellsOf 81 = 2 := by kernel_rfl
theorem Se : Tryz.prog.cellsOf 61 = 8 := by kernel_rfl
theorem aM8 : Tryz.prog.cellsOf 48 = 4 := by kernel_rfl
theorem Wy : Tryz.prog.cellsOf 56 = 5 := by kernel_rfl
theorem aTb : Tryz.prog.cellsOf 127 = 3 := by kernel_rfl
theorem aEc : Tryz.prog.cellsOf 97 = 2 := by kernel_rfl
theorem jK {α : Type} {P : Program} {t e sz : Nat} {row : List RV} (f : α → List RV) (p : α → Prop) (h : Ro P t row) (ht : P.underlying t = some (.slice e)) (hc : P.cellsOf e = sz) (hx : ∀ r, Ro P e r → ∃ x, r = f x ∧ p x) : ∃ l : List α, row = [.rs sz (l.map f)] ∧ l.length ≤ 9223372036854775807 ∧ ∀ x ∈ l, p x := by
 obtain ⟨rows, rfl, hm, h2⟩ := pO h ht
 obtain ⟨l, rfl, hl⟩ := nU (f := f) (p := p) fun r hr => hx r (h2 r hr)
 have := sX
 rw [List.length_map] at hm
 exact ⟨l, by rw [hc], by omega, hl⟩
theorem oG {row : List RV} (h : Ro Tryz.prog 50 row) : ∃ v : Int × Int, row = valR v ∧ WI v.2 := by
 obtain ⟨rows, rfl, h1, h2⟩ := dY h Tryz.underlying50
 match rows, h1 with
 | [a, b], _ =>
  obtain ⟨x1, rfl, _⟩ := cS (h2 0 _ a rfl rfl) Tryz.underlying3
  obtain ⟨x2, rfl, q⟩ := cS (h2 1 _ b rfl rfl) Tryz.underlying3
  exact ⟨(x1, x2), rfl, q⟩
theorem Vj {row : List RV} (h : Ro Tryz.prog 97 row) : ∃ v : Int × Int, row = valR v ∧ Sh.WfS v := by
 obtain ⟨rows, rfl, h1, h2⟩ := dY h Tryz.underlying97
 match rows, h1 with
 | [a, b], _ =>
  obtain ⟨x1, rfl, q1⟩ := cS (h2 0 _ a rfl rfl) Tryz.underlying3
  obtain ⟨x2, rfl, q2⟩ := cS (h2 1 _ b rfl rfl) Tryz.underlying3
  exact ⟨(x1, x2), rfl, q1, q2⟩
theorem aEh {row : List RV} (h : Ro Tryz.prog 81 row) : ∃ v : Int × Int, row = tryR v ∧ True := by
 obtain ⟨rows, rfl, h1, h2⟩ := dY h Tryz.underlying81
 match rows, h1 with
 | [a, b], _ =>
  obtain ⟨x1, rfl, q1⟩ := cS (h2 0 _ a rfl rfl) Tryz.underlying3
  obtain ⟨x2, rfl, q2⟩ := cS (h2 1 _ b rfl rfl) Tryz.underlying3
  exact ⟨(x1, x2), rfl, trivial⟩
theorem Kw {row : List RV} (h : Ro Tryz.prog 61 row) : ∃ f : aR, row = bA f ∧ Gwf f := by
 obtain ⟨rows, rfl, h1, h2⟩ := dY h Tryz.underlying61
 match rows, h1 with
 | [a, b, c, d, e, u, v], _ =>
  obtain ⟨x1, rfl, _⟩ := cS (h2 0 _ a rfl rfl) Tryz.underlying3
  obtain ⟨x2, rfl, _⟩ := cS (h2 1 _ b rfl rfl) Tryz.underlying3
  obtain ⟨x3, rfl, _⟩ := cS (h2 2 _ c rfl rfl) Tryz.underlying3
  obtain ⟨x4, rfl, q4⟩ := cS (h2 3 _ d rfl rfl) Tryz.underlying3
  obtain ⟨x5, rfl, _⟩ := oG (h2 4 _ e rfl rfl)
  obtain ⟨x6, rfl, m6, _⟩ := jK valR (fun v => WI v.2) (h2 5 _ u rfl rfl) Tryz.underlying23 Kl fun r hr => oG hr
  obtain ⟨x7, rfl, m7, _⟩ := jK tryR (fun _ => True) (h2 6 _ v rfl rfl) Tryz.underlying59 aW2 fun r hr => aEh hr
  exact ⟨⟨x1, x2, x3, x4, x5, x6, x7⟩, rfl, m6, m7, q4⟩
theorem Ti {row : List RV} (h : Ro Tryz.prog 56 row) : ∃ t : aP, row = aJ t ∧ t.frames.length ≤ 9223372036854775807 ∧ ∀ f ∈ t.frames, Gwf f := by
 obtain ⟨rows, rfl, h1, h2⟩ := dY h Tryz.underlying56
 match rows, h1 with
 | [v, a, b, c], _ =>
  obtain ⟨x4, rfl, m4, q4⟩ := jK bA Gwf (h2 0 _ v rfl rfl) Tryz.underlying46 Se fun r hr => Kw hr
  obtain ⟨x1, rfl, _⟩ := cS (h2 1 _ a rfl rfl) Tryz.underlying3
  obtain ⟨x2, rfl, _⟩ := cS (h2 2 _ b rfl rfl) Tryz.underlying3
  obtain ⟨x3, rfl, _⟩ := oG (h2 3 _ c rfl rfl)
  exact ⟨⟨x4, x1, x2, x3⟩, rfl, m4, q4⟩
theorem aNt {row : List RV} (h : Ro Tryz.prog 127 row) : ∃ e : EndT, row = endR e ∧ True := by
 obtain ⟨rows, rfl, h1, h2⟩ := dY h Tryz.underlying127
 match rows, h1 with
 | [a, b], _ =>
  obtain ⟨x1, rfl, _⟩ := cS (h2 0 _ a rfl rfl) Tryz.underlying3
  obtain ⟨x2, rfl, _⟩ := oG (h2 1 _ b rfl rfl)
  exact ⟨⟨x1, x2⟩, rfl, trivial⟩
end Go.Proofs.YtbhnmolmkembdaaGreatDoor
namespace Go.Proofs.YtbhnmolmkembdaaGreatDoor
set_option linter.unusedVariables false
set_option linter.unusedSimpArgs false
set_option maxHeartbeats 10000000
open Go
set_option maxRecDepth 10000
inductive NilD : RV → RV → Prop
 | same (x : RV) : NilD x x
 | nil (sz : Nat) : NilD (.v (.slice none 0 0)) (.rs sz [])
 | rs (sz : Nat) (rows rows' : List (List RV)) (hl : rows'.length = rows.length) (hr : ∀ (i : Nat) (row row' : List RV), rows[i]? = some row → rows'[i]? = some row' → row'.length = row.length)
   (h : ∀ (i j : Nat) (row row' : List RV) (x y : RV), rows[i]? = some row → rows'[i]? = some row' → row[j]? = some x → row'[j]? = some y → NilD x y) : NilD (.rs sz rows) (.rs sz rows')
theorem RR.nilD {w : World} {N : Nat → Prop} {x y : RV} (h : NilD x y) : ∀ {v : Value}, RR w N x v → RR w N y v := by
 induction h with
 | same x => exact fun h => h
 | nil sz => intro v h; cases h; exact .nil sz
 | rs sz rows rows' hl hr _ ih =>
  intro v hv
  cases hv with
  | nil =>
   have : rows' = [] := List.length_eq_zero_iff.1 hl
   subst this; exact .nil sz
  | rs _ _ a cap c hb hcap hw hc hrr =>
   have hget : ∀ (i : Nat) (row' : List RV), rows'[i]? = some row' → ∃ row, rows[i]? = some row := fun i row' hi => by
    have := (List.getElem?_eq_some_iff.1 hi).1
    exact ⟨_, List.getElem?_eq_getElem (by omega)⟩
   rw [← hl]
   refine .rs sz rows' a cap c (fun hne => hb fun h0 => hne (by subst h0; exact List.length_eq_zero_iff.1 hl)) (by omega) (fun row' hrow' => ?_) (fun i j hi hj => hc i j (by omega) hj) (fun i j row' y hi hj => ?_)
   ·obtain ⟨i, hi⟩ := List.mem_iff_getElem?.1 hrow'
    obtain ⟨row, h1⟩ := hget i row' hi
    rw [hr i row row' h1 hi]; exact hw row (List.mem_of_getElem? h1)
   ·obtain ⟨row, h1⟩ := hget i row' hi
    have h2 := hr i row row' h1 hi
    have hlt := (List.getElem?_eq_some_iff.1 hj).1
    have hx : row[j]? = some (row[j]'(by omega)) := List.getElem?_eq_getElem (by omega)
    exact ih i j row row' _ y h1 hi hx hj (hrr i j row _ h1 hx)
theorem AR.nilD {cur : Nat → Nat} {g : Gh} {w : World} {N : Nat → Prop} {xs ys : List RV} {v : Value} (hl : ys.length = xs.length) (h : ∀ (j : Nat) (x y : RV), xs[j]? = some x → ys[j]? = some y → NilD x y) (hv : AR cur g w N (.agg (xs.map .r)) v) : AR cur g w N (.agg (ys.map .r)) v := by
 cases hv with
 | agg _ us hs hu =>
  refine .agg _ us (by simp at hs ⊢; omega) fun j y u hy hju => ?_
  rw [List.getElem?_map] at hy
  cases hyj : ys[j]? with
  | none => simp [hyj] at hy
  | some z =>
   simp [hyj] at hy; subst hy
   have hlt := (List.getElem?_eq_some_iff.1 hyj).1
   have hx : xs[j]? = some (xs[j]'(by omega)) := List.getElem?_eq_getElem (by omega)
   have := hu j (.r (xs[j]'(by omega))) u (by rw [List.getElem?_map, hx]; rfl) hju
   cases this with | r this => exact .r (RR.nilD (h j _ z hx hyj) this)
theorem Wp {C : Ctx} {f : Nat} {args : List AV} {rs0 : List (Nat × Nat × Res)} {r r' : AV} (hf : FC C f args rs0 r []) (h : ∀ cur g w N v, AR cur g w N r v → AR cur g w N r' v) : FC C f args rs0 r' [] := by
 refine ⟨fun e g w vs hok hs hvs => (hf.run e g w vs hok hs hvs).mono ?_⟩
 rintro x w' ⟨v, g', rfl, hs', hv, hk⟩
 exact ⟨v, g', rfl, hs', h _ _ _ _ _ hv, hk⟩
@[go_sem] theorem aJk (k1 k2 k3 k4 k5 : IntKind) (o a b c l : Int) (xs : List (List RV)) : aS ([.v (.int k1 o), .v (.int k2 a), .v (.int k3 b), .v (.int k4 c), .v (.int k5 l)] :: xs) = ⟨o, a, b, c, l⟩ :: aS xs := rfl
@[go_sem] theorem aK5 : aS [] = [] := rfl
structure To (f : FnT) (W : WT) (t : Int) (l : List (Int × Int)) : Prop where
 lo : 0 ≤ t
 hi : t < f.code.length
 few : l.length ≤ 20
 seen : W.seen.getD t.toNat false = true
 out : W.out.getD t.toNat [] = l
theorem fA {α : Type} {l : List α} {i : Nat} {x d : α} (h : i < l.length) : (l.set i x).getD i d = x := by
 simp [List.getD, List.getElem?_set, h]
theorem gG {α : Type} {l : List α} {i j : Nat} {x d : α} (h : i ≠ j) : (l.set i x).getD j d = l.getD j d := by
 simp [List.getD, List.getElem?_set, h]
theorem pN {f : FnT} {n : Int} {l : List (Int × Int)} {W : WT} (h : W.bad = true) : (aZ f n l W).bad = true := by
 unfold aZ; split
 ·rfl
 ·split
  ·exact h
  ·split
   ·exact h
   ·rfl
theorem oZ {f : FnT} {n : Int} {l : List (Int × Int)} {W : WT} (hi : Wiv f W) (hn : 0 ≤ n) (h : (aZ f n l W).bad = false) : To f (aZ f n l W) n l := by
 unfold aZ at h ⊢
 split at h
 ·cases h
 ·rename_i hb
  rw [if_neg hb]
  have h1 := hi.seen
  have h2 := hi.out
  split at h
  ·rename_i hs
   rw [if_pos hs]
   exact ⟨hn, by omega, by omega, fA (by omega), fA (by omega)⟩
  ·rename_i hs
   rw [if_neg hs]
   split at h
   ·rename_i ho
    rw [if_pos ho]
    exact ⟨hn, by omega, by omega, by simpa using hs, ho⟩
   ·cases h
theorem cT {f : FnT} {n t : Int} {l l' : List (Int × Int)} {W : WT} (h : To f W t l') : To f (aZ f n l W) t l' := by
 obtain ⟨h1, h2, h3, h4, h5⟩ := h
 unfold aZ
 split
 ·exact ⟨h1, h2, h3, h4, h5⟩
 ·split
  ·rename_i hs
   have hne : n.toNat ≠ t.toNat := fun e => by rw [e, h4] at hs; cases hs
   exact ⟨h1, h2, h3, by rw [gG hne]; exact h4, by rw [gG hne]; exact h5⟩
  ·split
   ·exact ⟨h1, h2, h3, h4, h5⟩
   ·exact ⟨h1, h2, h3, h4, h5⟩
theorem tR {f : FnT} {n : Int} {l : List (Int × Int)} {W : WT} (hn : 0 ≤ n) {k : Nat} (h : (aZ f n l W).seen.getD k false = true) : W.seen.getD k false = true ∨ (k : Int) ∈ (aZ f n l W).todo := by
 unfold aZ at h ⊢
 split at h
 ·exact .inl h
 ·rename_i hb
  rw [if_neg hb]
  split at h
  ·rename_i hs
   rw [if_pos hs]
   by_cases hk : n.toNat = k
   ·subst hk
    right; simp; right; omega
   ·left; dsimp only at h; rwa [gG hk] at h
  ·rename_i hs
   rw [if_neg hs]
   left
   split at h <;> exact h
theorem xH {f : FnT} {n : Int} {l : List (Int × Int)} {W : WT} {t : Int} (h : t ∈ W.todo) : t ∈ (aZ f n l W).todo := by
 unfold aZ; split
 ·exact h
 ·split
  ·exact List.mem_append_left _ h
  ·split <;> exact h
def closed (f : FnT) (W : WT) (n : Int) (l : List (Int × Int)) : Prop :=
 let i := f.code.getD n.toNat ins0
 if i.op = 28 ∨ i.op = 29 then True else if i.op = 13 ∨ i.op = 14 then To f W i.a l else
 if i.op = 15 then To f W i.b l ∧ To f W (n + 1) l else if i.op = 30 then To f W i.b l ∧ To f W (n + 1) (l ++ [(i.a, i.b)]) else
 if i.op = 31 then l ≠ [] ∧ To f W (n + 1) (l.take (l.length - 1)) else To f W (n + 1) l
theorem Ii {f : FnT} {W W' : WT} {n : Int} {l : List (Int × Int)} (h : closed f W n l) (hk : ∀ t l', To f W t l' → To f W' t l') : closed f W' n l := by
 unfold closed at h ⊢
 dsimp only at h ⊢
 split
 ·trivial
 ·rename_i h1
  rw [if_neg h1] at h
  split
  ·rename_i h2; rw [if_pos h2] at h; exact hk _ _ h
  ·rename_i h2
   rw [if_neg h2] at h
   split
   ·rename_i h3; rw [if_pos h3] at h; exact ⟨hk _ _ h.1, hk _ _ h.2⟩
   ·rename_i h3
    rw [if_neg h3] at h
    split
    ·rename_i h4; rw [if_pos h4] at h; exact ⟨hk _ _ h.1, hk _ _ h.2⟩
    ·rename_i h4
     rw [if_neg h4] at h
     split
     ·rename_i h5; rw [if_pos h5] at h; exact ⟨h.1, hk _ _ h.2⟩
     ·rename_i h5; rw [if_neg h5] at h; exact hk _ _ h
structure Fr (f : FnT) (n : Int) (W : WT) : Prop where
 bad : W.bad = true → (bW f n W).bad = true
 keeps : ∀ t l, To f W t l → To f (bW f n W) t l
 seen : ∀ k : Nat, (bW f n W).seen.getD k false = true → W.seen.getD k false = true ∨ (k : Int) ∈ (bW f n W).todo
 sub : ∀ t, t ∈ W.todo → t ∈ (bW f n W).todo
 closed : (bW f n W).bad = false → Go.Proofs.YtbhnmolmkembdaaGreatDoor.closed f (bW f n W) n (W.out.getD n.toNat [])
theorem wP {f : FnT} {n : Int} {W : WT} (h : Wiv f W) (hc : Cok f) (hn : 0 ≤ n) : Fr f n W := by
 have hi : f.code.getD n.toNat ins0 = ins0 ∨ f.code.getD n.toNat ins0 ∈ f.code := by
  cases hg : f.code[n.toNat]? with
  | none => left; simp [List.getD, hg]
  | some i => right; simp only [List.getD, hg, Option.getD_some]; exact List.mem_of_getElem? hg
 have hA : (f.code.getD n.toNat ins0).op = 13 ∨ (f.code.getD n.toNat ins0).op = 14 → 0 ≤ (f.code.getD n.toNat ins0).a := fun ho => hi.elim (fun h => by rw [h] at ho; rcases ho with ho | ho <;> cases ho) (fun h => hc.a _ h ho)
 have hB : (f.code.getD n.toNat ins0).op = 15 ∨ (f.code.getD n.toNat ins0).op = 30 → 0 ≤ (f.code.getD n.toNat ins0).b := fun ho => hi.elim (fun h => by rw [h] at ho; rcases ho with ho | ho <;> cases ho) (fun h => hc.b _ h ho)
 have one : ∀ (t : Int) (l : List (Int × Int)), 0 ≤ t → bW f n W = aZ f t l W → (closed f (aZ f t l W) n (W.out.getD n.toNat []) ↔ To f (aZ f t l W) t l) → Fr f n W := fun t l ht he hcl => by
  refine ⟨fun hb => by rw [he]; exact pN hb, fun t' l' hT => by rw [he]; exact cT hT, fun k hk => by rw [he] at hk ⊢; exact tR ht hk, fun t' ht' => by rw [he]; exact xH ht', fun hb => ?_⟩
  rw [he] at hb ⊢
  exact hcl.2 (oZ h ht hb)
 have two : ∀ (t t2 : Int) (l l2 : List (Int × Int)), 0 ≤ t → 0 ≤ t2 → bW f n W = aZ f t2 l2 (aZ f t l W) → (closed f (aZ f t2 l2 (aZ f t l W)) n (W.out.getD n.toNat []) ↔ To f (aZ f t2 l2 (aZ f t l W)) t l ∧ To f (aZ f t2 l2 (aZ f t l W)) t2 l2) → Fr f n W := fun t t2 l l2 ht ht2 he hcl => by
  have h2 := (cO (n := t) (l := l) h ht).1
  refine ⟨fun hb => by rw [he]; exact pN (pN hb), fun t' l' hT => by rw [he]; exact cT (cT hT), fun k hk => ?_, fun t' ht' => by rw [he]; exact xH (xH ht'), fun hb => ?_⟩
  ·rw [he] at hk ⊢
   rcases tR ht2 hk with hk | hk
   ·rcases tR ht hk with hk | hk
    ·exact .inl hk
    ·exact .inr (xH hk)
   ·exact .inr hk
  ·rw [he] at hb ⊢
   have hb1 : (aZ f t l W).bad = false := by
    cases hx : (aZ f t l W).bad with
    | false => rfl
    | true => rw [pN hx] at hb; cases hb
   exact hcl.2 ⟨cT (oZ h ht hb1), oZ h2 ht2 hb⟩
 by_cases h1 : (f.code.getD n.toNat ins0).op = 28 ∨ (f.code.getD n.toNat ins0).op = 29
 ·have he : bW f n W = W := by unfold bW; dsimp only; rw [if_pos h1]
  refine ⟨fun hb => by rw [he]; exact hb, fun t l hT => by rw [he]; exact hT, fun k hk => by rw [he] at hk; exact .inl hk, fun t ht => by rw [he]; exact ht, fun _ => ?_⟩
  unfold closed; dsimp only; rw [if_pos h1]; trivial
 by_cases h2 : (f.code.getD n.toNat ins0).op = 13 ∨ (f.code.getD n.toNat ins0).op = 14
 ·exact one (f.code.getD n.toNat ins0).a (W.out.getD n.toNat []) (hA h2) (by unfold bW; dsimp only; rw [if_neg h1, if_pos h2]) (by unfold closed; dsimp only; rw [if_neg h1, if_pos h2])
 by_cases h3 : (f.code.getD n.toNat ins0).op = 15
 ·exact two (f.code.getD n.toNat ins0).b (n + 1) (W.out.getD n.toNat []) (W.out.getD n.toNat []) (hB (.inl h3)) (by omega) (by unfold bW; dsimp only; rw [if_neg h1, if_neg h2, if_pos h3]) (by unfold closed; dsimp only; rw [if_neg h1, if_neg h2, if_pos h3])
 by_cases h4 : (f.code.getD n.toNat ins0).op = 30
 ·exact two (f.code.getD n.toNat ins0).b (n + 1) (W.out.getD n.toNat []) (W.out.getD n.toNat [] ++ [((f.code.getD n.toNat ins0).a, (f.code.getD n.toNat ins0).b)]) (hB (.inr h4)) (by omega) (by unfold bW; dsimp only; rw [if_neg h1, if_neg h2, if_neg h3, if_pos h4]) (by unfold closed; dsimp only; rw [if_neg h1, if_neg h2, if_neg h3, if_pos h4])
 by_cases h5 : (f.code.getD n.toNat ins0).op = 31
 ·by_cases hl : W.out.getD n.toNat [] = []
  ·have he : bW f n W = { W with bad := true } := by unfold bW; dsimp only; rw [if_neg h1, if_neg h2, if_neg h3, if_neg h4, if_pos h5, if_pos hl]
   exact ⟨fun _ => by rw [he], fun t l hT => by rw [he]; exact ⟨hT.lo, hT.hi, hT.few, hT.seen, hT.out⟩, fun k hk => by rw [he] at hk; exact .inl hk, fun t ht => by rw [he]; exact ht, fun hb => by rw [he] at hb; cases hb⟩
  ·exact one (n + 1) ((W.out.getD n.toNat []).take ((W.out.getD n.toNat []).length - 1)) (by omega) (by unfold bW; dsimp only; rw [if_neg h1, if_neg h2, if_neg h3, if_neg h4, if_pos h5, if_neg hl]) (by unfold closed; dsimp only; rw [if_neg h1, if_neg h2, if_neg h3, if_neg h4, if_pos h5]; exact ⟨fun x => x.2, fun x => ⟨hl, x⟩⟩)
 ·exact one (n + 1) (W.out.getD n.toNat []) (by omega) (by unfold bW; dsimp only; rw [if_neg h1, if_neg h2, if_neg h3, if_neg h4, if_neg h5]) (by unfold closed; dsimp only; rw [if_neg h1, if_neg h2, if_neg h3, if_neg h4, if_neg h5])
def Wcl (f : FnT) (W : WT) : Prop := W.bad = true ∨ ∀ k : Nat, W.seen.getD k false = true → (k : Int) ∈ W.todo ∨ closed f W k (W.out.getD k [])
theorem qN {f : FnT} {W : WT} (h : Wiv f W) {k : Nat} (hk : W.seen.getD k false = true) : To f W k (W.out.getD k []) := by
 have hlt : k < W.seen.length := by
  rcases Nat.lt_or_ge k W.seen.length with h | h
  ·exact h
  ·simp [List.getD, List.getElem?_eq_none h] at hk
 have h1 := h.seen
 have h2 := h.out
 refine ⟨by omega, by omega, ?_, hk, rfl⟩
 have hx : W.out[k]? = some (W.out[k]'(by omega)) := List.getElem?_eq_getElem (by omega)
 simp only [List.getD, hx, Option.getD_some]
 exact h.outs _ (List.mem_of_getElem? hx)
theorem aFw {f : FnT} {W : WT} (h : Wiv f W) (hc : Cok f) (hg : cP W = true) (hW : Wcl f W) : Wcl f (dT f W) := by
 have h0 : 0 < W.todo.length := by simp [cP] at hg; exact hg.1
 obtain ⟨q1, q2, q3, q4⟩ := qK h h0
 have fr := wP (n := jP W) q1 hc q3
 cases hb : (dT f W).bad with
 | true => exact .inl hb
 | false =>
  right
  have hb1 : W.bad = false := by
   cases hx : W.bad with
   | false => rfl
   | true => have := fr.bad hx; unfold dT at hb; rw [this] at hb; cases hb
  rcases hW with hW | hW
  ·rw [hW] at hb1; cases hb1
  intro k hk
  rcases fr.seen k hk with hk1 | hk1
  ·have hk2 : W.seen.getD k false = true := hk1
   have hT := qN q1 hk1
   have hT2 := fr.keeps _ _ hT
   have ho : (dT f W).out.getD k [] = W.out.getD k [] := hT2.out
   rw [ho]
   rcases hW k hk2 with hin | hcl
   ·by_cases he : (k : Int) = jP W
    ·right
     have := fr.closed hb
     rw [← he] at this
     unfold dT
     rw [← he]
     exact this
    ·left
     refine fr.sub _ ?_
     show (k : Int) ∈ W.todo.take (W.todo.length - 1)
     obtain ⟨j, hj⟩ := List.mem_iff_getElem?.1 hin
     have hjl := (List.getElem?_eq_some_iff.1 hj).1
     have hjn : j ≠ W.todo.length - 1 := fun e => by
      subst e
      exact he (by unfold jP; simp [List.getD, hj])
     exact List.mem_iff_getElem?.2 ⟨j, by rw [List.getElem?_take, if_pos (by omega), hj]⟩
   ·right
    exact Ii hcl fun t l hT => fr.keeps t l ⟨hT.lo, hT.hi, hT.few, hT.seen, hT.out⟩
  ·exact .inl hk1
theorem aAb {f : FnT} (hc : Cok f) : ∀ (k : Nat) (W : WT), Wiv f W → Wcl f W → Wcl f (runW f k W)
 | 0, W, _, h => h
 | k + 1, W, hi, h => by
  show Wcl f (if cP W = true then runW f k (dT f W) else W)
  split
  ·rename_i hg; exact aAb hc k _ (jJ hi hc hg).1 (aFw hi hc hg h)
  ·exact h
theorem Ma {f : FnT} (hc : Cok f) : ∀ (k : Nat) (W : WT), Wiv f W → muW W ≤ k → cP (runW f k W) = false
 | 0, W, _, h => by
  have : W.todo.length = 0 := by unfold muW at h; omega
  simp [runW, cP, this]
 | k + 1, W, hi, h => by
  show cP (if cP W = true then runW f k (dT f W) else W) = false
  split
  ·rename_i hg
   obtain ⟨q1, q2⟩ := jJ hi hc hg
   exact Ma hc k _ q1 (by omega)
  ·rename_i hg; simpa using hg
theorem Me {f : FnT} (hc : Cok f) (hb : (bN f).bad = false) {k : Nat} (hk : (bN f).seen.getD k false = true) : closed f (bN f) k ((bN f).out.getD k []) := by
 obtain ⟨i0, m0⟩ := jR f
 obtain ⟨q1, q2⟩ := cO (n := 0) (l := []) i0 (Int.le_refl 0)
 have c0 : Wcl f (aZ f 0 [] (W0 f)) := by
  right; intro k hk
  rcases tR (Int.le_refl 0) hk with hk | hk
  ·exfalso
   have : (W0 f).seen.getD k false = false := by
    show (List.replicate f.code.length false).getD k false = false
    simp only [List.getD, List.getElem?_replicate]
    split <;> rfl
   rw [this] at hk; cases hk
  ·exact .inl hk
 have he := Ma hc (2 * f.code.length) _ q1 (by omega)
 rcases aAb hc (2 * f.code.length) _ q1 c0 with h | h
 ·have : (bN f).bad = true := h
  rw [this] at hb; cases hb
 ·rcases h k hk with h | h
  ·exfalso
   have hg : cP (bN f) = false := he
   have hm : (k : Int) ∈ (bN f).todo := h
   have : 0 < (bN f).todo.length := List.length_pos_of_mem hm
   simp [cP, hb] at hg
   rw [hg] at hm; cases hm
  ·exact h
def Wts (W : WT) : Prop := ∀ t ∈ W.todo, W.seen.getD t.toNat false = true
theorem oS {f : FnT} {n : Int} {l : List (Int × Int)} {W : WT} (hi : Wiv f W) (hn : 0 ≤ n) (h : Wts W) : Wts (aZ f n l W) := by
 intro t ht
 unfold aZ at ht ⊢
 split at ht
 ·rename_i hb; rw [if_pos hb]; exact h t ht
 ·rename_i hb
  rw [if_neg hb]
  have h1 := hi.seen
  split at ht
  ·rename_i hs
   rw [if_pos hs]
   rcases List.mem_append.1 ht with ht | ht
   ·have hne : n.toNat ≠ t.toNat := fun e => by have := h t ht; rw [← e, hs] at this; cases this
    dsimp only; rw [gG hne]; exact h t ht
   ·simp at ht; subst ht
    exact fA (by omega)
  ·rename_i hs
   rw [if_neg hs]
   split at ht
   ·rename_i ho; rw [if_pos ho]; exact h t ht
   ·rename_i ho; rw [if_neg ho]; exact h t ht
theorem aD0 {f : FnT} {n : Int} {W : WT} (hi : Wiv f W) (hc : Cok f) (hn : 0 ≤ n) (h : Wts W) : Wts (bW f n W) := by
 have hx : f.code.getD n.toNat ins0 = ins0 ∨ f.code.getD n.toNat ins0 ∈ f.code := by
  cases hg : f.code[n.toNat]? with
  | none => left; simp [List.getD, hg]
  | some i => right; simp only [List.getD, hg, Option.getD_some]; exact List.mem_of_getElem? hg
 unfold bW
 generalize f.code.getD n.toNat ins0 = i at hx
 generalize W.out.getD n.toNat [] = l
 have hA : i.op = 13 ∨ i.op = 14 → 0 ≤ i.a := fun ho => hx.elim (fun h => by rw [h] at ho; rcases ho with ho | ho <;> cases ho) (fun h => hc.a i h ho)
 have hB : i.op = 15 ∨ i.op = 30 → 0 ≤ i.b := fun ho => hx.elim (fun h => by rw [h] at ho; rcases ho with ho | ho <;> cases ho) (fun h => hc.b i h ho)
 dsimp only
 split
 ·exact h
 ·split
  ·rename_i ho; exact oS hi (hA ho) h
  ·split
   ·rename_i ho; exact oS (cO hi (hB (.inl ho))).1 (by omega) (oS hi (hB (.inl ho)) h)
   ·split
    ·rename_i ho; exact oS (cO hi (hB (.inr ho))).1 (by omega) (oS hi (hB (.inr ho)) h)
    ·split
     ·split
      ·exact h
      ·exact oS hi (by omega) h
     ·exact oS hi (by omega) h
theorem aAh {W : WT} (h0 : 0 < W.todo.length) : jP W ∈ W.todo := by
 unfold jP
 have hlt : W.todo.length - 1 < W.todo.length := by omega
 simp only [List.getD, List.getElem?_eq_getElem hlt, Option.getD_some]
 exact List.getElem_mem hlt
theorem aGx {f : FnT} {W : WT} (hi : Wiv f W) (hc : Cok f) (hg : cP W = true) (h : Wts W) : Wts (dT f W) := by
 have h0 : 0 < W.todo.length := by simp [cP] at hg; exact hg.1
 obtain ⟨q1, q2, q3, q4⟩ := qK hi h0
 exact aD0 q1 hc q3 fun t ht => h t (List.mem_of_mem_take ht)
section
variable {f0 : FnT} {rest : List FnT} {cs : List (Int × Int)} {ts : List ByteArray} {k : Nat}
end
def Inn (f : FnT) (W V : WT) : Prop := W.bad = false ∧ ∀ t l, To f W t l → To f V t l
theorem mK {f : FnT} {n : Int} {l : List (Int × Int)} {W V : WT} (hi : Wiv f W) (h : Inn f W V) (ht : To f V n l) : Inn f (aZ f n l W) V := by
 obtain ⟨h1, h2⟩ := h
 have s1 := hi.seen
 have s2 := hi.out
 have t1 := ht.lo; have t2 := ht.hi; have t3 := ht.few
 unfold aZ
 rw [if_neg (by omega)]
 split
 ·refine ⟨h1, fun t l' hT => ?_⟩
  obtain ⟨a1, a2, a3, a4, a5⟩ := hT
  by_cases e : n.toNat = t.toNat
  ·have e' : n = t := by omega
   subst e'
   have : (W.out.set n.toNat l).getD n.toNat [] = l := fA (by omega)
   dsimp only at a5
   rw [this] at a5; subst a5; exact ht
  ·dsimp only at a4 a5
   rw [gG e] at a4 a5
   exact h2 t l' ⟨a1, a2, a3, a4, a5⟩
 ·rename_i hs
  have hs' : W.seen.getD n.toNat false = true := by simpa using hs
  have hx := qN hi hs'
  have e : ((n.toNat : Nat) : Int) = n := by omega
  rw [e] at hx
  have := (h2 _ _ hx).out
  rw [ht.out] at this
  rw [if_pos this.symm]
  exact ⟨h1, h2⟩
def Clo (f : FnT) (V : WT) : Prop := To f V 0 [] ∧ ∀ t l, To f V t l → closed f V t l
theorem Pw {f : FnT} {n : Int} {W V : WT} (hi : Wiv f W) (h : Inn f W V) (hc : closed f V n (W.out.getD n.toNat [])) : Inn f (bW f n W) V := by
 unfold closed at hc
 unfold bW
 dsimp only at hc ⊢
 split at hc
 ·rename_i e; rw [if_pos e]; exact h
 rename_i e; rw [if_neg e]
 split at hc
 ·rename_i e; rw [if_pos e]; exact mK hi h hc
 rename_i e; rw [if_neg e]
 split at hc
 ·rename_i e; rw [if_pos e]
  exact mK (cO hi hc.1.lo).1 (mK hi h hc.1) hc.2
 rename_i e; rw [if_neg e]
 split at hc
 ·rename_i e; rw [if_pos e]
  exact mK (cO hi hc.1.lo).1 (mK hi h hc.1) hc.2
 rename_i e; rw [if_neg e]
 split at hc
 ·rename_i e; rw [if_pos e, if_neg hc.1]; exact mK hi h hc.2
 ·rename_i e; rw [if_neg e]; exact mK hi h hc
theorem Zi {f : FnT} (hk : Cok f) {V : WT} (hV : Clo f V) : ∀ (k : Nat) (W : WT), Wiv f W → Wts W → Inn f W V → Inn f (runW f k W) V
 | 0, W, _, _, h => h
 | k + 1, W, hi, ht, h => by
  show Inn f (if cP W = true then runW f k (dT f W) else W) V
  split
  ·rename_i hg
   have h0 : 0 < W.todo.length := by simp [cP] at hg; exact hg.1
   obtain ⟨q1, q2, q3, q4⟩ := qK hi h0
   have hs := ht _ (aAh h0)
   have hT := qN hi hs
   have e : (((jP W).toNat : Nat) : Int) = jP W := by omega
   rw [e] at hT
   have hP : Inn f (popW W) V := ⟨h.1, fun t l ⟨a, b, c, d, e⟩ => h.2 t l ⟨a, b, c, d, e⟩⟩
   exact Zi hk hV k _ (jJ hi hk hg).1 (aGx hi hk hg ht) (Pw q1 hP (hV.2 _ _ (h.2 _ _ hT)))
  ·exact h
theorem Rf {f : FnT} (hk : Cok f) {V : WT} (hV : Clo f V) : Inn f (bN f) V := by
 unfold bN
 refine Zi hk hV _ _ (kY hk).1 (oS (jR f).1 (Int.le_refl 0) fun t ht => by cases ht) (mK (jR f).1 ⟨rfl, fun t l hT => ?_⟩ hV.1)
 have := hT.seen
 simp [W0, List.getD, List.getElem?_replicate] at this
 exfalso; split at this <;> cases this
theorem aBa {f : FnT} (hk : Cok f) {t : Int} {l : List (Int × Int)} : ∀ (k : Nat) (W : WT), Wiv f W → To f W t l → To f (runW f k W) t l
 | 0, W, _, h => h
 | k + 1, W, hi, h => by
  show To f (if cP W = true then runW f k (dT f W) else W) t l
  split
  ·rename_i hg
   have h0 : 0 < W.todo.length := by simp [cP] at hg; exact hg.1
   obtain ⟨q1, q2, q3, q4⟩ := qK hi h0
   obtain ⟨a, b, c, d, e⟩ := h
   exact aBa hk k _ (jJ hi hk hg).1 ((wP q1 hk q3).keeps _ _ ⟨a, b, c, d, e⟩)
  ·exact h
theorem Ye {f : FnT} (hk : Cok f) (hb : (bN f).bad = false) (h0 : 0 < f.code.length) : Clo f (bN f) := by
 have iv := zS hk
 refine ⟨?_, fun t l hT => ?_⟩
 ·refine aBa hk _ _ (kY hk).1 (oZ (jR f).1 (Int.le_refl 0) ?_)
  unfold aZ
  rw [if_neg (by simp only [List.length_nil]; omega), if_pos (by simp [W0, List.getD, List.getElem?_replicate, h0])]
  rfl
 ·have e : ((t.toNat : Nat) : Int) = t := by have := hT.lo; omega
  have := Me hk hb (k := t.toNat) hT.seen
  rw [e] at this
  rw [← hT.out]; exact this
def cF (f : FnT) : Nat → WT → WT
 | 0, W => W
 | n + 1, W => if (cF f n W).bad = true then cF f n W else if (cF f n W).seen.getD n false = true then bW f n (cF f n W) else cF f n W
def fF (W : WT) : WT := ⟨W.seen, W.out, [], W.bad⟩
theorem kT {f : FnT} {n : Int} {l : List (Int × Int)} {W : WT} (hb : (aZ f n l W).bad = false) (ht : (aZ f n l W).todo = []) : aZ f n l W = W := by
 unfold aZ at hb ht ⊢
 split at hb
 ·cases hb
 ·rename_i h1
  rw [if_neg h1] at ht ⊢
  split at hb
  ·rename_i h2
   rw [if_pos h2] at ht; simp at ht
  ·rename_i h2
   rw [if_neg h2] at ht ⊢
   split at hb
   ·rename_i h3; rw [if_pos h3]
   ·cases hb
theorem Uy {f : FnT} {n : Int} {W : WT} (hb : (bW f n W).bad = false) (ht : (bW f n W).todo = []) : bW f n W = W := by
 unfold bW at hb ht ⊢
 dsimp only at hb ht ⊢
 split at hb
 ·rename_i e; rw [if_pos e]
 rename_i e; rw [if_neg e] at ht ⊢
 split at hb
 ·rename_i e; rw [if_pos e] at ht ⊢; exact kT hb ht
 rename_i e; rw [if_neg e] at ht ⊢
 split at hb
 ·rename_i e; rw [if_pos e] at ht ⊢
  have h1 := kT hb ht
  rw [h1] at hb ht ⊢
  exact kT hb ht
 rename_i e; rw [if_neg e] at ht ⊢
 split at hb
 ·rename_i e; rw [if_pos e] at ht ⊢
  have h1 := kT hb ht
  rw [h1] at hb ht ⊢
  exact kT hb ht
 rename_i e; rw [if_neg e] at ht ⊢
 split at hb
 ·rename_i e; rw [if_pos e] at ht ⊢
  split at hb
  ·cases hb
  ·rename_i e; rw [if_neg e] at ht ⊢; exact kT hb ht
 ·rename_i e; rw [if_neg e] at ht ⊢; exact kT hb ht
theorem mO {f : FnT} (hk : Cok f) : ∀ (n : Nat) (W : WT), Wiv f W → Wiv f (cF f n W)
 | 0, W, h => h
 | n + 1, W, h => by
  have ih := mO hk n W h
  unfold cF
  split
  ·exact ih
  ·split
   ·exact (Is ih hk (by omega)).1
   ·exact ih
theorem Qv {f : FnT} (hk : Cok f) {V : WT} (hV : Clo f V) : ∀ (n : Nat) (W : WT), Wiv f W → Inn f W V → Inn f (cF f n W) V
 | 0, W, _, h => h
 | n + 1, W, hi, h => by
  have ih := Qv hk hV n W hi h
  have iv := mO hk n W hi
  unfold cF
  split
  ·exact ih
  ·split
   ·rename_i hs
    exact Pw iv ih (hV.2 _ _ (ih.2 _ _ (qN iv hs)))
   ·exact ih
theorem tH {f : FnT} (hk : Cok f) : ∀ (n : Nat) (W : WT), Wiv f W → (cF f n W).bad = false → (cF f n W).todo = [] → cF f n W = W ∧ ∀ k, k < n → W.seen.getD k false = true → bW f k W = W
 | 0, W, _, _, _ => ⟨rfl, fun k hk => by omega⟩
 | n + 1, W, hi, hb, ht => by
  have iv := mO hk n W hi
  have e : cF f (n + 1) W = if (cF f n W).bad = true then cF f n W else if (cF f n W).seen.getD n false = true then bW f n (cF f n W) else cF f n W := rfl
  rw [e] at hb ht ⊢
  split at hb
  ·rename_i h; rw [h] at hb; cases hb
  rename_i h1
  rw [if_neg h1] at ht ⊢
  split at hb
  ·rename_i h2
   rw [if_pos h2] at ht ⊢
   have h3 := Uy hb ht
   rw [h3] at hb ht ⊢
   obtain ⟨i1, i2⟩ := tH hk n W hi hb ht
   refine ⟨i1, fun k hk' hs => ?_⟩
   rcases Nat.lt_succ_iff_lt_or_eq.1 hk' with h | h
   ·exact i2 k h hs
   ·subst h; rw [i1] at h3; exact h3
  ·rename_i h2
   rw [if_neg h2] at ht ⊢
   obtain ⟨i1, i2⟩ := tH hk n W hi hb ht
   refine ⟨i1, fun k hk' hs => ?_⟩
   rcases Nat.lt_succ_iff_lt_or_eq.1 hk' with h | h
   ·exact i2 k h hs
   ·subst h; rw [i1] at h2; exact (h2 hs).elim
theorem aAg {f : FnT} (hk : Cok f) {W : WT} (hi : Wiv f W) (h0 : To f W 0 []) (hb : (cF f f.code.length W).bad = false) (ht : (cF f f.code.length W).todo = []) : Clo f W := by
 obtain ⟨e1, e2⟩ := tH hk _ W hi hb ht
 rw [e1] at hb
 refine ⟨h0, fun t l hT => ?_⟩
 have e : ((t.toNat : Nat) : Int) = t := by have := hT.lo; omega
 have h3 := e2 t.toNat (by have := hT.hi; have := hT.lo; omega) hT.seen
 have h4 := (wP hi hk (n := (t.toNat : Nat)) (by omega)).closed (by rw [h3]; exact hb)
 rw [h3, e] at h4
 rw [← hT.out]; exact h4
def lN (f : FnT) : Nat → WT → WT
 | 0, W => W
 | k + 1, W => if W.bad = true ∨ W.todo = [] then W else lN f k (cF f f.code.length (fF W))
def nuW (W : WT) : Nat := 2 * cntF W.seen + (if W.todo = [] then 0 else 1)
theorem pU {f : FnT} {W : WT} (h : W.bad = true ∨ W.todo = []) : ∀ k, lN f k W = W
 | 0 => rfl
 | k + 1 => by unfold lN; rw [if_pos h]
theorem vP {f : FnT} {W : WT} {t : Int} {l : List (Int × Int)} : To f (fF W) t l ↔ To f W t l := ⟨fun ⟨a, b, c, d, e⟩ => ⟨a, b, c, d, e⟩, fun ⟨a, b, c, d, e⟩ => ⟨a, b, c, d, e⟩⟩
theorem nL {f : FnT} {W : WT} (h : Wiv f W) : Wiv f (fF W) := ⟨h.seen, h.out, by have := h.todo; simp only [fF, List.length_nil]; omega, (fun t ht => by simp [fF] at ht), h.outs⟩
theorem Ru {f : FnT} (hk : Cok f) : ∀ (n : Nat) (W : WT), Wiv f W → muW (cF f n W) ≤ muW W
 | 0, W, h => Nat.le_refl _
 | n + 1, W, h => by
  have ih := Ru hk n W h
  have iv := mO hk n W h
  unfold cF
  split
  ·exact ih
  ·split
   ·exact Nat.le_trans (Is iv hk (by omega)).2 ih
   ·exact ih
theorem Hv {f : FnT} (hk : Cok f) {t : Int} {l : List (Int × Int)} : ∀ (n : Nat) (W : WT), Wiv f W → To f W t l → To f (cF f n W) t l
 | 0, W, _, h => h
 | n + 1, W, hi, h => by
  have ih := Hv hk n W hi h
  have iv := mO hk n W hi
  unfold cF
  split
  ·exact ih
  ·split
   ·exact (wP iv hk (by omega)).keeps _ _ ih
   ·exact ih
theorem Hh {f : FnT} (hk : Cok f) {W : WT} (hi : Wiv f W) (ht : W.todo ≠ []) : nuW (cF f f.code.length (fF W)) < nuW W := by
 have h := Ru hk f.code.length _ (nL hi)
 have e : muW (fF W) = 2 * cntF W.seen := by simp [muW, fF]
 rw [e] at h
 unfold nuW
 rw [if_neg ht]
 unfold muW at h
 split
 ·omega
 ·rename_i h1
  have := List.length_pos_iff.2 h1
  omega
theorem Sy {f : FnT} (hk : Cok f) {V : WT} (hV : Clo f V) : ∀ (k : Nat) (W : WT), Wiv f W → Inn f W V → Inn f (lN f k W) V
 | 0, W, _, h => h
 | k + 1, W, hi, h => by
  unfold lN
  split
  ·exact h
  ·exact Sy hk hV k _ (mO hk _ _ (nL hi)) (Qv hk hV _ _ (nL hi) ⟨h.1, fun t l hT => h.2 t l (vP.1 hT)⟩)
theorem Ra {f : FnT} (hk : Cok f) : ∀ (k : Nat) (W : WT), Wiv f W → Wiv f (lN f k W)
 | 0, W, h => h
 | k + 1, W, h => by
  unfold lN
  split
  ·exact h
  ·exact Ra hk k _ (mO hk _ _ (nL h))
theorem Mn {f : FnT} (hk : Cok f) : ∀ (k : Nat) (W : WT), Wiv f W → To f W 0 [] → W.todo ≠ [] → nuW W ≤ k → (lN f k W).bad = true ∨ Clo f (lN f k W)
 | 0, W, _, _, ht, hn => by unfold nuW at hn; rw [if_neg ht] at hn; omega
 | k + 1, W, hi, h0, ht, hn => by
  by_cases hb : W.bad = true
  ·left; rw [pU (.inl hb)]; exact hb
  have e : lN f (k + 1) W = lN f k (cF f f.code.length (fF W)) := by
   show (if W.bad = true ∨ W.todo = [] then W else _) = _
   rw [if_neg (fun h => h.elim hb ht)]
  rw [e]
  have hf := nL hi
  have hp := mO hk f.code.length _ hf
  have hT := Hv hk f.code.length _ hf (vP.2 h0)
  by_cases hpb : (cF f f.code.length (fF W)).bad = true
  ·left; rw [pU (.inl hpb)]; exact hpb
  by_cases hpt : (cF f f.code.length (fF W)).todo = []
  ·right
   rw [pU (.inr hpt)]
   have := aAg hk hf (vP.2 h0) (by simpa using hpb) hpt
   rw [(tH hk _ _ hf (by simpa using hpb) hpt).1]; exact this
  ·exact Mn hk k _ hp hT hpt (by have := Hh hk hi ht; omega)
def docW (f : FnT) : WT := lN f (2 * f.code.length + 2) (aZ f 0 [] (W0 f))
theorem mV {f : FnT} (h0 : 0 < f.code.length) : aZ f 0 [] (W0 f) = ⟨(W0 f).seen.set 0 true, (W0 f).out.set 0 [], [0], false⟩ := by
 unfold aZ
 rw [if_neg (by simp only [List.length_nil]; omega), if_pos (by simp [W0, List.getD, List.getElem?_replicate, h0])]
 rfl
theorem Sl {f : FnT} (hk : Cok f) (h0 : 0 < f.code.length) : (docW f).bad = true ∨ Clo f (docW f) := by
 have hi := (cO (n := 0) (l := []) (jR f).1 (Int.le_refl 0))
 refine Mn hk _ _ hi.1 (oZ (jR f).1 (Int.le_refl 0) (by rw [mV h0])) (by rw [mV h0]; simp) ?_
 have h1 := hi.2
 rw [(jR f).2] at h1
 unfold muW at h1
 unfold nuW
 split <;> omega
theorem Lg {f : FnT} (hk : Cok f) (h0 : 0 < f.code.length) : (docW f).bad = (bN f).bad ∧ ((bN f).bad = false → ∀ t l, To f (docW f) t l ↔ To f (bN f) t l) := by
 cases hb : (bN f).bad with
 | false =>
  have hV := Ye hk hb h0
  have hi := (cO (n := 0) (l := []) (jR f).1 (Int.le_refl 0)).1
  have hin : Inn f (docW f) (bN f) := Sy hk hV _ _ hi (mK (jR f).1 ⟨rfl, fun t l hT => by
   have := hT.seen
   simp [W0, List.getD, List.getElem?_replicate] at this
   exfalso; split at this <;> cases this⟩ hV.1)
  refine ⟨hin.1, fun _ t l => ⟨hin.2 t l, ?_⟩⟩
  rcases Sl hk h0 with h | h
  ·rw [hin.1] at h; cases h
  ·exact (Rf hk h).2 t l
 | true =>
  refine ⟨?_, fun h => by cases h⟩
  rcases Sl hk h0 with h | h
  ·exact h
  ·have := (Rf hk h).1
   rw [hb] at this; cases this
theorem Ov (n lo hi : Int) : FC Cx 34 [Iv n, Iv lo, Iv hi] [] (Bv (decide (lo ≤ n ∧ n ≤ hi))) [] := by
 refine aD [] Tryz.func34 Tryz.ntmps34 Tryz.results34 ?_
 (any_goals refine go lv34 0 ?_)
 all_goals (try simp only [go_sem])
 all_goals simp_all
 all_goals omega
def oN (args : List AV) (K : AV → Prop) : Prop := match args with
 | [.r (.v (.int .i64 n)), .r (.v (.int .i64 lo)), .r (.v (.int .i64 hi))] => K (Bv (decide (lo ≤ n ∧ n ≤ hi)))
 | _ => False
noncomputable abbrev aU : Ct Cx := .pure 34 oN fun args K h => by
 unfold oN at h; split at h; exact ⟨_, aA (Ov _ _ _) en34 rfl rfl, h⟩; exact h.elim
@[go_sem] theorem aCe : type_of% @oN.eq_def := @oN.eq_def
theorem Nf (k n : Int) : FC Cx 132 [VV k n] [] (Fv (fl n)) [] := by
 refine aD [zA] Tryz.func132 Tryz.ntmps132 Tryz.results132 ?_
 (any_goals refine go aW8 0 ?_)
 all_goals (try simp only [go_sem])
 rfl
def nW (args : List AV) (K : AV → Prop) : Prop := match args with
 | [.agg [.r (.v (.int .i64 k)), .r (.v (.int .i64 n))]] => K (Fv (fl n))
 | _ => False
noncomputable abbrev Ld : Ct Cx := .pure 132 nW fun args K h => by
 unfold nW at h; split at h; exact ⟨_, aA (Nf _ _) aRq rfl rfl, h⟩; exact h.elim
@[go_sem] theorem aBo : type_of% @nW.eq_def := @nW.eq_def
theorem aE6 (b : Nat) : FC Cx 131 [Fv b] [] (Bv (!yQ b)) [] := by
 refine aD [] Tryz.func131 Tryz.ntmps131 Tryz.results131 ?_
 (any_goals refine go aIp 0 ?_)
 all_goals (try simp only [go_sem])
 all_goals rfl
theorem Oy : FC Cx 131 [.r .nan] [] (Bv true) [] := by
 refine aD [] Tryz.func131 Tryz.ntmps131 Tryz.results131 ?_
 (any_goals refine go aIp 0 ?_)
 all_goals (try simp only [go_sem])
 all_goals rfl
def nanV : AV → Bool
 | .r (.v (.float .f64 b)) => !yQ b
 | _ => true
@[go_sem] theorem aYu (b : Nat) : nanV (Fv b) = !yQ b := rfl
theorem Xn (x : AV) (h : isF x = true) : FC Cx 131 [x] [] (Bv (nanV x)) [] := by
 unfold isF at h
 split at h
 ·exact aE6 _
 ·exact Oy
 ·cases h
def sP (args : List AV) (K : AV → Prop) : Prop := match args with
 | [x] => isF x = true ∧ K (Bv (nanV x))
 | _ => False
theorem Lz (args : List AV) (K : AV → Prop) (h : sP args K) : ∃ r, aQ Cx 131 args r ∧ K r := by
 unfold sP at h
 split at h
 ·rename_i x
  refine ⟨_, aA (Xn x h.1) aWs ?_ rfl, h.2⟩
  have := h.1
  unfold isF at this
  split at this
  ·rfl
  ·rfl
  ·cases this
 ·exact h.elim
noncomputable def Cv : Ct Cx := .pure 131 sP Lz
@[go_sem] theorem aNm : Cv.g = 131 := rfl
@[go_sem] theorem aE8 (c : Call) (fop : Operand) (caps : List AV) (o : Oper) (st : St) (K : List Loc → List (Loc × Cont) → Prop) : Cv.run c fop caps o st K = vY Cx sP c fop caps o st K := rfl
@[go_sem] theorem aJr (args : List AV) (K : AV → Prop) : sP args K = (match args with
  | [x] => isF x = true ∧ K (Bv (nanV x))
  | _ => False) := rfl
theorem Wq (k n : Int) : FC Cx 73 [VV k n] [] (Bv (fV k n)) [] := by
 refine aD [aU, Ld, Cv] Tryz.func73 Tryz.ntmps73 Tryz.results73 ?_
 (any_goals refine go lv73 0 ?_)
 repeat' (first | (refine Br.go (fun h h' => ?_) (fun h h' => ?_)) | (refine Br.mk (fun h => ?_) (fun h => ?_)))
 all_goals (try simp only [go_sem])
 all_goals (simp only [fV]; simp_all)
 all_goals first | omega | (rw [Bool.eq_iff_iff]; simp; omega)
def tL (args : List AV) (K : AV → Prop) : Prop := match args with
 | [.agg [.r (.v (.int .i64 k)), .r (.v (.int .i64 n))]] => K (Bv (fV k n))
 | _ => False
noncomputable abbrev mX : Ct Cx := .pure 73 tL fun args K h => by
 unfold tL at h; split at h; exact ⟨_, aA (Wq _ _) en73 rfl rfl, h⟩; exact h.elim
@[go_sem] theorem aGu : type_of% @tL.eq_def := @tL.eq_def
def aFi : List ByteArray := [⟨#[]⟩, ⟨#[114, 107, 46]⟩, ⟨#[114, 114, 46]⟩, ⟨#[114, 114, 114]⟩, ⟨#[114, 114, 114]⟩, ⟨#[114, 114, 114]⟩, ⟨#[114, 114, 114]⟩, ⟨#[114, 114, 114]⟩, ⟨#[114, 114, 114]⟩, ⟨#[114, 114, 114]⟩, ⟨#[114, 114, 114]⟩, ⟨#[114, 114, 46]⟩, ⟨#[114, 114, 46]⟩, ⟨#[112, 46, 46]⟩, ⟨#[112, 46, 46]⟩, ⟨#[114, 112, 46]⟩, ⟨#[114, 46, 46]⟩, ⟨#[114, 114, 116]⟩, ⟨#[114, 116, 114]⟩, ⟨#[114, 108, 110]⟩, ⟨#[114, 114, 114]⟩, ⟨#[114, 114, 114]⟩, ⟨#[114, 46, 46]⟩, ⟨#[114, 114, 46]⟩, ⟨#[114, 114, 46]⟩, ⟨#[114, 117, 46]⟩, ⟨#[114, 102, 46]⟩, ⟨#[114, 114, 110]⟩, ⟨#[114, 46, 46]⟩, ⟨#[114, 46, 46]⟩, ⟨#[114, 112, 46]⟩, ⟨#[46, 46, 46]⟩, ⟨#[114, 114, 46]⟩, ⟨#[114, 46, 46]⟩, ⟨#[114, 46, 46]⟩, ⟨#[114, 114, 46]⟩, ⟨#[114, 114, 46]⟩, ⟨#[114, 46, 46]⟩, ⟨#[114, 46, 46]⟩]
def aL (op : Int) : ByteArray := if op < 1 ∨ 39 ≤ op then ⟨#[]⟩ else aFi.getD op.toNat ⟨#[]⟩
theorem yZ {op : Int} (h : ¬ (op < 1 ∨ 39 ≤ op)) : (aL op).size = 3 := by
 rcases ors h with rfl | rfl | rfl | rfl | rfl | rfl | rfl | rfl | rfl | rfl | rfl | rfl | rfl | rfl | rfl | rfl | rfl | rfl | rfl | rfl | rfl | rfl | rfl | rfl | rfl | rfl | rfl | rfl | rfl | rfl | rfl | rfl | rfl | rfl | rfl | rfl | rfl | rfl <;> rfl
theorem aHt (op : Int) : FC Cx 133 [Iv op] [] (Sv (aL op)) [] := by
 refine aD [] Tryz.func133 Tryz.ntmps133 Tryz.results133 ?_
 (any_goals refine go aTx 0 ?_)
 repeat' (first | (refine Br.go (fun h h' => ?_) (fun h h' => ?_)) | (refine Br.mk (fun h => ?_) (fun h => ?_)))
 all_goals (try simp only [go_sem])
 all_goals (first | (subst h'; rfl) | (have hx : op < 1 ∨ 39 ≤ op := (by omega); exact congrArg Sv (if_pos hx).symm) | trace_state)
def wU (args : List AV) (K : AV → Prop) : Prop := match args with
 | [.r (.v (.int .i64 op))] => K (Sv (aL op))
 | _ => False
noncomputable abbrev fO : Ct Cx := .pure 133 wU fun args K h => by
 unfold wU at h; split at h; exact ⟨_, aA (aHt _) aTi rfl rfl, h⟩; exact h.elim
@[go_sem] theorem aIt : type_of% @wU.eq_def := @wU.eq_def
def bL (p : aI) (f : FnT) (c : Int) : Int :=
 if c = 114 then f.regs else if c = 107 then p.consts.length else if c = 116 then p.texts.length else if c = 112 then f.code.length else
 if c = 117 then f.caught.length else if c = 102 then p.fns.length else if c = 108 ∨ c = 110 then f.regs + 1 else 1
theorem aLu (p : aI) (f : FnT) (c : Int) (hf : Fok f) (hp : Psz p) : FC Cx 134 [bC p, fnA f, .r (.v (.int .u8 c))] [] (Iv (bL p f c)) [] := by
 have hw : IntKind.i64.wrap (f.regs + 1) = f.regs + 1 := by have := hf.regs; rw [aN] <;> omega
 have hl1 : (p.consts.map valR).length = p.consts.length := List.length_map ..
 have hl2 : (f.caught.map intR).length = f.caught.length := List.length_map ..
 have hl3 : (p.fns.map fnR).length = p.fns.length := List.length_map ..
 have hl4 : (p.texts.map strR).length = p.texts.length := List.length_map ..
 have hl5 : (f.code.map insR).length = f.code.length := List.length_map ..
 refine aD [] Tryz.func134 Tryz.ntmps134 Tryz.results134 ?_
 refine goR ?_
 refine fzB 3 ?_
 refine fzB 4 ?_
 (any_goals refine go aXi 0 ?_)
 repeat' (first | (refine Br.go (fun h h' => ?_) (fun h h' => ?_)) | (refine Br.mk (fun h => ?_) (fun h => ?_)))
 all_goals (try simp only [go_sem])
 all_goals (simp_all [bL])
theorem aF2 (xs ys zs : List (List RV)) (pa rg : Int) (ge : Bool) (us vs : List (List RV)) (c : Int) (h : ((xs = (fnsOf xs).map fnR ∧ ys = (valsOf ys).map valR ∧ zs = (strsOf zs).map strR) ∧ us = (aK us).map intR ∧ vs = (aS vs).map insR) ∧ Fok ⟨pa, rg, ge, aK us, aS vs⟩ ∧ Psz ⟨fnsOf xs, valsOf ys, strsOf zs⟩) : FC Cx 134 [.agg [.r (.rs 5 xs), .r (.rs 2 ys), .r (.rs 1 zs)], .agg [Iv pa, Iv rg, Bv ge, .r (.rs 1 us), .r (.rs 5 vs)], .r (.v (.int .u8 c))] [] (Iv (bL ⟨fnsOf xs, valsOf ys, strsOf zs⟩ ⟨pa, rg, ge, aK us, aS vs⟩ c)) [] := by
 have := aLu ⟨fnsOf xs, valsOf ys, strsOf zs⟩ ⟨pa, rg, ge, aK us, aS vs⟩ c h.2.1 h.2.2
 rwa [kA h.1.1, Eg h.1.2] at this
def wT (args : List AV) (K : AV → Prop) : Prop := match args with
 | [.agg [.r (.rs 5 xs), .r (.rs 2 ys), .r (.rs 1 zs)], .agg [.r (.v (.int .i64 pa)), .r (.v (.int .i64 rg)), .r (.v (.bool ge)), .r (.rs 1 us), .r (.rs 5 vs)], .r (.v (.int .u8 c))] => (((xs = (fnsOf xs).map fnR ∧ ys = (valsOf ys).map valR ∧ zs = (strsOf zs).map strR) ∧ us = (aK us).map intR ∧ vs = (aS vs).map insR) ∧ Fok ⟨pa, rg, ge, aK us, aS vs⟩ ∧ Psz ⟨fnsOf xs, valsOf ys, strsOf zs⟩) ∧ K (Iv (bL ⟨fnsOf xs, valsOf ys, strsOf zs⟩ ⟨pa, rg, ge, aK us, aS vs⟩ c))
 | _ => False
noncomputable abbrev fN : Ct Cx := .pure 134 wT fun args K h => by
 unfold wT at h; split at h; exact ⟨_, aA (aF2 _ _ _ _ _ _ _ _ _ h.1) aSc rfl rfl, h.2⟩; exact h.elim
@[go_sem] theorem aJo : type_of% @wT.eq_def := @wT.eq_def
theorem aNs (l m : List (Int × Int)) (hl : l.length ≤ 9223372036854775807) : FC Cx 135 [cM l, cM m] [] (Bv (decide (l = m))) [] := by
 have hlen : (l.map tryR).length = l.length := List.length_map ..
 have hlen' : (m.map tryR).length = m.length := List.length_map ..
 refine aD [] Tryz.func135 Tryz.ntmps135 Tryz.results135 ?_
 (any_goals refine go aBf 0 ?_)
 repeat' (first | (refine Br.go (fun h h' => ?_) (fun h h' => ?_)) | (refine Br.mk (fun h => ?_) (fun h => ?_)))
 ·simp only [go_sem]
  have : l ≠ m := fun he => h' (by rw [he])
  simp [this]
 have hlm : l.length = m.length := by omega
 refine eB [0, 1, 12, 13] (fun i => i ≤ l.length ∧ ∀ j, j < i → l[j]? = m[j]?) (fun (i : Nat) => ⟨26, [(0, cM l), (1, cM m), (12, Iv m.length), (13, Iv i)], []⟩) (fun i => l.length - i) 0 rfl rfl rfl ⟨Nat.zero_le _, fun j hj => by omega⟩ ?_
 rintro i ⟨hi, hno⟩
 by_cases hlt : i < l.length
 ·obtain ⟨x, hx⟩ : ∃ x, l[i]? = some x := ⟨l[i], List.getElem?_eq_getElem hlt⟩
  obtain ⟨y, hy⟩ : ∃ y, m[i]? = some y := ⟨m[i], List.getElem?_eq_getElem (by omega)⟩
  have hg := aE tryR hx ([] : List RV)
  have hg' := aE tryR hy ([] : List RV)
  have hw : IntKind.i64.wrap ((i : Int) + 1) = ((i + 1 : Nat) : Int) := by rw [aN] <;> omega
  have h1 : decide ((i : Int) < (m.length : Int)) = true := by rw [decide_eq_true_eq]; omega
  have h2 : Int.toNat (i : Int) = i := by omega
  (any_goals refine go aBf 0 ?_)
  repeat' (first | (refine Br.go (fun h h' => ?_) (fun h h' => ?_)) | (refine Br.mk (fun h => ?_) (fun h => ?_)))
  all_goals (try simp only [go_sem])
  ·have h9 := h
   have : l ≠ m := fun he => by
    rw [he] at hx; rw [hx] at hy
    have := Option.some.inj hy
    subst this
    simp at h9
   simp [this]
  ·refine ⟨i + 1, ⟨by omega, fun j hj => ?_⟩, by omega, fI [0, 1, 12, 13] rfl rfl rfl⟩
   rcases Nat.lt_succ_iff_lt_or_eq.1 hj with h3 | h3
   ·exact hno j h3
   ·rw [h3, hx, hy]; exact congrArg some (by first | exact h' | exact Prod.ext h'.1 h'.2 | (cases x; cases y; simp_all))
 ·have h1 : decide ((i : Int) < (m.length : Int)) = false := by rw [decide_eq_false_iff_not]; omega
  (any_goals refine go aBf 0 ?_)
  all_goals (try simp only [go_sem])
  have : l = m := List.ext_getElem? fun j => by
   by_cases hj : j < i
   ·exact hno j hj
   ·rw [List.getElem?_eq_none (by omega), List.getElem?_eq_none (by omega)]
  simp [this]
theorem aHj (xs ys : List (List RV)) (h : xs = (triesOf xs).map tryR ∧ ys = (triesOf ys).map tryR ∧ xs.length ≤ 9223372036854775807) : FC Cx 135 [.r (.rs 2 xs), .r (.rs 2 ys)] [] (Bv (decide (triesOf xs = triesOf ys))) [] := by
 have := aNs (triesOf xs) (triesOf ys) (by simpa [triesOf] using h.2.2)
 rwa [iP h.1, iP h.2.1] at this
def wN (args : List AV) (K : AV → Prop) : Prop := match args with
 | [.r (.rs 2 xs), .r (.rs 2 ys)] => (xs = (triesOf xs).map tryR ∧ ys = (triesOf ys).map tryR ∧ xs.length ≤ 9223372036854775807) ∧ K (Bv (decide (triesOf xs = triesOf ys)))
 | _ => False
noncomputable abbrev jF : Ct Cx := .pure 135 wN fun args K h => by
 unfold wN at h; split at h; exact ⟨_, aA (aHj _ _ h.1) aWc rfl rfl, h.2⟩; exact h.elim
@[go_sem] theorem aJd : type_of% @wN.eq_def := @wN.eq_def
theorem aXa (p : aI) (f : FnT) (n op a b c line : Int) (hf : Fok f) (hp : Psz p) (hE : (decide (aL op = ⟨#[]⟩) || !decide (0 ≤ line ∧ line ≤ 2000)) = true) : FC Cx 74 [bC p, fnA f, Iv n, insA ⟨op, a, b, c, line⟩] [] (Bv false) [] := by
 refine aD [fO, fN, aU] Tryz.func74 Tryz.ntmps74 Tryz.results74 ?_
 refine goR ?_
 refine fzB 4 ?_
 refine fzB 5 ?_
 refine fzB 7 ?_
 (any_goals refine go lv74 3 ?_)
 all_goals (try simp only [go_sem])
 all_goals (first | rfl | (simp_all; done) | trace_state)
theorem aKm (p : aI) (f : FnT) (n op a b c line : Int) (hf : Fok f) (hp : Psz p) (hE : (decide (aL op = ⟨#[]⟩) || !decide (0 ≤ line ∧ line ≤ 2000)) = false) (hs : (aL op).size = 3) (wm : ∀ ch, IntKind.i64.wrap (bL p f ch - 1) = bL p f ch - 1)  (k0 : (!decide (0 ≤ a ∧ a ≤ bL p f (((aL op).data.toList.getD 0 0).toNat : Int) - 1)) = true) : FC Cx 74 [bC p, fnA f, Iv n, insA ⟨op, a, b, c, line⟩] [] (Bv false) [] := by
 have s0 : (0 : Int) < ((aL op).size : Int) := by rw [hs]; omega
 have s1 : (1 : Int) < ((aL op).size : Int) := by rw [hs]; omega
 have s2 : (2 : Int) < ((aL op).size : Int) := by rw [hs]; omega
 refine aD [fO, fN, aU] Tryz.func74 Tryz.ntmps74 Tryz.results74 ?_
 refine goR ?_
 refine fzB 4 ?_
 refine fzB 5 ?_
 refine fzB 7 ?_
 (any_goals refine go lv74 3 ?_)
 all_goals (try simp only [go_sem])
 all_goals (first | rfl | (simp_all; done) | trace_state)
theorem aNx (p : aI) (f : FnT) (n op a b c line : Int) (hf : Fok f) (hp : Psz p) (hE : (decide (aL op = ⟨#[]⟩) || !decide (0 ≤ line ∧ line ≤ 2000)) = false) (hs : (aL op).size = 3) (wm : ∀ ch, IntKind.i64.wrap (bL p f ch - 1) = bL p f ch - 1)  (k0 : (!decide (0 ≤ a ∧ a ≤ bL p f (((aL op).data.toList.getD 0 0).toNat : Int) - 1)) = false) (m0 : (decide ((((aL op).data.toList.getD 0 0).toNat : Int) = 102) && decide (a = 0)) = true) : FC Cx 74 [bC p, fnA f, Iv n, insA ⟨op, a, b, c, line⟩] [] (Bv false) [] := by
 have s0 : (0 : Int) < ((aL op).size : Int) := by rw [hs]; omega
 have s1 : (1 : Int) < ((aL op).size : Int) := by rw [hs]; omega
 have s2 : (2 : Int) < ((aL op).size : Int) := by rw [hs]; omega
 refine aD [fO, fN, aU] Tryz.func74 Tryz.ntmps74 Tryz.results74 ?_
 refine goR ?_
 refine fzB 4 ?_
 refine fzB 5 ?_
 refine fzB 7 ?_
 (any_goals refine go lv74 3 ?_)
 all_goals (try simp only [go_sem])
 all_goals (first | rfl | (simp_all; done) | trace_state)
theorem aJ1 (p : aI) (f : FnT) (n op a b c line : Int) (hf : Fok f) (hp : Psz p) (hE : (decide (aL op = ⟨#[]⟩) || !decide (0 ≤ line ∧ line ≤ 2000)) = false) (hs : (aL op).size = 3) (wm : ∀ ch, IntKind.i64.wrap (bL p f ch - 1) = bL p f ch - 1) (k0 : (!decide (0 ≤ a ∧ a ≤ bL p f (((aL op).data.toList.getD 0 0).toNat : Int) - 1)) = false) (m0 : (decide ((((aL op).data.toList.getD 0 0).toNat : Int) = 102) && decide (a = 0)) = false) (k1 : (!decide (0 ≤ b ∧ b ≤ bL p f (((aL op).data.toList.getD 1 0).toNat : Int) - 1)) = true) : FC Cx 74 [bC p, fnA f, Iv n, insA ⟨op, a, b, c, line⟩] [] (Bv false) [] := by
 have s0 : (0 : Int) < ((aL op).size : Int) := by rw [hs]; omega
 have s1 : (1 : Int) < ((aL op).size : Int) := by rw [hs]; omega
 have s2 : (2 : Int) < ((aL op).size : Int) := by rw [hs]; omega
 refine aD [fO, fN, aU] Tryz.func74 Tryz.ntmps74 Tryz.results74 ?_
 refine goR ?_
 refine fzB 4 ?_
 refine fzB 5 ?_
 refine fzB 7 ?_
 (any_goals refine go lv74 3 ?_)
 all_goals (try simp only [go_sem])
 all_goals (first | rfl | (simp_all; done) | trace_state)
theorem aNn (p : aI) (f : FnT) (n op a b c line : Int) (hf : Fok f) (hp : Psz p) (hE : (decide (aL op = ⟨#[]⟩) || !decide (0 ≤ line ∧ line ≤ 2000)) = false) (hs : (aL op).size = 3) (wm : ∀ ch, IntKind.i64.wrap (bL p f ch - 1) = bL p f ch - 1) (k0 : (!decide (0 ≤ a ∧ a ≤ bL p f (((aL op).data.toList.getD 0 0).toNat : Int) - 1)) = false) (m0 : (decide ((((aL op).data.toList.getD 0 0).toNat : Int) = 102) && decide (a = 0)) = false) (k1 : (!decide (0 ≤ b ∧ b ≤ bL p f (((aL op).data.toList.getD 1 0).toNat : Int) - 1)) = false) (m1 : (decide ((((aL op).data.toList.getD 1 0).toNat : Int) = 102) && decide (b = 0)) = true) : FC Cx 74 [bC p, fnA f, Iv n, insA ⟨op, a, b, c, line⟩] [] (Bv false) [] := by
 have s0 : (0 : Int) < ((aL op).size : Int) := by rw [hs]; omega
 have s1 : (1 : Int) < ((aL op).size : Int) := by rw [hs]; omega
 have s2 : (2 : Int) < ((aL op).size : Int) := by rw [hs]; omega
 refine aD [fO, fN, aU] Tryz.func74 Tryz.ntmps74 Tryz.results74 ?_
 refine goR ?_
 refine fzB 4 ?_
 refine fzB 5 ?_
 refine fzB 7 ?_
 (any_goals refine go lv74 3 ?_)
 all_goals (try simp only [go_sem])
 all_goals (first | rfl | (simp_all; done) | trace_state)
theorem aNw (p : aI) (f : FnT) (n op a b c line : Int) (hf : Fok f) (hp : Psz p) (hE : (decide (aL op = ⟨#[]⟩) || !decide (0 ≤ line ∧ line ≤ 2000)) = false) (hs : (aL op).size = 3) (wm : ∀ ch, IntKind.i64.wrap (bL p f ch - 1) = bL p f ch - 1) (k0 : (!decide (0 ≤ a ∧ a ≤ bL p f (((aL op).data.toList.getD 0 0).toNat : Int) - 1)) = false) (m0 : (decide ((((aL op).data.toList.getD 0 0).toNat : Int) = 102) && decide (a = 0)) = false) (k1 : (!decide (0 ≤ b ∧ b ≤ bL p f (((aL op).data.toList.getD 1 0).toNat : Int) - 1)) = false) (m1 : (decide ((((aL op).data.toList.getD 1 0).toNat : Int) = 102) && decide (b = 0)) = false) (k2 : (!decide (0 ≤ c ∧ c ≤ bL p f (((aL op).data.toList.getD 2 0).toNat : Int) - 1)) = true) : FC Cx 74 [bC p, fnA f, Iv n, insA ⟨op, a, b, c, line⟩] [] (Bv false) [] := by
 have s0 : (0 : Int) < ((aL op).size : Int) := by rw [hs]; omega
 have s1 : (1 : Int) < ((aL op).size : Int) := by rw [hs]; omega
 have s2 : (2 : Int) < ((aL op).size : Int) := by rw [hs]; omega
 refine aD [fO, fN, aU] Tryz.func74 Tryz.ntmps74 Tryz.results74 ?_
 refine goR ?_
 refine fzB 4 ?_
 refine fzB 5 ?_
 refine fzB 7 ?_
 (any_goals refine go lv74 3 ?_)
 all_goals (try simp only [go_sem])
 all_goals (first | rfl | (simp_all; done) | trace_state)
theorem aLb (p : aI) (f : FnT) (n op a b c line : Int) (hf : Fok f) (hp : Psz p) (hE : (decide (aL op = ⟨#[]⟩) || !decide (0 ≤ line ∧ line ≤ 2000)) = false) (hs : (aL op).size = 3) (wm : ∀ ch, IntKind.i64.wrap (bL p f ch - 1) = bL p f ch - 1) (k0 : (!decide (0 ≤ a ∧ a ≤ bL p f (((aL op).data.toList.getD 0 0).toNat : Int) - 1)) = false) (m0 : (decide ((((aL op).data.toList.getD 0 0).toNat : Int) = 102) && decide (a = 0)) = false) (k1 : (!decide (0 ≤ b ∧ b ≤ bL p f (((aL op).data.toList.getD 1 0).toNat : Int) - 1)) = false) (m1 : (decide ((((aL op).data.toList.getD 1 0).toNat : Int) = 102) && decide (b = 0)) = false) (k2 : (!decide (0 ≤ c ∧ c ≤ bL p f (((aL op).data.toList.getD 2 0).toNat : Int) - 1)) = false) (m2 : (decide ((((aL op).data.toList.getD 2 0).toNat : Int) = 102) && decide (c = 0)) = true) : FC Cx 74 [bC p, fnA f, Iv n, insA ⟨op, a, b, c, line⟩] [] (Bv false) [] := by
 have s0 : (0 : Int) < ((aL op).size : Int) := by rw [hs]; omega
 have s1 : (1 : Int) < ((aL op).size : Int) := by rw [hs]; omega
 have s2 : (2 : Int) < ((aL op).size : Int) := by rw [hs]; omega
 refine aD [fO, fN, aU] Tryz.func74 Tryz.ntmps74 Tryz.results74 ?_
 refine goR ?_
 refine fzB 4 ?_
 refine fzB 5 ?_
 refine fzB 7 ?_
 (any_goals refine go lv74 3 ?_)
 all_goals (try simp only [go_sem])
 all_goals (first | rfl | (simp_all; done) | trace_state)
theorem aK7 (p : aI) (f : FnT) (n op a b c line : Int) (hf : Fok f) (hp : Psz p) (hE : (decide (aL op = ⟨#[]⟩) || !decide (0 ≤ line ∧ line ≤ 2000)) = false) (hs : (aL op).size = 3) (wm : ∀ ch, IntKind.i64.wrap (bL p f ch - 1) = bL p f ch - 1) (k0 : (!decide (0 ≤ a ∧ a ≤ bL p f (((aL op).data.toList.getD 0 0).toNat : Int) - 1)) = false) (m0 : (decide ((((aL op).data.toList.getD 0 0).toNat : Int) = 102) && decide (a = 0)) = false) (k1 : (!decide (0 ≤ b ∧ b ≤ bL p f (((aL op).data.toList.getD 1 0).toNat : Int) - 1)) = false) (m1 : (decide ((((aL op).data.toList.getD 1 0).toNat : Int) = 102) && decide (b = 0)) = false) (k2 : (!decide (0 ≤ c ∧ c ≤ bL p f (((aL op).data.toList.getD 2 0).toNat : Int) - 1)) = false) (m2 : (decide ((((aL op).data.toList.getD 2 0).toNat : Int) = 102) && decide (c = 0)) = false) (o1 : decide (op = 14) = true) : FC Cx 74 [bC p, fnA f, Iv n, insA ⟨op, a, b, c, line⟩] [] (Bv (decide (a ≤ n))) [] := by
 have s0 : (0 : Int) < ((aL op).size : Int) := by rw [hs]; omega
 have s1 : (1 : Int) < ((aL op).size : Int) := by rw [hs]; omega
 have s2 : (2 : Int) < ((aL op).size : Int) := by rw [hs]; omega
 refine aD [fO, fN, aU] Tryz.func74 Tryz.ntmps74 Tryz.results74 ?_
 refine goR ?_
 refine fzB 4 ?_
 refine fzB 5 ?_
 refine fzB 7 ?_
 (any_goals refine go lv74 3 ?_)
 all_goals (try simp only [go_sem])
 all_goals (first | rfl | (simp_all; done) | trace_state)
theorem aMa (p : aI) (f : FnT) (n op a b c line : Int) (hf : Fok f) (hp : Psz p) (hE : (decide (aL op = ⟨#[]⟩) || !decide (0 ≤ line ∧ line ≤ 2000)) = false) (hs : (aL op).size = 3) (wm : ∀ ch, IntKind.i64.wrap (bL p f ch - 1) = bL p f ch - 1) (k0 : (!decide (0 ≤ a ∧ a ≤ bL p f (((aL op).data.toList.getD 0 0).toNat : Int) - 1)) = false) (m0 : (decide ((((aL op).data.toList.getD 0 0).toNat : Int) = 102) && decide (a = 0)) = false) (k1 : (!decide (0 ≤ b ∧ b ≤ bL p f (((aL op).data.toList.getD 1 0).toNat : Int) - 1)) = false) (m1 : (decide ((((aL op).data.toList.getD 1 0).toNat : Int) = 102) && decide (b = 0)) = false) (k2 : (!decide (0 ≤ c ∧ c ≤ bL p f (((aL op).data.toList.getD 2 0).toNat : Int) - 1)) = false) (m2 : (decide ((((aL op).data.toList.getD 2 0).toNat : Int) = 102) && decide (c = 0)) = false) (o1 : decide (op = 14) = false) (o2 : decide (op = 19) = true) (hw : IntKind.i64.wrap (b + c) = b + c) : FC Cx 74 [bC p, fnA f, Iv n, insA ⟨op, a, b, c, line⟩] [] (Bv (decide (b + c ≤ f.regs))) [] := by
 have s0 : (0 : Int) < ((aL op).size : Int) := by rw [hs]; omega
 have s1 : (1 : Int) < ((aL op).size : Int) := by rw [hs]; omega
 have s2 : (2 : Int) < ((aL op).size : Int) := by rw [hs]; omega
 refine aD [fO, fN, aU] Tryz.func74 Tryz.ntmps74 Tryz.results74 ?_
 refine goR ?_
 refine fzB 4 ?_
 refine fzB 5 ?_
 refine fzB 7 ?_
 (any_goals refine go lv74 3 ?_)
 all_goals (try simp only [go_sem])
 all_goals (first | rfl | (simp_all; done) | trace_state)
theorem aKz (p : aI) (f : FnT) (n op a b c line : Int) (hf : Fok f) (hp : Psz p) (hE : (decide (aL op = ⟨#[]⟩) || !decide (0 ≤ line ∧ line ≤ 2000)) = false) (hs : (aL op).size = 3) (wm : ∀ ch, IntKind.i64.wrap (bL p f ch - 1) = bL p f ch - 1) (k0 : (!decide (0 ≤ a ∧ a ≤ bL p f (((aL op).data.toList.getD 0 0).toNat : Int) - 1)) = false) (m0 : (decide ((((aL op).data.toList.getD 0 0).toNat : Int) = 102) && decide (a = 0)) = false) (k1 : (!decide (0 ≤ b ∧ b ≤ bL p f (((aL op).data.toList.getD 1 0).toNat : Int) - 1)) = false) (m1 : (decide ((((aL op).data.toList.getD 1 0).toNat : Int) = 102) && decide (b = 0)) = false) (k2 : (!decide (0 ≤ c ∧ c ≤ bL p f (((aL op).data.toList.getD 2 0).toNat : Int) - 1)) = false) (m2 : (decide ((((aL op).data.toList.getD 2 0).toNat : Int) = 102) && decide (c = 0)) = false) (o1 : decide (op = 14) = false) (o2 : decide (op = 19) = false) (o3 : decide (op = 27) = true) (hw : IntKind.i64.wrap (b + c) = b + c) : FC Cx 74 [bC p, fnA f, Iv n, insA ⟨op, a, b, c, line⟩] [] (Bv (decide (b + c < f.regs))) [] := by
 have s0 : (0 : Int) < ((aL op).size : Int) := by rw [hs]; omega
 have s1 : (1 : Int) < ((aL op).size : Int) := by rw [hs]; omega
 have s2 : (2 : Int) < ((aL op).size : Int) := by rw [hs]; omega
 refine aD [fO, fN, aU] Tryz.func74 Tryz.ntmps74 Tryz.results74 ?_
 refine goR ?_
 refine fzB 4 ?_
 refine fzB 5 ?_
 refine fzB 7 ?_
 (any_goals refine go lv74 3 ?_)
 all_goals (try simp only [go_sem])
 all_goals (first | rfl | (simp_all; done) | trace_state)
theorem aKj (p : aI) (f : FnT) (n op a b c line : Int) (hf : Fok f) (hp : Psz p) (hE : (decide (aL op = ⟨#[]⟩) || !decide (0 ≤ line ∧ line ≤ 2000)) = false) (hs : (aL op).size = 3) (wm : ∀ ch, IntKind.i64.wrap (bL p f ch - 1) = bL p f ch - 1) (k0 : (!decide (0 ≤ a ∧ a ≤ bL p f (((aL op).data.toList.getD 0 0).toNat : Int) - 1)) = false) (m0 : (decide ((((aL op).data.toList.getD 0 0).toNat : Int) = 102) && decide (a = 0)) = false) (k1 : (!decide (0 ≤ b ∧ b ≤ bL p f (((aL op).data.toList.getD 1 0).toNat : Int) - 1)) = false) (m1 : (decide ((((aL op).data.toList.getD 1 0).toNat : Int) = 102) && decide (b = 0)) = false) (k2 : (!decide (0 ≤ c ∧ c ≤ bL p f (((aL op).data.toList.getD 2 0).toNat : Int) - 1)) = false) (m2 : (decide ((((aL op).data.toList.getD 2 0).toNat : Int) = 102) && decide (c = 0)) = false) (o1 : decide (op = 14) = false) (o2 : decide (op = 19) = false) (o3 : decide (op = 27) = false) (o4 : decide (op = 32) = true) : FC Cx 74 [bC p, fnA f, Iv n, insA ⟨op, a, b, c, line⟩] [] (Bv f.gen) [] := by
 have s0 : (0 : Int) < ((aL op).size : Int) := by rw [hs]; omega
 have s1 : (1 : Int) < ((aL op).size : Int) := by rw [hs]; omega
 have s2 : (2 : Int) < ((aL op).size : Int) := by rw [hs]; omega
 refine aD [fO, fN, aU] Tryz.func74 Tryz.ntmps74 Tryz.results74 ?_
 refine goR ?_
 refine fzB 4 ?_
 refine fzB 5 ?_
 refine fzB 7 ?_
 (any_goals refine go lv74 3 ?_)
 all_goals (try simp only [go_sem])
 all_goals (first | rfl | (simp_all; done) | trace_state)
theorem aRc (p : aI) (f : FnT) (n op a b c line : Int) (hf : Fok f) (hp : Psz p) (hE : (decide (aL op = ⟨#[]⟩) || !decide (0 ≤ line ∧ line ≤ 2000)) = false) (hs : (aL op).size = 3) (wm : ∀ ch, IntKind.i64.wrap (bL p f ch - 1) = bL p f ch - 1) (k0 : (!decide (0 ≤ a ∧ a ≤ bL p f (((aL op).data.toList.getD 0 0).toNat : Int) - 1)) = false) (m0 : (decide ((((aL op).data.toList.getD 0 0).toNat : Int) = 102) && decide (a = 0)) = false) (k1 : (!decide (0 ≤ b ∧ b ≤ bL p f (((aL op).data.toList.getD 1 0).toNat : Int) - 1)) = false) (m1 : (decide ((((aL op).data.toList.getD 1 0).toNat : Int) = 102) && decide (b = 0)) = false) (k2 : (!decide (0 ≤ c ∧ c ≤ bL p f (((aL op).data.toList.getD 2 0).toNat : Int) - 1)) = false) (m2 : (decide ((((aL op).data.toList.getD 2 0).toNat : Int) = 102) && decide (c = 0)) = false) (o1 : decide (op = 14) = false) (o2 : decide (op = 19) = false) (o3 : decide (op = 27) = false) (o4 : decide (op = 32) = false) (o5 : decide (op = 26) = false) : FC Cx 74 [bC p, fnA f, Iv n, insA ⟨op, a, b, c, line⟩] [] (Bv true) [] := by
 have s0 : (0 : Int) < ((aL op).size : Int) := by rw [hs]; omega
 have s1 : (1 : Int) < ((aL op).size : Int) := by rw [hs]; omega
 have s2 : (2 : Int) < ((aL op).size : Int) := by rw [hs]; omega
 refine aD [fO, fN, aU] Tryz.func74 Tryz.ntmps74 Tryz.results74 ?_
 refine goR ?_
 refine fzB 4 ?_
 refine fzB 5 ?_
 refine fzB 7 ?_
 (any_goals refine go lv74 3 ?_)
 all_goals (try simp only [go_sem])
 all_goals (first | rfl | (simp_all; done) | trace_state)
theorem aCc (pa rg : Int) (ge : Bool) (us : List Int) : FC Cx 75 [fnA ⟨pa, rg, ge, us, []⟩] [] (.tup [.r (.v (.slice none 0 0)), Bv false]) [] := by
 refine aD [jF] Tryz.func75 Tryz.ntmps75 Tryz.results75 ?_
 refine goR ?_
 refine fzB 1 ?_
 (any_goals refine go lv75 0 ?_)
 all_goals (try simp only [go_sem])
def kC (b : Bool) (l : List (Int × Int)) : List AV := [Bv b, bif b then cM l else .r (.v (.slice none 0 0))]
def knC (W : WT) : List (List AV) := List.zipWith kC W.seen W.out
theorem Af {f : FnT} {W : WT} (h : Wiv f W) : (knC W).length = f.code.length := by
 unfold knC; rw [List.length_zipWith, h.seen, h.out, Nat.min_self]
theorem Od {f : FnT} {W : WT} (h : Wiv f W) {n : Nat} (hn : n < f.code.length) : (knC W).getD n [] = kC (W.seen.getD n false) (W.out.getD n []) := by
 have h1 : n < W.seen.length := by rw [h.seen]; exact hn
 have h2 : n < W.out.length := by rw [h.out]; exact hn
 simp only [knC, List.getD, List.getElem?_zipWith, List.getElem?_eq_getElem h1, List.getElem?_eq_getElem h2, Option.getD_some]
theorem Rs (W : WT) (n : Nat) (b : Bool) (l : List (Int × Int)) (t t' : List Int) (q q' : Bool) : (knC ⟨W.seen, W.out, t, q⟩).set n (kC b l) = knC ⟨W.seen.set n b, W.out.set n l, t', q'⟩ := by
 unfold knC
 apply List.ext_getElem?
 intro j
 simp only [List.getElem?_set, List.getElem?_zipWith, List.length_zipWith]
 by_cases e : n = j
 ·subst e
  by_cases h1 : n < W.seen.length <;> by_cases h2 : n < W.out.length <;> simp [h1, h2, Nat.lt_min]
 ·simp [e]
theorem aBs (f : FnT) : knC (W0 f) = List.replicate f.code.length [Bv false, .r (.v (.slice none 0 0))] := by
 unfold knC W0
 rw [List.zipWith_replicate, Nat.min_self]; rfl
theorem Un {f : FnT} (h0 : 0 < f.code.length) : knC (aZ f 0 [] (W0 f)) = (List.replicate f.code.length [Bv false, (.r (.v (.slice none 0 0)) : AV)]).set 0 [Bv true, cM []] := by
 rw [mV h0, ← aBs]
 exact (Rs (W0 f) 0 true [] [] [0] false false).symm
theorem Xf {A : List (List AV)} {k : Nat} {r r' : List AV} (h : ∀ (j : Nat) (x x' : AV), r[j]? = some x → r'[j]? = some x' → ∀ cur g w N v, AR cur g w N x v → AR cur g w N x' v) :
  ∀ (i j : Nat) (row row' : List AV) (x x' : AV), (A.set k r)[i]? = some row → (A.set k r')[i]? = some row' → row[j]? = some x → row'[j]? = some x' → ∀ cur g w N v, AR cur g w N x v → AR cur g w N x' v := by
 intro i j row row' x x' h1 h2 h3 h4 cur g w N v hv
 rw [List.getElem?_set] at h1 h2
 by_cases e : k = i
 ·rw [if_pos e] at h1 h2
  by_cases hl : k < A.length
  ·rw [if_pos hl] at h1 h2
   cases h1; cases h2
   exact h j x x' h3 h4 cur g w N v hv
  ·rw [if_neg hl] at h1; cases h1
 ·rw [if_neg e] at h1 h2
  rw [h1] at h2; cases h2
  rw [h3] at h4; cases h4
  exact hv
theorem Nc {f : FnT} (h0 : 0 < f.code.length) :
  ∀ (i j : Nat) (row row' : List AV) (x x' : AV), ((List.replicate f.code.length [Bv false, (.r (.v (.slice none 0 0)) : AV)]).set 0 [Bv true, (.r (.v (.slice none 0 0)) : AV)])[i]? = some row → (knC (aZ f 0 [] (W0 f)))[i]? = some row' → row[j]? = some x → row'[j]? = some x' → ∀ cur g w N v, AR cur g w N x v → AR cur g w N x' v := by
 rw [Un h0]
 refine Xf fun j x x' h1 h2 cur g w N v hv => ?_
 match j with
 | 0 => simp at h1 h2; subst h1; subst h2; exact hv
 | 1 =>
  simp at h1 h2; subst h1; subst h2
  cases hv with
  | r h => exact .r (RR.nilD (.nil 2) h)
 | j + 2 => simp at h1
theorem aFv (W : WT) : ∀ row ∈ knC W, (row.length, noNd row) = (2, true) := fun row h => by
 obtain ⟨i, hi⟩ := List.getElem?_of_mem h
 unfold knC at hi
 rw [List.getElem?_zipWith] at hi
 split at hi
 ·rename_i a b _ _; cases hi; cases a <;> rfl
 ·cases hi
def tsF (op a b k : Int) : List Int := if op = 13 ∨ op = 14 then [a] else if op = 15 ∨ op = 30 then [b, k + 1] else [k + 1]
def lsF (op a b : Int) (l : List (Int × Int)) : List (List (Int × Int)) :=
 if op = 13 ∨ op = 14 then [l] else if op = 15 then [l, l] else if op = 30 then [l, l ++ [(a, b)]] else if op = 31 then [l.take (l.length - 1)] else [l]
def iD (f : FnT) (ts : List Int) (ls : List (List (Int × Int))) : Nat → WT → WT
 | 0, W => W
 | j + 1, W => aZ f (ts.getD j 0) (ls.getD j []) (iD f ts ls j W)
theorem aK3 (op a b k : Int) (l : List (Int × Int)) : (lsF op a b l).length = (tsF op a b k).length ∧ (tsF op a b k).length ≤ 2 := by
 unfold tsF lsF
 repeat' split
 all_goals first | (simp; done) | omega
theorem aTw {f : FnT} (hk : Cok f) {k : Nat} {i : InsT} (hi : f.code[k]? = some i) : ∀ t ∈ tsF i.op i.a i.b k, 0 ≤ t := by
 have hm := List.mem_of_getElem? hi
 intro t ht
 unfold tsF at ht
 split at ht
 ·rename_i h; simp at ht; subst ht; exact hk.a i hm h
 ·split at ht
  ·rename_i h
   simp at ht
   rcases ht with rfl | rfl
   ·exact hk.b i hm h
   ·omega
  ·simp at ht; subst ht; omega
theorem aR5 {op a b : Int} {l : List (Int × Int)} (h : l.length ≤ 20) : ∀ x ∈ lsF op a b l, x.length ≤ 21 := by
 intro x hx
 unfold lsF at hx
 repeat' split at hx
 all_goals simp at hx
 all_goals first | (subst hx; first | omega | (simp; omega)) | (rcases hx with rfl | rfl <;> first | omega | (simp; omega))
theorem Ob {f : FnT} {k : Nat} {W : WT} {i : InsT} (hi : f.code[k]? = some i) (h1 : ¬ (i.op = 28 ∨ i.op = 29)) (h2 : ¬ (i.op = 31 ∧ W.out.getD k [] = [])) :
  bW f k W = iD f (tsF i.op i.a i.b k) (lsF i.op i.a i.b (W.out.getD k [])) (tsF i.op i.a i.b k).length W := by
 have e1 : f.code.getD (Int.toNat (k : Int)) ins0 = i := by simp [List.getD, hi]
 have e2 : W.out.getD (Int.toNat (k : Int)) [] = W.out.getD k [] := by simp
 unfold bW tsF lsF
 simp only [e1, e2]
 rw [if_neg h1]
 by_cases h13 : i.op = 13 ∨ i.op = 14
 ·simp only [if_pos h13]; rfl
 simp only [if_neg h13]
 by_cases h15 : i.op = 15
 ·simp only [h15, if_true, true_or]; rfl
 by_cases h30 : i.op = 30
 ·simp only [h30, or_true, if_true]; rfl
 rw [if_neg h15, if_neg h30]
 have h3 : ¬ (i.op = 15 ∨ i.op = 30) := fun h => h.elim h15 h30
 simp only [if_neg h3, if_neg h15, if_neg h30]
 by_cases h31 : i.op = 31
 ·have : ¬ (W.out.getD k [] = []) := fun h => h2 ⟨h31, h⟩
  rw [if_pos h31, if_neg this, if_pos h31]; rfl
 ·rw [if_neg h31, if_neg h31]; rfl
theorem Fj {f : FnT} {ts : List Int} {ls : List (List (Int × Int))} {W : WT} : ∀ {j m : Nat}, j ≤ m → (iD f ts ls j W).bad = true → (iD f ts ls m W).bad = true
  | j, 0, h, hb => by have : j = 0 := by omega
                      subst this; exact hb
  | j, m + 1, h, hb => by
    rcases Nat.lt_or_ge j (m + 1) with h1 | h1
    · exact pN (Fj (m := m) (by omega) hb)
    · have : j = m + 1 := by omega
      subst this; exact hb
theorem Ms {f : FnT} {ts : List Int} {ls : List (List (Int × Int))} {W : WT} (h : Wiv f W) (hts : ∀ t ∈ ts, 0 ≤ t) : ∀ {j : Nat}, Wiv f (iD f ts ls j W)
 | 0 => h
 | j + 1 => by
  refine (cO (Ms h hts) ?_).1
  cases hj : ts[j]? with
  | none => simp [List.getD, hj]
  | some t => simpa [List.getD, hj] using hts t (List.mem_of_getElem? hj)
theorem Kt {f : FnT} {W : WT} : ∀ {j m : Nat}, j ≤ m → (cF f j W).bad = true → (cF f m W).bad = true
  | j, 0, h, hb => by have : j = 0 := by omega
                      subst this; exact hb
  | j, m + 1, h, hb => by
    rcases Nat.lt_or_ge j (m + 1) with h1 | h1
    · have := Kt (m := m) (by omega) hb
      show (if (cF f m W).bad = true then _ else _ : WT).bad = true
      rw [if_pos this]; exact this
    · have : j = m + 1 := by omega
      subst this; exact hb
theorem aAp {f : FnT} {W : WT} {k : Nat} (hd : docW f = lN f k W) (hn : nuW W ≤ k) (ht : W.todo ≠ []) (hb : W.bad = false) :
  ((cF f f.code.length (fF W)).bad = true → (docW f).bad = true) ∧ ∃ k', k = k' + 1 ∧ docW f = lN f k' (cF f f.code.length (fF W)) := by
 have h1 : 1 ≤ nuW W := by unfold nuW; rw [if_neg ht]; omega
 obtain ⟨k', rfl⟩ : ∃ k', k = k' + 1 := ⟨k - 1, by omega⟩
 have e : lN f (k' + 1) W = lN f k' (cF f f.code.length (fF W)) := by
  show (if W.bad = true ∨ W.todo = [] then W else _) = _
  rw [if_neg (fun h => h.elim (by rw [hb]; simp) ht)]
 rw [e] at hd
 refine ⟨fun h => ?_, k', rfl, hd⟩
 rw [hd, pU (.inl h)]; exact h
theorem Vl {f : FnT} {W : WT} {k : Nat} (hb : (cF f k W).bad = false) (hs : (cF f k W).seen.getD k false = true) : cF f (k + 1) W = bW f k (cF f k W) := by
 show (if (cF f k W).bad = true then _ else if (cF f k W).seen.getD k false = true then _ else _) = _
 rw [if_neg (by rw [hb]; simp), if_pos hs]
theorem Uv {f : FnT} {W : WT} {k : Nat} (hb : (cF f k W).bad = false) (hs : (cF f k W).seen.getD k false = false) : cF f (k + 1) W = cF f k W := by
 show (if (cF f k W).bad = true then _ else if (cF f k W).seen.getD k false = true then _ else _) = _
 rw [if_neg (by rw [hb]; simp), if_neg (by rw [hs]; simp)]
theorem aB6 {f : FnT} {k : Nat} {W : WT} {i : InsT} (hi : f.code[k]? = some i) (h : i.op = 28 ∨ i.op = 29) : bW f k W = W := by
 have e1 : f.code.getD (Int.toNat (k : Int)) ins0 = i := by simp [List.getD, hi]
 unfold bW
 simp only [e1]
 rw [if_pos h]
theorem Yj {f : FnT} {k : Nat} {W : WT} {i : InsT} (hi : f.code[k]? = some i) (h : i.op = 31) (h2 : W.out.getD k [] = []) : (bW f k W).bad = true := by
 have e1 : f.code.getD (Int.toNat (k : Int)) ins0 = i := by simp [List.getD, hi]
 have e2 : W.out.getD (Int.toNat (k : Int)) [] = [] := by simpa using h2
 unfold bW
 simp only [e1, e2]
 rw [h]; simp
theorem aBi {f : FnT} {W : WT} (h : Wiv f W) {n : Nat} (hn : n < f.code.length) (hs : W.seen.getD n false = true) {l : List (Int × Int)} (hl : W.out.getD n [] = l) : (knC W).set n (kC true l) = knC W := by
 refine Wj ?_
 have h1 := Od h hn
 have h2 : n < (knC W).length := by rw [Af h]; exact hn
 rw [hs, hl] at h1
 simpa [List.getD, List.getElem?_eq_getElem h2] using h1
def knR (W : WT) : List (List RV) := List.zipWith (fun b l => [RV.v (.bool b), bif b then RV.rs 2 (l.map tryR) else .v (.slice none 0 0)]) W.seen W.out
theorem Ed (n : Nat) (st : St) : ∀ (a : List Bool) (b : List (List (Int × Int))) (K : List Loc → List (List RV) → Prop), nS (gB n st) (List.zipWith kC a b) K = K [] (List.zipWith (fun b l => [RV.v (.bool b), bif b then RV.rs 2 (l.map tryR) else .v (.slice none 0 0)]) a b)
 | [], _, K => by simp only [List.zipWith_nil_left, nS]
 | _ :: _, [], K => by simp only [List.zipWith_nil_right, nS]
 | x :: a, y :: b, K => by
  cases x <;> cases n <;> (simp only [List.zipWith_cons_cons, nS, oM, gB, kC, cond_true, cond_false]; rw [Ed _ st a b]; rfl)
@[go_sem] theorem aVe (n : Nat) (st : St) (W : WT) (K : List Loc → List (List RV) → Prop) : nS (gB n st) (knC W) K = K [] (knR W) := Ed n st _ _ K
def docR (f : FnT) : AV := bif (docW f).bad then .tup [.r (.v (.slice none 0 0)), Bv false] else .tup [.r (.rs 2 (knR (docW f))), Bv true]
theorem Bp {f : FnT} (h : (docW f).bad = true) : docR f = .tup [.r (.v (.slice none 0 0)), Bv false] := by unfold docR; rw [h]; rfl
theorem Fx {f : FnT} (h : (docW f).bad = false) : docR f = .tup [.r (.rs 2 (knR (docW f))), Bv true] := by unfold docR; rw [h]; rfl
structure Qo (op : Int) (l : List (Int × Int)) : Prop where
 o28 : ¬ (op = 28 ∨ op = 29)
 o31 : ¬ (op = 31 ∧ l = [])
theorem aD7 (f : FnT) (h0 : 0 < f.code.length) (hk : Cok f) : FC Cx 75 [fnA f] [] (docR f) [] := by
  have h6 := hk.len
  have l1 : (f.code.map insR).length = f.code.length := List.length_map ..
  have d1 : decide ((f.code.length : Int) = 0) = false := by rw [decide_eq_false_iff_not]; omega
  have b1 : (0 : Int) < (f.code.length : Int) := by omega
  have t1 : Int.toNat (f.code.length : Int) = f.code.length := by omega
  have lr : (List.replicate f.code.length [Bv false, (.r (.v (.slice none 0 0)) : AV)]).length = f.code.length := List.length_replicate
  have g0 : (List.replicate f.code.length [Bv false, (.r (.v (.slice none 0 0)) : AV)]).getD 0 [] = [Bv false, .r (.v (.slice none 0 0))] := by
    simp [List.getD, List.getElem?_replicate, h0]
  have hw : bK bR (docR f) = true := by unfold docR; cases (docW f).bad <;> rfl
  refine fE [jF] Tryz.func75 rfl Tryz.ntmps75 (by simp) Tryz.results75 hw ?_
  refine rnst ?_
  refine goR ?_
  refine fzB 1 ?_
  (any_goals refine go lv75 0 ?_)
  have hi0 := (cO (n := 0) (l := []) (jR f).1 (Int.le_refl 0)).1
  (apply Mp 19 (knC (aZ f 0 [] (W0 f))); (exact rfl); (exact (by rw [Af hi0]; simp)); (exact aFv _); (exact Nc h0); (exact rfl); (intro K0; (try simp only [go_sem]); exact ⟨id⟩))
  refine cL [1, 4, 5, 6] (fun x : WT × Nat => Wiv f x.1 ∧ x.1.bad = false ∧ To f x.1 0 [] ∧ ∃ k, nuW x.1 ≤ k ∧ docW f = lN f k x.1) (fun x => let u := x.2; ⟨166, [(1, .r (.rp (fnR f))), (4, Iv f.code.length), (5, .os 19 1), (6, Bv (!decide (x.1.todo = [])))], [(1, 2, .gone), (19, 1, .sl 185 2 (knC x.1)), (8, u, .gone), (50, u, .gone), (52, u, .gone), (61, u, .gone), (63, u, .gone), (70, u, .gone), (73, u, .gone), (76, u, .gone), (78, u, .gone), (84, u, .gone), (85, u, .gone), (90, u, .gone), (93, u, .gone), (101, u, .gone), (107, u, .gone)]⟩) (fun x => nuW x.1) (aZ f 0 [] (W0 f), 0) ⟨hi0, by rw [mV h0], oZ (jR f).1 (Int.le_refl 0) (by rw [mV h0]), 2 * f.code.length + 2, ?_, rfl⟩ ?_ rfl (by rw [mV h0]; rfl)
  · have h1 := (cO (n := 0) (l := []) (jR f).1 (Int.le_refl 0)).2
    rw [(jR f).2] at h1
    unfold muW at h1
    unfold nuW
    dsimp only
    split <;> omega
  rintro ⟨W, u⟩ ⟨hi, hb, hT, kk, hkk, hdk⟩
  dsimp only at hi hb hT hkk hdk ⊢
  by_cases ht : W.todo = []
  · have dt : decide (W.todo = []) = true := by simpa using ht
    have hD : docW f = W := by rw [hdk]; exact pU (.inr ht) _
    have hR : docR f = .tup [.r (.rs 2 (knR W)), Bv true] := by rw [Fx (by rw [hD]; exact hb), hD]
    clear hD hdk
    (any_goals refine go lv75 0 ?_)
    all_goals (try simp only [go_sem, hR])
  have dt : decide (W.todo = []) = false := by simpa using ht
  obtain ⟨hbad, k', rfl, hdk'⟩ := aAp hdk hkk ht hb
  (any_goals refine go lv75 0 ?_)
  refine cL [1, 4, 5, 6, 27, 28, 29] (fun x : Nat × Nat => x.1 ≤ f.code.length ∧ (cF f x.1 (fF W)).bad = false) (fun x => let u := x.2; ⟨166, [(1, .r (.rp (fnR f))), (4, Iv f.code.length), (5, .os 19 1), (6, Bv (!decide ((cF f x.1 (fF W)).todo = []))), (27, nQ f.code), (28, Iv f.code.length), (29, Iv x.1)], [(1, 2, .gone), (19, 1, .sl 185 2 (knC (cF f x.1 (fF W)))), (8, u, .gone), (50, u, .gone), (52, u, .gone), (61, u, .gone), (63, u, .gone), (70, u, .gone), (73, u, .gone), (76, u, .gone), (78, u, .gone), (84, u, .gone), (85, u, .gone), (90, u, .gone), (93, u, .gone), (101, u, .gone), (107, u, .gone)]⟩) (fun x => f.code.length - x.1) (0, u) ⟨Nat.zero_le _, hb⟩ ?_
  rintro ⟨k, u⟩ ⟨hkl, hkb⟩
  dsimp only at hkl hkb ⊢
  have hP := mO (f := f) hk k _ (nL hi)
  by_cases hlt : k < f.code.length
  case neg =>
    have e : k = f.code.length := by omega
    subst e
    have c1 : decide ((f.code.length : Int) < (f.code.length : Int)) = false := by rw [decide_eq_false_iff_not]; omega
    (any_goals refine go lv75 0 ?_)
    refine ⟨(cF f f.code.length (fF W), u), ⟨hP, hkb, Hv hk _ _ (nL hi) (vP.2 hT), k', ?_, hdk'⟩, Hh hk hi ht, ?_⟩
    · have := Hh hk hi ht; dsimp only; omega
    · dsimp only; exact aY [1, 4, 5, 6]
  have c1 : decide ((k : Int) < (f.code.length : Int)) = true := by rw [decide_eq_true_eq]; omega
  have t2 : Int.toNat (k : Int) = k := by omega
  have hw1 : IntKind.i64.wrap ((k : Int) + 1) = ((k + 1 : Nat) : Int) := by rw [aN] <;> omega
  have lk : (knC (cF f k (fF W))).length = f.code.length := Af hP
  have hat := Od hP hlt
  obtain ⟨i, hx⟩ : ∃ x, f.code[k]? = some x := ⟨f.code[k], List.getElem?_eq_getElem hlt⟩
  have hgx := aE insR hx ([] : List RV)
  cases hs : (cF f k (fF W)).seen.getD k false with
  | false =>
    have hp1 := Uv hkb hs
    rw [hs] at hat
    simp only [kC, cond_false] at hat
    (any_goals refine go lv75 0 ?_)
    refine ⟨(k + 1, u + 9), ⟨by dsimp only; omega, by dsimp only; rw [hp1]; exact hkb⟩, by dsimp only; omega, ?_⟩
    dsimp only; rw [hp1]; exact aY [1, 4, 5, 6, 27, 28, 29]
  | true =>
    have hp1 := Vl hkb hs
    rw [hs] at hat
    simp only [kC, cond_true] at hat
    have hM := fun h => hbad (Kt (m := f.code.length) (j := k + 1) (by omega) h)
    rw [hp1] at hM
    generalize hWk : cF f k (fF W) = V at *
    generalize hl : V.out.getD k [] = l at *
    have hl20 : l.length ≤ 20 := hP.outs l (by have : k < V.out.length := by rw [hP.out]; exact hlt
                                               rw [← hl]; simp [List.getD, List.getElem?_eq_getElem this])
    obtain ⟨op, a, b, c, line⟩ := i
    (any_goals refine go (eM 17 lv75) 0 ?_)
    refine goR1 lv75 0 ?_
    refine mL (Qo op l) (st' := ⟨166, [(1, .r (.rp (fnR f))), (4, Iv f.code.length), (5, .os 19 1), (6, Bv (!decide (V.todo = []))), (27, nQ f.code), (28, Iv f.code.length), (29, Iv k), (11, .r (.rs 1 ((tsF op a b k).map intR))), (12, .r (.rs 1 ((lsF op a b l).map trsR)))], [(1, 2, .gone), (19, 1, .sl 185 2 (knC V)), (8, u + 9, .gone), (50, u + 9, .gone), (52, u + 9, .gone), (61, u + 9, .gone), (63, u + 9, .gone), (70, u + 9, .gone), (73, u + 9, .gone), (76, u + 9, .gone), (78, u + 9, .gone), (84, u + 9, .gone), (85, u + 9, .gone), (90, u + 9, .gone), (93, u + 9, .gone), (101, u + 9, .gone), (107, u + 9, .gone)]⟩) rfl ?_ ?_
    · by_cases o28 : op = 28 ∨ op = 29
      · have hF := aB6 (W := V) hx o28
        rcases o28 with rfl | rfl
        all_goals
          (any_goals refine go lv75 0 ?_)
          refine ⟨(k + 1, u + 9), ⟨by dsimp only; omega, by dsimp only; rw [hp1, hF]; exact hkb⟩, by dsimp only; omega, ?_⟩
          dsimp only; rw [hp1, hF]; exact aY [1, 4, 5, 6, 27, 28, 29]
      have d28 : decide (op = 28) = false := by rw [decide_eq_false_iff_not]; omega
      have d29 : decide (op = 29) = false := by rw [decide_eq_false_iff_not]; omega
      by_cases o13 : op = 13 ∨ op = 14
      · rcases o13 with rfl | rfl
        all_goals
          (any_goals refine goF ((1000000, [61, 63]) :: lv75) 0 ?_)
          exact ⟨⟨o28, fun h => by have := h.1; omega⟩, Lx.le (aY [1, 4, 5, 6, 27, 28, 29, 11, 12])⟩
      have d13 : decide (op = 13) = false := by rw [decide_eq_false_iff_not]; omega
      have d14 : decide (op = 14) = false := by rw [decide_eq_false_iff_not]; omega
      have hw2 : IntKind.i64.wrap ((k : Int) + 1) = (k : Int) + 1 := by rw [aN] <;> omega
      clear hw1
      by_cases o15 : op = 15
      · subst o15
        (any_goals refine goF ((1000000, [70, 73]) :: lv75) 0 ?_)
        exact ⟨⟨o28, fun h => by have := h.1; omega⟩, Lx.le (aY [1, 4, 5, 6, 27, 28, 29, 11, 12])⟩
      have d15 : decide (op = 15) = false := by rw [decide_eq_false_iff_not]; omega
      by_cases o30 : op = 30
      · subst o30
        have ll' : (l.map tryC).length = l.length := List.length_map ..
        have hm : (l.map tryC) ++ [[Iv a, Iv b]] = (l ++ [(a, b)]).map tryC := by simp
        (any_goals refine go (eM 28 lv75) 0 ?_)
        (apply gU 76 ((l ++ [(a, b)]).map tryR); (exact rfl); (exact (Hu _).symm); (exact rfl); (intro K0; (try simp only [go_sem]); exact ⟨id⟩))
        (any_goals refine goF ((1000000, [90, 93]) :: lv75) 0 ?_)
        exact ⟨⟨o28, fun h => by have := h.1; omega⟩, Lx.le (aY [1, 4, 5, 6, 27, 28, 29, 11, 12])⟩
      have d30 : decide (op = 30) = false := by rw [decide_eq_false_iff_not]; omega
      by_cases o31 : op = 31
      · subst o31
        have ll : (l.map tryR).length = l.length := List.length_map ..
        by_cases hl0 : l = []
        · have e0 : decide ((l.length : Int) = 0) = true := by rw [hl0]; rfl
          have hR := Bp (hM (Yj hx rfl (by rw [hl]; exact hl0)))
          (any_goals refine go lv75 0 ?_)
          all_goals (try simp only [go_sem, hR])
        · have hlp := List.length_pos_iff.2 hl0
          have e0 : decide ((l.length : Int) = 0) = false := by rw [decide_eq_false_iff_not]; omega
          have hw3 : IntKind.i64.wrap ((l.length : Int) - 1) = ((l.length - 1 : Nat) : Int) := by rw [aN] <;> omega
          have t4 : Int.toNat ((l.length - 1 : Nat) : Int) = l.length - 1 := by omega
          have hm : List.take (l.length - 1) (l.map tryR) = (l.take (l.length - 1)).map tryR := List.map_take.symm
          (any_goals refine go lv75 0 ?_)
          refine ⟨⟨o28, fun h => hl0 h.2⟩, ?_⟩
          refine Lx.frzL 101 rfl rfl (Lx.frzL 107 rfl rfl (Lx.le ?_))
          simp only [go_sem]
          exact aY [1, 4, 5, 6, 27, 28, 29, 11, 12]
      have d31 : decide (op = 31) = false := by rw [decide_eq_false_iff_not]; omega
      have q1 : tsF op a b k = [(k : Int) + 1] := by unfold tsF; rw [if_neg o13, if_neg (by omega)]
      have q2 : lsF op a b l = [l] := by unfold lsF; rw [if_neg o13, if_neg o15, if_neg o30, if_neg o31]
      rw [q1, q2]
      (any_goals refine goF ((1000000, [50, 52]) :: lv75) 0 ?_)
      all_goals (try simp only [go_sem])
      exact ⟨⟨o28, fun h => by have := h.1; omega⟩, Lx.le (aY [1, 4, 5, 6, 27, 28, 29, 11, 12])⟩
    · rintro ⟨o28, o31⟩
      obtain ⟨hln, hl2⟩ := aK3 op a b k l
      have hts := aTw hk hx
      have hls := aR5 (op := op) (a := a) (b := b) hl20
      have hF := Ob (W := V) hx o28 (by rw [hl]; exact o31)
      rw [hl] at hF
      dsimp only at hts hF
      generalize tsF op a b k = ts at *
      generalize lsF op a b l = ls at *
      have l2 : (ts.map intR).length = ts.length := List.length_map ..
      have l3 : (ls.map trsR).length = ls.length := List.length_map ..
      clear o28 o31 hat
      (any_goals refine go lv75 0 ?_)
      refine cL [1, 4, 5, 6, 27, 28, 29, 12, 108, 109, 110] (fun j : Nat => j ≤ ts.length ∧ (iD f ts ls j V).bad = false) (fun j => ⟨166, [(1, .r (.rp (fnR f))), (4, Iv f.code.length), (5, .os 19 1), (6, Bv (!decide ((iD f ts ls j V).todo = []))), (27, nQ f.code), (28, Iv f.code.length), (29, Iv k), (12, .r (.rs 1 (ls.map trsR))), (108, .r (.rs 1 (ts.map intR))), (109, Iv ts.length), (110, Iv j)], [(1, 2, .gone), (19, 1, .sl 185 2 (knC (iD f ts ls j V))), (8, u + 9, .gone), (50, u + 9, .gone), (52, u + 9, .gone), (61, u + 9, .gone), (63, u + 9, .gone), (70, u + 9, .gone), (73, u + 9, .gone), (76, u + 9, .gone), (78, u + 9, .gone), (84, u + 9, .gone), (85, u + 9, .gone), (90, u + 9, .gone), (93, u + 9, .gone), (101, u + 9, .gone), (107, u + 9, .gone)]⟩) (fun j => ts.length - j) 0 ⟨Nat.zero_le _, hkb⟩ ?_
      rintro j ⟨hj, hjb⟩
      by_cases hjl : j < ts.length
      case neg =>
        have e : j = ts.length := by omega
        subst e
        have c2 : decide ((ts.length : Int) < (ts.length : Int)) = false := by rw [decide_eq_false_iff_not]; omega
        rw [← hF, ← hp1] at hjb
        (any_goals refine go lv75 0 ?_)
        rw [← hF, ← hp1]
        exact ⟨(k + 1, u + 9), ⟨by dsimp only; omega, hjb⟩, by dsimp only; omega, aY [1, 4, 5, 6, 27, 28, 29]⟩
      have c2 : decide ((j : Int) < (ts.length : Int)) = true := by rw [decide_eq_true_eq]; omega
      have t3 : Int.toNat (j : Int) = j := by omega
      have hw2 : IntKind.i64.wrap ((j : Int) + 1) = ((j + 1 : Nat) : Int) := by rw [aN] <;> omega
      obtain ⟨t, ht'⟩ : ∃ t, ts[j]? = some t := ⟨ts[j], List.getElem?_eq_getElem hjl⟩
      obtain ⟨x, hx'⟩ : ∃ x, ls[j]? = some x := ⟨ls[j]'(by omega), List.getElem?_eq_getElem (by omega)⟩
      have ht0 := hts t (List.mem_of_getElem? ht')
      have hx21 := hls x (List.mem_of_getElem? hx')
      obtain ⟨m, rfl⟩ : ∃ m : Nat, t = m := ⟨t.toNat, by omega⟩
      have gt := aE intR ht' ([] : List RV)
      have gx := aE trsR hx' ([] : List RV)
      have hU : Wiv f (iD f ts ls j V) := Ms hP hts
      have hN : iD f ts ls (j + 1) V = aZ f m x (iD f ts ls j V) := by
        show aZ f (ts.getD j 0) (ls.getD j []) _ = _
        simp [List.getD, ht', hx']
      have hB : (aZ f m x (iD f ts ls j V)).bad = true → docR f = .tup [.r (.v (.slice none 0 0)), Bv false] := fun h => by
        refine Bp (hM ?_)
        rw [hF]
        exact Fj (j := j + 1) (by omega) (by rw [hN]; exact h)
      have lU : (knC (iD f ts ls j V)).length = f.code.length := Af hU
      have t4 : Int.toNat (m : Int) = m := by omega
      have lx : (x.map tryR).length = x.length := List.length_map ..
      have rowU := fun h => Od (n := m) hU h
      have outU := hU.outs
      have lenU := hU.out
      have sameU := fun h1 h2 => aBi (n := m) hU h1 h2 (l := x)
      have setU := fun (t' : List Int) (q' : Bool) => Rs (iD f ts ls j V) m true x (iD f ts ls j V).todo t' (iD f ts ls j V).bad q'
      generalize iD f ts ls j V = U at *
      clear hbad hM hF hp1 hP hts hls hdk hdk' hT hi0 hx hgx lk hs hlt hkb hWk hl hi hb
      by_cases k1 : f.code.length ≤ m
      · have e1 : decide ((f.code.length : Int) ≤ (m : Int)) = true := by rw [decide_eq_true_eq]; omega
        have hR := hB (by unfold aZ; rw [if_pos (by left; omega)])
        (any_goals refine go lv75 0 ?_)
        all_goals (try simp only [go_sem, hR])
      have e1 : decide ((f.code.length : Int) ≤ (m : Int)) = false := by rw [decide_eq_false_iff_not]; omega
      have mlt : (m : Int) < (f.code.length : Int) := by omega
      by_cases k2 : 20 < x.length
      · have e2 : decide ((20 : Int) < (x.length : Int)) = true := by rw [decide_eq_true_eq]; omega
        have hR := hB (by unfold aZ; rw [if_pos (by right; exact k2)])
        (any_goals refine go lv75 0 ?_)
        all_goals (try simp only [go_sem, hR])
      have e2 : decide ((20 : Int) < (x.length : Int)) = false := by rw [decide_eq_false_iff_not]; omega
      have rU := rowU (by omega)
      have oU : (U.out.getD m []).length ≤ 20 := outU _ (by
        have : m < U.out.length := by omega
        simp [List.getD, List.getElem?_eq_getElem this])
      generalize ho : U.out.getD m [] = o at *
      have lo : (o.map tryR).length = o.length := List.length_map ..
      cases hsm : U.seen.getD m false with
      | false =>
        rw [hsm] at rU
        simp only [kC, cond_false] at rU
        have hC : aZ f m x U = ⟨U.seen.set m true, U.out.set m x, U.todo ++ [(m : Int)], U.bad⟩ := by
          unfold aZ; rw [if_neg (by omega), t4, if_pos hsm]
        have hK : (knC U).set m [Bv true, cM x] = knC (aZ f m x U) := by rw [hC]; exact setU _ _
        have e5 : decide (U.todo ++ [(m : Int)] = []) = false := by simp
        (any_goals refine go lv75 0 ?_)
        repeat' (first | (refine Br.go (fun h h' => ?_) (fun h h' => ?_)) | (refine Br.mk (fun h => ?_) (fun h => ?_)))
        all_goals
          refine ⟨j + 1, ⟨by omega, by rw [hN, hC]; exact hjb⟩, by omega, ?_⟩
          rw [hN, hC, hjb, e5]
          exact aY [1, 4, 5, 6, 27, 28, 29, 12, 108, 109, 110]
      | true =>
        rw [hsm] at rU
        simp only [kC, cond_true] at rU
        by_cases hox : o = x
        · subst hox
          have hC : aZ f m o U = U := by unfold aZ; rw [if_neg (by omega), t4, if_neg (by rw [hsm]; simp), if_pos ho]
          have hK : (knC U).set m [Bv true, cM o] = knC U := sameU (by omega) hsm rfl
          (any_goals refine go lv75 0 ?_)
          repeat' (first | (refine Br.go (fun h h' => ?_) (fun h h' => ?_)) | (refine Br.mk (fun h => ?_) (fun h => ?_)))
          all_goals
            refine ⟨j + 1, ⟨by omega, by rw [hN, hC]; exact hjb⟩, by omega, ?_⟩
            rw [hN, hC, h]
            exact aY [1, 4, 5, 6, 27, 28, 29, 12, 108, 109, 110]
        · have e7 : decide (o = x) = false := by simpa using hox
          have hR := hB (by unfold aZ; rw [if_neg (by omega), t4, if_neg (by rw [hsm]; simp), if_neg (by rw [ho]; exact hox)])
          (any_goals refine go lv75 0 ?_)
          all_goals (try simp only [go_sem, hR])
def dcau (f : FnT) (c : Int) : Bool := decide (f.regs ≤ c) || decide (c < -(f.caught.length : Int))
theorem aLd (p : aI) (f : FnT) (n op a b c line : Int) (hf : Fok f) (hp : Psz p) (hE : (decide (aL op = ⟨#[]⟩) || !decide (0 ≤ line ∧ line ≤ 2000)) = false) (hs : (aL op).size = 3) (wm : ∀ ch, IntKind.i64.wrap (bL p f ch - 1) = bL p f ch - 1) (k0 : (!decide (0 ≤ a ∧ a ≤ bL p f (((aL op).data.toList.getD 0 0).toNat : Int) - 1)) = false) (m0 : (decide ((((aL op).data.toList.getD 0 0).toNat : Int) = 102) && decide (a = 0)) = false) (k1 : (!decide (0 ≤ b ∧ b ≤ bL p f (((aL op).data.toList.getD 1 0).toNat : Int) - 1)) = false) (m1 : (decide ((((aL op).data.toList.getD 1 0).toNat : Int) = 102) && decide (b = 0)) = false) (k2 : (!decide (0 ≤ c ∧ c ≤ bL p f (((aL op).data.toList.getD 2 0).toNat : Int) - 1)) = false) (m2 : (decide ((((aL op).data.toList.getD 2 0).toNat : Int) = 102) && decide (c = 0)) = false) (o1 : decide (op = 14) = false) (o2 : decide (op = 19) = false) (o3 : decide (op = 27) = false) (o4 : decide (op = 32) = false) (o5 : decide (op = 26) = true) (g : FnT) (hg : p.fns[b.toNat]? = some g) (hb : 0 ≤ b) (hgc : g.caught.length ≤ 9223372036854775807) : FC Cx 74 [bC p, fnA f, Iv n, insA ⟨op, a, b, c, line⟩] [] (Bv (!(g.caught.any (dcau f)))) [] := by
 have s0 : (0 : Int) < ((aL op).size : Int) := by rw [hs]; omega
 have s1 : (1 : Int) < ((aL op).size : Int) := by rw [hs]; omega
 have s2 : (2 : Int) < ((aL op).size : Int) := by rw [hs]; omega
 have k1' : (!decide (b ≤ bL p f (((aL op).data.toList.getD 1 0).toNat : Int) - 1)) = false := by simp only [hb, true_and] at k1; exact k1
 have hl : (p.fns.map fnR).length = p.fns.length := List.length_map ..
 have hgd := aE fnR hg ([] : List RV)
 have hlt : b < (p.fns.length : Int) := by have := (List.getElem?_eq_some_iff.1 hg).1; omega
 have hlc : (g.caught.map intR).length = g.caught.length := List.length_map ..
 have hlf : (f.caught.map intR).length = f.caught.length := List.length_map ..
 refine aD [fO, fN, aU] Tryz.func74 Tryz.ntmps74 Tryz.results74 ?_
 refine goR ?_
 refine fzB 4 ?_
 refine fzB 5 ?_
 refine fzB 7 ?_
 (any_goals refine go (eM 21 lv74) 3 ?_)
 (any_goals refine go lv74 0 ?_)
 refine jD [5, 99, 100, 101] (fun i => i ≤ g.caught.length ∧ ∀ j x, j < i → g.caught[j]? = some x → dcau f x = false)
  (fun (i : Nat) => ⟨118, [(5, .r (.rp (fnR f))), (99, dF g.caught), (100, Iv g.caught.length), (101, Iv i)], [(4, 2, .gone), (5, 2, .gone), (7, 2, .gone)]⟩) (fun i => g.caught.length - i) 0 rfl rfl ⟨rfl, .inl ⟨rfl, rfl⟩, rfl, .inl ⟨rfl, rfl⟩, rfl, .inl ⟨rfl, rfl⟩, trivial⟩ ⟨Nat.zero_le _, fun j x hj => by omega⟩ ?_
 rintro i ⟨hi, hno⟩
 by_cases hlt' : i < g.caught.length
 ·obtain ⟨x, hx⟩ : ∃ x, g.caught[i]? = some x := ⟨g.caught[i], List.getElem?_eq_getElem hlt'⟩
  have hgx := aE intR hx ([] : List RV)
  have hw : IntKind.i64.wrap ((i : Int) + 1) = ((i + 1 : Nat) : Int) := by rw [aN] <;> omega
  have h1 : decide ((i : Int) < (g.caught.length : Int)) = true := by rw [decide_eq_true_eq]; omega
  have h2 : Int.toNat (i : Int) = i := by omega
  have hn1 : IntKind.i64.wrap (0 - (f.caught.length : Int)) = -(f.caught.length : Int) := by have := hf.caught; rw [aN] <;> omega
  have hn2 : IntKind.i64.wrap (-(f.caught.length : Int)) = -(f.caught.length : Int) := by have := hf.caught; rw [aN] <;> omega
  cases hp : dcau f x with
  | true =>
   have hp' : (decide (f.regs ≤ x) || decide (x < -(f.caught.length : Int))) = true := hp
   have hany : g.caught.any (dcau f) = true := List.any_eq_true.2 ⟨x, List.mem_of_getElem? hx, hp⟩
   clear hp
   (any_goals refine go lv74 0 ?_)
   all_goals (try simp only [go_sem])
   rw [hany]; rfl
  | false =>
   have hp' : (decide (f.regs ≤ x) || decide (x < -(f.caught.length : Int))) = false := hp
   clear hp
   (any_goals refine go lv74 0 ?_)
   refine ⟨i + 1, ⟨by omega, fun j y hj hy => ?_⟩, by omega, gP [5, 99, 100, 101] rfl rfl ⟨rfl, .inl ⟨rfl, rfl⟩, rfl, .inl ⟨rfl, rfl⟩, rfl, .inl ⟨rfl, rfl⟩, trivial⟩⟩
   rcases Nat.lt_succ_iff_lt_or_eq.1 hj with h3 | h3
   ·exact hno j y h3 hy
   ·subst h3; rw [hx] at hy; cases hy; exact hp'
 ·have h1 : decide ((i : Int) < (g.caught.length : Int)) = false := by rw [decide_eq_false_iff_not]; omega
  have hany : g.caught.any (dcau f) = false := List.any_eq_false.2 fun x hx => by
   obtain ⟨j, hj, rfl⟩ := List.getElem_of_mem hx
   have := hno j _ (by omega) (List.getElem?_eq_getElem hj)
   rw [this]; simp
  (any_goals refine go lv74 0 ?_)
  all_goals (try simp only [go_sem])
  rw [hany]; rfl
def dB (op : Int) (j : Nat) : Int := ((aL op).data.toList.getD j 0).toNat
def dnam (p : aI) (f : FnT) (d x : Int) : Bool := decide (0 ≤ x ∧ x ≤ bL p f d - 1) && !(decide (d = 102) && decide (x = 0))
def Ix (c d : Int) : Bool := decide (c = d ∧ (c = 114 ∨ c = 107 ∨ c = 116 ∨ c = 117 ∨ c = 102 ∨ c = 108 ∨ c = 110)) || decide (c = 45 ∧ d = 46) || decide (c = 97 ∧ d = 112)
theorem uX (p : aI) (f : FnT) {c d x : Int} (h : Ix c d = true) : namesF p f c x = dnam p f d x := by
 simp only [Ix, Bool.or_eq_true, decide_eq_true_eq] at h
 rw [Bool.eq_iff_iff]
 unfold dnam
 rcases h with (⟨rfl, rfl | rfl | rfl | rfl | rfl | rfl | rfl⟩ | ⟨rfl, rfl⟩) | ⟨rfl, rfl⟩
 all_goals simp [namesF, oW, bL, wiF]
 all_goals omega
theorem Nl {op : Int} (h : ¬ (op < 1 ∨ 39 ≤ op)) : Ix (fB op 0) (dB op 0) = true ∧ Ix (fB op 2) (dB op 2) = true ∧ (op ≠ 27 → Ix (fB op 1) (dB op 1) = true) := by
 rcases ors h with rfl | rfl | rfl | rfl | rfl | rfl | rfl | rfl | rfl | rfl | rfl | rfl | rfl | rfl | rfl | rfl | rfl | rfl | rfl | rfl | rfl | rfl | rfl | rfl | rfl | rfl | rfl | rfl | rfl | rfl | rfl | rfl | rfl | rfl | rfl | rfl | rfl | rfl <;> exact ⟨rfl, rfl, fun h => by first | rfl | exact absurd rfl h⟩
theorem aHg {f : FnT} (hr : 0 ≤ f.regs) (c : Int) : dcau f c = cauF f c := by
 rw [Bool.eq_iff_iff]
 unfold dcau cauF wiF
 simp
 omega
def Ac (p : aI) (f : FnT) (n : Int) (i : InsT) : Bool :=
 if (decide (aL i.op = ⟨#[]⟩) || !decide (0 ≤ i.line ∧ i.line ≤ 2000)) = true then false else
 if (dnam p f (dB i.op 0) i.a && dnam p f (dB i.op 1) i.b && dnam p f (dB i.op 2) i.c) = false then false else
 if i.op = 14 then decide (i.a ≤ n) else if i.op = 19 then decide (i.b + i.c ≤ f.regs) else if i.op = 27 then decide (i.b + i.c < f.regs) else if i.op = 32 then f.gen else
 if i.op = 26 then !((p.fns.getD i.b.toNat fn0).caught.any (dcau f)) else true
theorem Cb {op : Int} : decide (aL op = ⟨#[]⟩) = decide (op < 1 ∨ 39 ≤ op) := by
 by_cases h : op < 1 ∨ 39 ≤ op
 ·rw [decide_eq_true h]; unfold aL; rw [if_pos h]; rfl
 ·rw [decide_eq_false h, decide_eq_false_iff_not]
  intro e
  have := yZ h
  rw [e] at this; cases this
theorem Vc (p : aI) (f : FnT) (n : Int) (i : InsT) (hr : 0 ≤ f.regs) : Ac p f n i = fH p f n i := by
 unfold Ac fH
 rw [Cb]
 by_cases h : i.op < 1 ∨ 39 ≤ i.op
 ·rw [decide_eq_true h, if_pos h]; rfl
 ·rw [decide_eq_false h, if_neg h]
  obtain ⟨h0, h2, h1⟩ := Nl h
  have e0 := uX p f (x := i.a) h0
  have e2 := uX p f (x := i.c) h2
  have hc : (p.fns.getD i.b.toNat fn0).caught.any (dcau f) = (p.fns.getD i.b.toNat fn0).caught.any (cauF f) := by
   congr 1; exact funext (aHg hr)
  have hl : wiF i.line 0 2000 = decide (0 ≤ i.line ∧ i.line ≤ 2000) := rfl
  unfold kL qH
  rw [hc, e0, e2, hl]
  by_cases h27 : i.op = 27
  ·have q1 : fB i.op 1 = 99 := by rw [h27]; rfl
   have q2 : dB i.op 1 = 114 := by rw [h27]; rfl
   have q3 : dB i.op 2 = 110 := by rw [h27]; rfl
   have w1 : namesF p f 99 i.b = decide (0 ≤ i.b ∧ i.b ≤ f.regs) := by simp [namesF, wiF]
   have w2 : dnam p f 114 i.b = decide (0 ≤ i.b ∧ i.b ≤ f.regs - 1) := by simp [dnam, bL]
   have w3 : dnam p f 110 i.c = decide (0 ≤ i.c ∧ i.c ≤ f.regs) := by simp [dnam, bL]
   rw [q1, q2, q3, h27, w1, w2, w3]
   generalize dnam p f (dB 27 0) i.a = A
   generalize decide (0 ≤ i.line ∧ i.line ≤ 2000) = L
   cases L <;> cases A
   ·rfl
   ·rfl
   ·simp
   ·simp only [Bool.not_true, Bool.or_false, Bool.true_and, Bool.false_eq_true, if_false]
    rw [Bool.eq_iff_iff]
    by_cases g1 : 0 ≤ i.b ∧ i.b ≤ f.regs - 1
    ·by_cases g2 : 0 ≤ i.c ∧ i.c ≤ f.regs
     ·have g3 : 0 ≤ i.b ∧ i.b ≤ f.regs := by omega
      simp [g1, g2, g3, wiF]
      omega
     ·simp [g2]
    ·by_cases g3 : 0 ≤ i.b ∧ i.b ≤ f.regs
     ·by_cases g2 : 0 ≤ i.c ∧ i.c ≤ f.regs
      ·simp [g1, g2, g3, wiF]
       omega
      ·simp [g2]
     ·simp [g1, g3]
  ·rw [← uX p f (x := i.b) (h1 h27)]
   generalize dnam p f (dB i.op 0) i.a = A
   generalize dnam p f (dB i.op 2) i.c = B
   generalize namesF p f (fB i.op 1) i.b = D
   generalize decide (0 ≤ i.line ∧ i.line ≤ 2000) = L
   cases L <;> cases A <;> cases B <;> cases D <;> simp [h27]
   by_cases h26 : i.op = 26
   ·simp [h26]
   ·simp [h26]
theorem Va {p : aI} {f : FnT} (hf : Fok f) (hp : Psz p) (ch : Int) : IntKind.i64.wrap (bL p f ch - 1) = bL p f ch - 1 := by
 have h1 := hp.fns; have h2 := hp.consts; have h3 := hp.texts; have h4 := hf.caught; have h5 := hf.code; have hr := hf.regs
 have : 0 ≤ bL p f ch ∧ bL p f ch ≤ 9223372036854775807 := by
  unfold bL
  repeat' split
  all_goals omega
 rw [aN] <;> omega
theorem Oc {p : aI} {f : FnT} {d x : Int} : dnam p f d x = (!(!decide (0 ≤ x ∧ x ≤ bL p f d - 1)) && !(decide (d = 102) && decide (x = 0))) := by
 unfold dnam; rw [Bool.not_not]
theorem Vn (p : aI) (f : FnT) (n op a b c line : Int) (hf : Fok f) (hp : Psz p) (hcau : ∀ g ∈ p.fns, g.caught.length ≤ 9223372036854775807) :
  FC Cx 74 [bC p, fnA f, Iv n, insA ⟨op, a, b, c, line⟩] [] (Bv (Ac p f n ⟨op, a, b, c, line⟩)) [] := by
 have wm := Va (p := p) hf hp
 have hr := hf.regs
 unfold Ac
 simp only [Oc]
 cases hE : (decide (aL op = ⟨#[]⟩) || !decide (0 ≤ line ∧ line ≤ 2000)) with
 | true => rw [if_pos rfl]; exact aXa p f n op a b c line hf hp hE
 | false =>
  rw [if_neg (by simp)]
  have hop : ¬ (op < 1 ∨ 39 ≤ op) := by
   have h1 := hE
   simp only [Bool.or_eq_false_iff] at h1
   rw [Cb] at h1
   simpa using h1.1
  have hs := yZ hop
  cases k0 : (!decide (0 ≤ a ∧ a ≤ bL p f (dB op 0) - 1)) with
  | true => exact aKm p f n op a b c line hf hp hE hs wm k0
  | false =>
  cases m0 : (decide (dB op 0 = 102) && decide (a = 0)) with
  | true => exact aNx p f n op a b c line hf hp hE hs wm k0 m0
  | false =>
  cases k1 : (!decide (0 ≤ b ∧ b ≤ bL p f (dB op 1) - 1)) with
  | true => exact aJ1 p f n op a b c line hf hp hE hs wm k0 m0 k1
  | false =>
  cases m1 : (decide (dB op 1 = 102) && decide (b = 0)) with
  | true => exact aNn p f n op a b c line hf hp hE hs wm k0 m0 k1 m1
  | false =>
  cases k2 : (!decide (0 ≤ c ∧ c ≤ bL p f (dB op 2) - 1)) with
  | true => exact aNw p f n op a b c line hf hp hE hs wm k0 m0 k1 m1 k2
  | false =>
  cases m2 : (decide (dB op 2 = 102) && decide (c = 0)) with
  | true => exact aLb p f n op a b c line hf hp hE hs wm k0 m0 k1 m1 k2 m2
  | false =>
  rw [if_neg (by decide)]
  have q1 : 0 ≤ b ∧ b ≤ bL p f (dB op 1) - 1 := by simpa using k1
  have q2 : 0 ≤ c ∧ c ≤ bL p f (dB op 2) - 1 := by simpa using k2
  cases o1 : decide (op = 14) with
  | true => rw [if_pos (by simpa using o1)]; exact aK7 p f n op a b c line hf hp hE hs wm k0 m0 k1 m1 k2 m2 o1
  | false =>
  rw [if_neg (by simpa using o1)]
  cases o2 : decide (op = 19) with
  | true =>
   have e : op = 19 := by simpa using o2
   rw [if_pos e]
   have e1 : bL p f (dB op 1) = f.regs + 1 := by rw [e]; rfl
   have e2 : bL p f (dB op 2) = f.regs + 1 := by rw [e]; rfl
   rw [e1] at q1; rw [e2] at q2
   exact aMa p f n op a b c line hf hp hE hs wm k0 m0 k1 m1 k2 m2 o1 o2 (by rw [aN] <;> omega)
  | false =>
  rw [if_neg (by simpa using o2)]
  cases o3 : decide (op = 27) with
  | true =>
   have e : op = 27 := by simpa using o3
   rw [if_pos e]
   have e1 : bL p f (dB op 1) = f.regs := by rw [e]; rfl
   have e2 : bL p f (dB op 2) = f.regs + 1 := by rw [e]; rfl
   rw [e1] at q1; rw [e2] at q2
   exact aKz p f n op a b c line hf hp hE hs wm k0 m0 k1 m1 k2 m2 o1 o2 o3 (by rw [aN] <;> omega)
  | false =>
  rw [if_neg (by simpa using o3)]
  cases o4 : decide (op = 32) with
  | true => rw [if_pos (by simpa using o4)]; exact aKj p f n op a b c line hf hp hE hs wm k0 m0 k1 m1 k2 m2 o1 o2 o3 o4
  | false =>
  rw [if_neg (by simpa using o4)]
  cases o5 : decide (op = 26) with
  | true =>
   have e : op = 26 := by simpa using o5
   rw [if_pos e]
   have e1 : bL p f (dB op 1) = (p.fns.length : Int) := by rw [e]; rfl
   rw [e1] at q1
   have hlt : b.toNat < p.fns.length := by omega
   have hg : p.fns[b.toNat]? = some p.fns[b.toNat] := List.getElem?_eq_getElem hlt
   have hgd : p.fns.getD b.toNat fn0 = p.fns[b.toNat] := by simp [List.getD, hg]
   rw [hgd]
   exact aLd p f n op a b c line hf hp hE hs wm k0 m0 k1 m1 k2 m2 o1 o2 o3 o4 o5 _ hg q1.1 (hcau _ (List.getElem_mem hlt))
  | false =>
   rw [if_neg (by simpa using o5)]
   exact aRc p f n op a b c line hf hp hE hs wm k0 m0 k1 m1 k2 m2 o1 o2 o3 o4 o5
theorem Wv (p : aI) (f : FnT) (n : Int) (i : InsT) (hf : Fok f) (hp : Psz p) (hcau : ∀ g ∈ p.fns, g.caught.length ≤ 9223372036854775807) :
  FC Cx 74 [bC p, fnA f, Iv n, insA i] [] (Bv (fH p f n i)) [] := by
 rw [← Vc p f n i (by have := hf.regs; omega)]
 exact Vn p f n i.op i.a i.b i.c i.line hf hp hcau
def Cau (p : aI) : Prop := ∀ g ∈ p.fns, g.caught.length ≤ 9223372036854775807
theorem Tx (xs ys zs : List (List RV)) (pa rg : Int) (ge : Bool) (us vs : List (List RV)) (n op a b c line : Int) (h : ((xs = (fnsOf xs).map fnR ∧ ys = (valsOf ys).map valR ∧ zs = (strsOf zs).map strR) ∧ us = (aK us).map intR ∧ vs = (aS vs).map insR) ∧ Fok ⟨pa, rg, ge, aK us, aS vs⟩ ∧ Psz ⟨fnsOf xs, valsOf ys, strsOf zs⟩ ∧ Cau ⟨fnsOf xs, valsOf ys, strsOf zs⟩) : FC Cx 74 [.agg [.r (.rs 5 xs), .r (.rs 2 ys), .r (.rs 1 zs)], .agg [Iv pa, Iv rg, Bv ge, .r (.rs 1 us), .r (.rs 5 vs)], Iv n, .agg [Iv op, Iv a, Iv b, Iv c, Iv line]] [] (Bv (fH ⟨fnsOf xs, valsOf ys, strsOf zs⟩ ⟨pa, rg, ge, aK us, aS vs⟩ n ⟨op, a, b, c, line⟩)) [] := by
 have := Wv ⟨fnsOf xs, valsOf ys, strsOf zs⟩ ⟨pa, rg, ge, aK us, aS vs⟩ n ⟨op, a, b, c, line⟩ h.2.1 h.2.2.1 h.2.2.2
 rwa [kA h.1.1, Eg h.1.2] at this
def qA (args : List AV) (K : AV → Prop) : Prop := match args with
 | [.agg [.r (.rs 5 xs), .r (.rs 2 ys), .r (.rs 1 zs)], .agg [.r (.v (.int .i64 pa)), .r (.v (.int .i64 rg)), .r (.v (.bool ge)), .r (.rs 1 us), .r (.rs 5 vs)], .r (.v (.int .i64 n)), .agg [.r (.v (.int .i64 op)), .r (.v (.int .i64 a)), .r (.v (.int .i64 b)), .r (.v (.int .i64 c)), .r (.v (.int .i64 line))]] => (((xs = (fnsOf xs).map fnR ∧ ys = (valsOf ys).map valR ∧ zs = (strsOf zs).map strR) ∧ us = (aK us).map intR ∧ vs = (aS vs).map insR) ∧ Fok ⟨pa, rg, ge, aK us, aS vs⟩ ∧ Psz ⟨fnsOf xs, valsOf ys, strsOf zs⟩ ∧ Cau ⟨fnsOf xs, valsOf ys, strsOf zs⟩) ∧ K (Bv (fH ⟨fnsOf xs, valsOf ys, strsOf zs⟩ ⟨pa, rg, ge, aK us, aS vs⟩ n ⟨op, a, b, c, line⟩))
 | _ => False
noncomputable abbrev Nw : Ct Cx := .pure 74 qA fun args K h => by
 unfold qA at h; split at h; exact ⟨_, aA (Tx _ _ _ _ _ _ _ _ _ _ _ _ _ _ h.1) en74 rfl rfl, h.2⟩; exact h.elim
@[go_sem] theorem aCl : type_of% @qA.eq_def := @qA.eq_def
theorem yN (f : FnT) (hk : Cok f) : FC Cx 75 [fnA f] [] (docR f) [] := by
 rcases Nat.eq_zero_or_pos f.code.length with h | h
 ·obtain ⟨pa, rg, ge, us, code⟩ := f
  have : code = [] := List.length_eq_zero_iff.1 h
  subst this
  exact aCc pa rg ge us
 ·exact aD7 f h hk
theorem Rj {f : FnT} (hk : Cok f) : (docW f).bad = (bN f).bad := by
 rcases Nat.eq_zero_or_pos f.code.length with h | h
 ·obtain ⟨pa, rg, ge, us, code⟩ := f
  have : code = [] := List.length_eq_zero_iff.1 h
  subst this
  rfl
 ·exact (Lg hk h).1
theorem Xy (pa rg : Int) (ge : Bool) (us vs : List (List RV)) (h : (us = (aK us).map intR ∧ vs = (aS vs).map insR) ∧ Cok ⟨pa, rg, ge, aK us, aS vs⟩) : FC Cx 75 [.agg [Iv pa, Iv rg, Bv ge, .r (.rs 1 us), .r (.rs 5 vs)]] [] (docR ⟨pa, rg, ge, aK us, aS vs⟩) [] := by
 have := yN ⟨pa, rg, ge, aK us, aS vs⟩ h.2
 rwa [Eg h.1] at this
def pS (args : List AV) (K : AV → Prop) : Prop := match args with
 | [.agg [.r (.v (.int .i64 pa)), .r (.v (.int .i64 rg)), .r (.v (.bool ge)), .r (.rs 1 us), .r (.rs 5 vs)]] => ((us = (aK us).map intR ∧ vs = (aS vs).map insR) ∧ Cok ⟨pa, rg, ge, aK us, aS vs⟩) ∧ K (docR ⟨pa, rg, ge, aK us, aS vs⟩)
 | _ => False
theorem Gz (args : List AV) (K : AV → Prop) (h : pS args K) : ∃ r, aQ Cx 75 args r ∧ K r := by
 unfold pS at h
 split at h
 ·exact ⟨_, aA (Xy _ _ _ _ _ h.1) en75 rfl (by unfold docR; cases (docW _).bad <;> rfl), h.2⟩
 ·exact h.elim
noncomputable def yD : Ct Cx := .pure 75 pS Gz
@[go_sem] theorem aJq : yD.g = 75 := rfl
@[go_sem] theorem aC2 (c : Call) (fop : Operand) (caps : List AV) (o : Oper) (st : St) (K : List Loc → List (Loc × Cont) → Prop) : yD.run c fop caps o st K = vY Cx pS c fop caps o st K := rfl
@[go_sem] theorem aFl (args : List AV) (K : AV → Prop) : pS args K = (match args with
 | [.agg [.r (.v (.int .i64 pa)), .r (.v (.int .i64 rg)), .r (.v (.bool ge)), .r (.rs 1 us), .r (.rs 5 vs)]] => ((us = (aK us).map intR ∧ vs = (aS vs).map insR) ∧ Cok ⟨pa, rg, ge, aK us, aS vs⟩) ∧ K (docR ⟨pa, rg, ge, aK us, aS vs⟩)
 | _ => False) := rfl
theorem rZ {α : Type} {l : List α} {k : Nat} {x : α} (h : l[k]? = some x) (q : α → Bool) : (l.take (k + 1)).any q = ((l.take k).any q || q x) := by
 rw [List.take_add_one, h]; simp
theorem hZ {α : Type} {l : List α} {k : Nat} {x : α} (h : l[k]? = some x) (q : α → Bool) : (l.take (k + 1)).all q = ((l.take k).all q && q x) := by
 rw [List.take_add_one, h]; simp
def tOne (l : List ByteArray) (j : Nat) : Bool := (decide (19 ≤ j) || decide (l.getD j ⟨#[]⟩ = cJ.getD j ⟨#[]⟩)) && (l.take j).all fun u => !decide (l.getD j ⟨#[]⟩ = u)
def tOk (l : List ByteArray) (k : Nat) : Bool := (List.range k).all (tOne l)
theorem Ja (l : List ByteArray) (k : Nat) : tOk l (k + 1) = (tOk l k && tOne l k) := by
 unfold tOk; rw [List.range_succ]; simp
theorem mM : cJ.length = 19 := rfl
theorem Qe (l : List ByteArray) (h19 : 19 ≤ l.length) : tOk l l.length = (decide (l.take 19 = cJ) && decide l.Nodup) := by
 rw [Bool.eq_iff_iff]
 simp only [tOk, tOne, List.all_eq_true, List.mem_range, Bool.and_eq_true, Bool.or_eq_true, decide_eq_true_eq, Bool.not_eq_true', decide_eq_false_iff_not]
 constructor
 ·intro h
  refine ⟨?_, ?_⟩
  ·apply List.ext_getElem?
   intro j
   rw [List.getElem?_take]
   by_cases hj : j < 19
   ·rw [if_pos hj]
    have h1 := (h j (by omega)).1
    have h2 : l.getD j ⟨#[]⟩ = cJ.getD j ⟨#[]⟩ := h1.resolve_left (by omega)
    have q1 : j < l.length := by omega
    have q2 : j < cJ.length := by rw [mM]; exact hj
    simp only [List.getD, List.getElem?_eq_getElem q1, List.getElem?_eq_getElem q2, Option.getD_some] at h2
    rw [List.getElem?_eq_getElem q1, List.getElem?_eq_getElem q2, h2]
   ·rw [if_neg hj, List.getElem?_eq_none (by rw [mM]; omega)]
  ·have := qQ l.length (Nat.le_refl _) fun j x hj hx hm => by
    refine (h j hj).2 x hm ?_
    simp [List.getD, hx]
   rwa [List.take_length] at this
 ·rintro ⟨hw, hn⟩ j hj
  have q1 : l[j]? = some l[j] := List.getElem?_eq_getElem hj
  have e1 : l.getD j ⟨#[]⟩ = l[j] := by simp [List.getD, q1]
  refine ⟨?_, fun u hu he => ?_⟩
  ·rcases Nat.lt_or_ge j 19 with h | h
   ·right
    rw [← hw]
    simp [List.getD, List.getElem?_take, h]
   ·exact .inl h
  ·rw [e1] at he
   exact yA q1 (by rw [he]; exact hu) hn
def uK (p : aI) : Bool := decide (19 ≤ p.texts.length) && decide (0 < p.fns.length) && tOk p.texts p.texts.length && (p.consts.all fun v => !badV p v) && eJ p && p.fns.all (bQ p)
theorem Qs {α : Type} (l : List α) (q : α → Bool) : l.any q = !(l.all fun x => !q x) := by
 induction l with
 | nil => rfl
 | cons x l ih => simp only [List.any_cons, List.all_cons, ih, Bool.not_and, Bool.not_not]
theorem Mb (p : aI) : checkF p = if nB p = true then 2 else if uK p = true then 0 else 3 := by
 unfold checkF
 split
 ·rfl
 by_cases h19 : 19 ≤ p.texts.length
 case neg =>
  have h1 : dV p = false := by unfold dV; rw [decide_eq_false h19]; rfl
  have h2 : uK p = false := by unfold uK; rw [decide_eq_false h19]; rfl
  rw [if_pos h1, h2]; rfl
 have hT : dV p = (tOk p.texts p.texts.length && p.consts.all fun v => !badV p v) := by
  unfold dV
  rw [decide_eq_true h19, Qe p.texts h19, Qs p.consts, Bool.not_not, Bool.true_and]
 have hR : uK p = (decide (0 < p.fns.length) && dV p && eJ p && p.fns.all (bQ p)) := by
  unfold uK
  rw [hT, decide_eq_true h19, Bool.true_and]
  simp only [Bool.and_assoc]
 rw [hR]
 cases dV p with
 | false => simp
 | true =>
  rw [if_neg (by simp)]
  cases hf : p.fns with
  | nil => simp [eJ, hf]
  | cons f0 rest =>
   cases h1 : eJ p with
   | false => simp
   | true =>
    rw [Qs]
    simp only [List.length_cons, Nat.zero_lt_succ, decide_true, Bool.true_and, Bool.not_not]
    cases (f0 :: rest).all (bQ p) <;> simp
theorem Yb (p : aI) (v : Int × Int) (b : Bool) : (b && fV v.1 v.2 && !decide (v.1 = 5) && (!decide (v.1 = 4) || decide (v.2 < (p.texts.length : Int)))) = (b && !badV p v) := by
 unfold badV
 have e : decide (v.2 < (p.texts.length : Int)) = !decide ((p.texts.length : Int) ≤ v.2) := by
  rw [Bool.eq_iff_iff]; simp
 rw [e]
 cases b <;> cases fV v.1 v.2 <;> cases decide (v.1 = 5) <;> cases decide (v.1 = 4) <;> simp
def rS (p : aI) (b : Bool) (k : Nat) : Bool := b && (decide (k = 0) || eJ p) && (p.fns.take k).all (bQ p)
theorem Pp {p : aI} {b : Bool} {k : Nat} {f : FnT} (h : p.fns[k]? = some f) : rS p b (k + 1) = (b && eJ p && (p.fns.take k).all (bQ p) && bQ p f) := by
 unfold rS
 rw [hZ h]
 simp [Bool.and_assoc]
theorem Kk {p : aI} {b : Bool} {k : Nat} (hk : k ≤ p.fns.length) (h : rS p b k = false) (hb : b = false ∨ 0 < p.fns.length) : (b && eJ p && p.fns.all (bQ p)) = false := by
 cases h1 : b with
 | false => rfl
 | true =>
  unfold rS at h
  rw [h1, Bool.true_and] at h
  cases h2 : eJ p with
  | false => rfl
  | true =>
   rw [h2, Bool.or_true, Bool.true_and] at h
   simp only [Bool.true_and]
   rw [Bool.eq_false_iff]
   intro h3
   rw [Bool.eq_false_iff] at h
   exact h (List.all_eq_true.2 fun x hx => List.all_eq_true.1 h3 x (List.mem_of_mem_take hx))
theorem aH2 {p : aI} {b : Bool} {f : FnT} {k : Nat} (h : p.fns[k]? = some f) (hf : bQ p f = false) : (b && eJ p && p.fns.all (bQ p)) = false := by
 have : p.fns.all (bQ p) = false := by
  rw [Bool.eq_false_iff]; intro h3
  have := List.all_eq_true.1 h3 f (List.mem_of_getElem? h)
  rw [hf] at this; cases this
 rw [this]; simp
theorem Mq {p : aI} {f : FnT} (hf : p.fns[0]? = some f) : eJ p = (decide (f.params = 0) && decide ((f.caught.length : Int) = 0) && !f.gen) := by
 unfold eJ
 cases hfs : p.fns with
 | nil => rw [hfs] at hf; cases hf
 | cons g r =>
  rw [hfs] at hf
  have : g = f := by simpa using hf
  subst this
  have : decide ((g.caught.length : Int) = 0) = !decide ((0 : Int) < (g.caught.length : Int)) := by rw [Bool.eq_iff_iff]; simp
  rw [this]
theorem Im (p : aI) (hwf : Pwf p) : FC Cx 28 [bC p] [] (Iv (checkF p)) [] := by
 have hsz := hwf.sz
 obtain ⟨s1, s2, s3⟩ := hwf.sz
 have l1 : (p.fns.map fnR).length = p.fns.length := List.length_map ..
 have l2 : (p.consts.map valR).length = p.consts.length := List.length_map ..
 have l3 : (p.texts.map strR).length = p.texts.length := List.length_map ..
 rw [Mb]
 refine aD [yD, Nw, mX, aU, yV] Tryz.func28 Tryz.ntmps28 Tryz.results28 ?_
 refine goR ?_
 refine fzB 1 ?_
 (any_goals refine go lv28 0 ?_)
 -- texts that are too long
 generalize hA0 : (decide ((60 : Int) < (p.fns.length : Int)) || decide ((200 : Int) < (p.consts.length : Int)) || decide ((200 : Int) < (p.texts.length : Int))) = A0
 refine cL [1, 3, 36, 37, 38] (fun k : Nat => k ≤ p.texts.length) (fun k => ⟨218, [(1, .r (.rp (cQ p))), (3, Bv (A0 || (p.texts.take k).any bigS)), (36, bZ p.texts), (37, Iv p.texts.length), (38, Iv k)], [(1, 2, .gone)]⟩) (fun k => p.texts.length - k) 0 (Nat.zero_le _) ?_ rfl (by simp [cG, memN, hA0])
 intro k hk
 by_cases hlt : k < p.texts.length
 case pos =>
  have c1 : decide ((k : Int) < (p.texts.length : Int)) = true := by rw [decide_eq_true_eq]; omega
  have t1 : Int.toNat (k : Int) = k := by omega
  have w1 : IntKind.i64.wrap ((k : Int) + 1) = ((k + 1 : Nat) : Int) := by rw [aN] <;> omega
  obtain ⟨s, hs⟩ : ∃ s, p.texts[k]? = some s := ⟨p.texts[k], List.getElem?_eq_getElem hlt⟩
  have hg := aE strR hs ([] : List RV)
  (any_goals refine go lv28 0 ?_)
  refine ⟨k + 1, by omega, by omega, ?_⟩
  rw [rZ hs, ← Bool.or_assoc]
  exact aY [1, 3, 36, 37, 38]
 obtain rfl : k = p.texts.length := by omega
 have c1 : decide ((p.texts.length : Int) < (p.texts.length : Int)) = false := by rw [decide_eq_false_iff_not]; omega
 have c2 : (A0 || p.texts.any bigS || p.fns.any bigF) = nB p := by rw [← hA0]; rfl
 rw [List.take_length]
 clear hlt hk
 generalize hA1 : (A0 || p.texts.any bigS) = A1 at *
 (any_goals refine go lv28 0 ?_)
 clear c1
 -- functions that are too large
 refine cL [1, 3, 50, 51, 52] (fun x : Nat × Nat => x.1 ≤ p.fns.length) (fun x => let k := x.1; let u := x.2; ⟨218, [(1, .r (.rp (cQ p))), (3, Bv (A1 || (p.fns.take k).any bigF)), (50, fnsV p.fns), (51, Iv p.fns.length), (52, Iv k)], [(1, 2, .gone), (7, u, .gone), (14, u, .gone), (16, u, .gone), (18, u, .gone)]⟩) (fun x => p.fns.length - x.1) (0, 0) (Nat.zero_le _) ?_ rfl (by simp [cG, memN])
 rintro ⟨k, u⟩ hk
 dsimp only at hk
 dsimp only
 by_cases hlt : k < p.fns.length
 case pos =>
  have c1 : decide ((k : Int) < (p.fns.length : Int)) = true := by rw [decide_eq_true_eq]; omega
  have t1 : Int.toNat (k : Int) = k := by omega
  have w1 : IntKind.i64.wrap ((k : Int) + 1) = ((k + 1 : Nat) : Int) := by rw [aN] <;> omega
  obtain ⟨f, hf⟩ : ∃ s, p.fns[k]? = some s := ⟨p.fns[k], List.getElem?_eq_getElem hlt⟩
  have hg := aE fnR hf ([] : List RV)
  have l4 : (f.code.map insR).length = f.code.length := List.length_map ..
  (any_goals refine go lv28 0 ?_)
  refine ⟨(k + 1, u + 9), by dsimp only; omega, by dsimp only; omega, ?_⟩
  dsimp only
  rw [rZ hf, ← Bool.or_assoc]
  unfold bigF
  rw [← Bool.or_assoc]
  exact aY [1, 3, 50, 51, 52]
 obtain rfl : k = p.fns.length := by omega
 have c1 : decide ((p.fns.length : Int) < (p.fns.length : Int)) = false := by rw [decide_eq_false_iff_not]; omega
 rw [List.take_length, c2]
 clear hlt hk c2 hA1
 cases hL : nB p with
 | true =>
  rw [if_pos rfl]
  (any_goals refine go lv28 0 ?_)
  all_goals (try simp only [go_sem])
 | false =>
 rw [if_neg (by simp)]
 have hp := vC hwf hL
 (any_goals refine go lv28 0 ?_)
 clear c1
 -- texts
 generalize hB0 : (decide ((19 : Int) ≤ (p.texts.length : Int)) && decide ((0 : Int) < (p.fns.length : Int))) = B0
 refine cL [1, 8, 81, 82, 83] (fun k : Nat => k ≤ p.texts.length) (fun k => ⟨218, [(1, .r (.rp (cQ p))), (8, Bv (B0 && tOk p.texts k)), (81, bZ p.texts), (82, Iv p.texts.length), (83, Iv k)], [(1, 2, .gone), (7, u, .gone), (14, u, .gone), (16, u, .gone), (18, u, .gone)]⟩) (fun k => p.texts.length - k) 0 (Nat.zero_le _) ?_ rfl (by simp [cG, memN, hB0, tOk])
 intro k hk
 by_cases hlt : k < p.texts.length
 case pos =>
  have c1 : decide ((k : Int) < (p.texts.length : Int)) = true := by rw [decide_eq_true_eq]; omega
  have t1 : Int.toNat (k : Int) = k := by omega
  have w1 : IntKind.i64.wrap ((k : Int) + 1) = ((k + 1 : Nat) : Int) := by rw [aN] <;> omega
  obtain ⟨s, hs⟩ : ∃ s, p.texts[k]? = some s := ⟨p.texts[k], List.getElem?_eq_getElem hlt⟩
  have hg := aE strR hs ([] : List RV)
  have hm : List.drop 0 (List.take k (p.texts.map strR)) = (p.texts.take k).map strR := by rw [List.map_take]; rfl
  have lm : ((p.texts.take k).map strR).length = k := by simp; omega
  have ek : p.texts.getD k ⟨#[]⟩ = s := by simp [List.getD, hs]
  (any_goals refine go (eM 18 lv28) 0 ?_)
  refine mL (st' := ⟨218, [(1, .r (.rp (cQ p))), (8, Bv (B0 && tOk p.texts k && (decide (19 ≤ k) || decide (s = cJ.getD k ⟨#[]⟩)))), (81, bZ p.texts), (82, Iv p.texts.length), (83, Iv k), (9, Iv k), (10, Sv s)], [(1, 2, .gone), (7, u, .gone), (14, u, .gone), (16, u, .gone), (18, u, .gone)]⟩) True rfl ?_ fun _ => ?_
  ·cases hq : (B0 && tOk p.texts k) with
   | false =>
    simp only [Bool.false_and]
    (any_goals refine go lv28 0 ?_)
    all_goals (try simp only [go_sem])
    exact Lx.le (aY [1, 8, 81, 82, 83, 9, 10])
   | true =>
    by_cases h19 : 19 ≤ k
    ·have e2 : decide ((19 : Int) ≤ (k : Int)) = true := by rw [decide_eq_true_eq]; omega
     rw [decide_eq_true h19]
     (any_goals refine go lv28 0 ?_)
     all_goals (try simp only [go_sem])
     exact Lx.le (aY [1, 8, 81, 82, 83, 9, 10])
    ·have e2 : decide ((19 : Int) ≤ (k : Int)) = false := by rw [decide_eq_false_iff_not]; omega
     rw [decide_eq_false h19]
     obtain ⟨x, hx⟩ : ∃ x, cJ[k]? = some x := ⟨cJ[k]'(by rw [mM]; omega), List.getElem?_eq_getElem _⟩
     have hgw := aE strR hx ([] : List RV)
     have ew : cJ.getD k ⟨#[]⟩ = x := by simp [List.getD, hx]
     rw [ew]
     (any_goals refine go lv28 0 ?_)
     all_goals (try simp only [go_sem])
     exact Lx.le (aY [1, 8, 81, 82, 83, 9, 10])
  generalize hX : (B0 && tOk p.texts k && (decide (19 ≤ k) || decide (s = cJ.getD k ⟨#[]⟩))) = X
  (any_goals refine go lv28 0 ?_)
  refine cL [1, 8, 81, 82, 83, 10, 104, 105, 106] (fun i : Nat => i ≤ k) (fun i => ⟨218, [(1, .r (.rp (cQ p))), (8, Bv (X && ((p.texts.take k).take i).all fun u => !decide (s = u))), (81, bZ p.texts), (82, Iv p.texts.length), (83, Iv k), (10, Sv s), (104, bZ (p.texts.take k)), (105, Iv k), (106, Iv i)], [(1, 2, .gone), (7, u, .gone), (14, u, .gone), (16, u, .gone), (18, u, .gone)]⟩) (fun i => k - i) 0 (Nat.zero_le _) ?_ rfl (by simp [cG, memN])
  intro i hi
  by_cases hik : i < k
  case pos =>
   have c2 : decide ((i : Int) < (k : Int)) = true := by rw [decide_eq_true_eq]; omega
   have t2 : Int.toNat (i : Int) = i := by omega
   have w2 : IntKind.i64.wrap ((i : Int) + 1) = ((i + 1 : Nat) : Int) := by rw [aN] <;> omega
   obtain ⟨y, hy⟩ : ∃ s, (p.texts.take k)[i]? = some s := ⟨(p.texts.take k)[i]'(by simp; omega), List.getElem?_eq_getElem _⟩
   have hgy := aE strR hy ([] : List RV)
   (any_goals refine go lv28 0 ?_)
   refine ⟨i + 1, by omega, by omega, ?_⟩
   rw [hZ hy, ← Bool.and_assoc]
   exact aY [1, 8, 81, 82, 83, 10, 104, 105, 106]
  obtain rfl : i = k := by omega
  have c2 : decide ((i : Int) < (i : Int)) = false := by rw [decide_eq_false_iff_not]; omega
  have eX : (X && ((p.texts.take i).take i).all fun u => !decide (s = u)) = (B0 && tOk p.texts (i + 1)) := by
   rw [Ja, ← hX]
   unfold tOne
   rw [ek, List.take_of_length_le (l := p.texts.take i) (by simp; omega)]
   simp only [Bool.and_assoc]
  rw [eX]
  (any_goals refine go lv28 0 ?_)
  refine ⟨i + 1, by omega, by omega, ?_⟩
  exact aY [1, 8, 81, 82, 83]
 obtain rfl : k = p.texts.length := by omega
 have c1 : decide ((p.texts.length : Int) < (p.texts.length : Int)) = false := by rw [decide_eq_false_iff_not]; omega
 clear hlt hk
 generalize hC0 : (B0 && tOk p.texts p.texts.length) = C0
 (any_goals refine go lv28 0 ?_)
 clear c1
 -- constants
 refine cL [1, 8, 119, 120, 121] (fun x : Nat × Nat => x.1 ≤ p.consts.length) (fun x => let k := x.1; let u := x.2; ⟨218, [(1, .r (.rp (cQ p))), (8, Bv (C0 && (p.consts.take k).all fun v => !badV p v)), (119, aT p.consts), (120, Iv p.consts.length), (121, Iv k)], [(1, 2, .gone), (7, u, .gone), (14, u, .gone), (16, u, .gone), (18, u, .gone)]⟩) (fun x => p.consts.length - x.1) (0, u) (Nat.zero_le _) ?_ rfl (by simp [cG, memN])
 clear u
 rintro ⟨k, u⟩ hk
 dsimp only at hk
 dsimp only
 by_cases hlt : k < p.consts.length
 case pos =>
  have c1 : decide ((k : Int) < (p.consts.length : Int)) = true := by rw [decide_eq_true_eq]; omega
  have t1 : Int.toNat (k : Int) = k := by omega
  have w1 : IntKind.i64.wrap ((k : Int) + 1) = ((k + 1 : Nat) : Int) := by rw [aN] <;> omega
  obtain ⟨v, hf⟩ : ∃ s, p.consts[k]? = some s := ⟨p.consts[k], List.getElem?_eq_getElem hlt⟩
  have hg := aE valR hf ([] : List RV)
  (any_goals refine go lv28 0 ?_)
  refine ⟨(k + 1, u + 9), by dsimp only; omega, by dsimp only; omega, ?_⟩
  dsimp only
  rw [hZ hf, Yb, Bool.and_assoc]
  exact aY [1, 8, 119, 120, 121]
 obtain rfl : k = p.consts.length := by omega
 have c1 : decide ((p.consts.length : Int) < (p.consts.length : Int)) = false := by rw [decide_eq_false_iff_not]; omega
 clear hlt hk
 have hR : uK p = (C0 && (p.consts.all fun v => !badV p v) && eJ p && p.fns.all (bQ p)) := by
  unfold uK
  have : (decide (19 ≤ p.texts.length) && decide (0 < p.fns.length)) = B0 := by rw [← hB0]; congr 1 <;> (rw [decide_eq_decide]; omega)
  rw [this, hC0]
 have hD0 : C0 = false ∨ 0 < p.fns.length := by
  rcases Nat.eq_zero_or_pos p.fns.length with h | h
  ·left; rw [← hC0, ← hB0, h]; simp
  ·exact .inr h
 rw [hR]
 rw [List.take_length]
 generalize hD : (C0 && (p.consts.all fun v => !badV p v)) = D at *
 replace hD0 : D = false ∨ 0 < p.fns.length := by
  rcases hD0 with h | h
  ·left; rw [← hD, h]; rfl
  ·exact .inr h
 clear hD hR
 (any_goals refine go lv28 0 ?_)
 clear c1
 -- functions
 refine cL [1, 8, 150, 151, 152] (fun x : Nat × Nat => x.1 ≤ p.fns.length) (fun x => let k := x.1; let u := x.2; ⟨218, [(1, .r (.rp (cQ p))), (8, Bv (rS p D k)), (150, fnsV p.fns), (151, Iv p.fns.length), (152, Iv k)], [(1, 2, .gone), (7, u, .gone), (14, u, .gone), (16, u, .gone), (18, u, .gone)]⟩) (fun x => p.fns.length - x.1) (0, u) (Nat.zero_le _) ?_ rfl (by simp [cG, memN, rS])
 clear u
 rintro ⟨k, u⟩ hk
 dsimp only at hk
 dsimp only
 by_cases hlt : k < p.fns.length
 case neg =>
  obtain rfl : k = p.fns.length := by omega
  have c1 : decide ((p.fns.length : Int) < (p.fns.length : Int)) = false := by rw [decide_eq_false_iff_not]; omega
  cases hq : rS p D p.fns.length with
  | false =>
   have hE := Kk hk hq hD0
   rw [hE]
   (any_goals refine go lv28 0 ?_)
   all_goals (try simp only [go_sem])
  | true =>
   have hE : (D && eJ p && p.fns.all (bQ p)) = true := by
    unfold rS at hq
    rw [List.take_length] at hq
    rcases hD0 with h | h
    ·rw [h] at hq; cases hq
    ·rw [decide_eq_false (by omega), Bool.false_or] at hq; exact hq
   rw [hE]
   (any_goals refine go lv28 0 ?_)
   all_goals (try simp only [go_sem])
 have c1 : decide ((k : Int) < (p.fns.length : Int)) = true := by rw [decide_eq_true_eq]; omega
 have t1 : Int.toNat (k : Int) = k := by omega
 have w1 : IntKind.i64.wrap ((k : Int) + 1) = ((k + 1 : Nat) : Int) := by rw [aN] <;> omega
 obtain ⟨f, hf⟩ : ∃ s, p.fns[k]? = some s := ⟨p.fns[k], List.getElem?_eq_getElem hlt⟩
 have hg := aE fnR hf ([] : List RV)
 have l4 : (f.code.map insR).length = f.code.length := List.length_map ..
 have l5 : (f.caught.map intR).length = f.caught.length := List.length_map ..
 cases hq : rS p D k with
 | false =>
  have hE := Kk hk hq hD0
  rw [hE]
  cases k0 : decide ((k : Int) = 0)
  all_goals
   (any_goals refine go lv28 0 ?_)
   all_goals (try simp only [go_sem])
   all_goals rfl
 | true =>
 obtain ⟨hD1, hF1, hT1⟩ : D = true ∧ (k = 0 ∨ eJ p = true) ∧ (p.fns.take k).all (bQ p) = true := by
  unfold rS at hq
  simpa [Bool.and_eq_true, and_assoc] using hq
 have hpf := hp.fn f (List.mem_of_getElem? hf)
 have hsk := Pp (p := p) (b := D) hf
 by_cases hH : 0 ≤ f.params ∧ f.params ≤ f.regs ∧ 0 < f.regs
 case neg =>
  have hE := aH2 (b := D) hf (by unfold bQ; rw [if_pos (by omega)])
  rw [hE]
  by_cases h1 : 0 ≤ f.params ∧ f.params ≤ f.regs
  ·have e1 : decide (0 ≤ f.params ∧ f.params ≤ f.regs) = true := by simpa using h1
   have e2 : decide (0 < f.regs) = false := by rw [decide_eq_false_iff_not]; omega
   cases k0 : decide ((k : Int) = 0)
   all_goals
    (any_goals refine go lv28 0 ?_)
    all_goals (try simp only [go_sem])
    all_goals rfl
  ·have e1 : decide (0 ≤ f.params ∧ f.params ≤ f.regs) = false := by rw [decide_eq_false_iff_not]; exact h1
   cases k0 : decide ((k : Int) = 0)
   all_goals
    (any_goals refine go lv28 0 ?_)
    all_goals (try simp only [go_sem])
    all_goals rfl
 have e1 : decide (0 ≤ f.params ∧ f.params ≤ f.regs) = true := by rw [decide_eq_true_eq]; exact ⟨hH.1, hH.2.1⟩
 have e2 : decide (0 < f.regs) = true := by rw [decide_eq_true_eq]; exact hH.2.2
 by_cases hF0 : eJ p = true
 case neg =>
  have hF0' : eJ p = false := by simpa using hF0
  have hk0 : k = 0 := hF1.resolve_right hF0
  have k0 : decide ((k : Int) = 0) = true := by rw [decide_eq_true_eq]; omega
  have hff := (Mq (f := f) (by rw [← hk0]; exact hf)).symm
  rw [hF0'] at hff ⊢
  simp only [Bool.and_false, Bool.false_and]
  clear hk0
  (any_goals refine go lv28 0 ?_)
  all_goals (try simp only [go_sem])
  all_goals rfl
 have hFok : Fok f := ⟨hpf.2.2, by have := hpf.1; omega, by omega, hpf.2.1⟩
 have hcau : Cau p := hp.cau
 have hFr : eJ p = true := by simpa using hF0
 (any_goals refine go (eM 34 lv28) 0 ?_)
 refine goR1 lv28 0 ?_
 refine mL (st' := ⟨218, [(1, .r (.rp (cQ p))), (8, Bv true), (150, fnsV p.fns), (151, Iv p.fns.length), (152, Iv k), (16, .os 16 (u + 1))], [(1, 2, .gone), (7, u, .gone), (14, u, .gone), (16, u + 1, .bx [Iv f.params, Iv f.regs, Bv f.gen, dF f.caught, nQ f.code]), (18, u, .gone)]⟩) True rfl ?_ fun _ => ?_
 ·by_cases hk0 : k = 0
  ·have k0 : decide ((k : Int) = 0) = true := by rw [decide_eq_true_eq]; omega
   have hff := (Mq (f := f) (by rw [← hk0]; exact hf)).symm
   rw [hFr] at hff
   clear hk0
   rw [k0]
   (any_goals refine go lv28 0 ?_)
   all_goals (try simp only [go_sem])
   exact Lx.le (aY [1, 8, 150, 151, 152, 16])
  ·have k0 : decide ((k : Int) = 0) = false := by rw [decide_eq_false_iff_not]; omega
   rw [k0]
   (any_goals refine go lv28 0 ?_)
   all_goals (try simp only [go_sem])
   exact Lx.le (aY [1, 8, 150, 151, 152, 16])
 (any_goals refine go lv28 0 ?_)
 refine cL [1, 8, 150, 151, 152, 16, 192, 193, 194] (fun x : Nat × Nat => x.1 ≤ f.code.length) (fun x => let i := x.1; let v := x.2; ⟨218, [(1, .r (.rp (cQ p))), (8, Bv ((List.range i).all fun j => fH p f j (f.code.getD j ins0))), (150, fnsV p.fns), (151, Iv p.fns.length), (152, Iv k), (16, .os 16 (u + 1)), (192, nQ f.code), (193, Iv f.code.length), (194, Iv i)], [(1, 2, .gone), (7, u, .gone), (14, u, .gone), (16, u + 1, .bx [Iv f.params, Iv f.regs, Bv f.gen, dF f.caught, nQ f.code]), (18, v, .gone)]⟩) (fun x => f.code.length - x.1) (0, u) (Nat.zero_le _) ?_
 rintro ⟨i, v⟩ hi
 dsimp only at hi
 dsimp only
 by_cases hil : i < f.code.length
 case pos =>
  have c2 : decide ((i : Int) < (f.code.length : Int)) = true := by rw [decide_eq_true_eq]; omega
  have t2 : Int.toNat (i : Int) = i := by omega
  have w2 : IntKind.i64.wrap ((i : Int) + 1) = ((i + 1 : Nat) : Int) := by rw [aN] <;> omega
  obtain ⟨x, hx⟩ : ∃ s, f.code[i]? = some s := ⟨f.code[i], List.getElem?_eq_getElem hil⟩
  have hgx := aE insR hx ([] : List RV)
  have hor : ((List.range (i + 1)).all fun j => fH p f j (f.code.getD j ins0)) = (((List.range i).all fun j => fH p f j (f.code.getD j ins0)) && fH p f i x) := by
   rw [List.range_succ, List.all_append]
   simp [List.getD, hx]
  (any_goals refine go lv28 0 ?_)
  refine ⟨(i + 1, v + 9), by dsimp only; omega, by dsimp only; omega, ?_⟩
  dsimp only
  rw [hor]
  exact aY [1, 8, 150, 151, 152, 16, 192, 193, 194]
 obtain rfl : i = f.code.length := by omega
 have c2 : decide ((f.code.length : Int) < (f.code.length : Int)) = false := by rw [decide_eq_false_iff_not]; omega
 have hnoX : bQ p f = (jM p f && !(bN f).bad) := by
  unfold bQ
  rw [if_neg (by omega)]
  cases jM p f <;> simp
 rw [show ((List.range f.code.length).all fun j => fH p f j (f.code.getD j ins0)) = jM p f from rfl]
 cases hO : jM p f with
 | false =>
  have hE := aH2 (b := D) hf (by rw [hnoX, hO]; rfl)
  rw [hE]
  (any_goals refine go lv28 0 ?_)
  all_goals (try simp only [go_sem])
  all_goals rfl
 | true =>
  have hcok : Cok f := Cf hpf.1 hO
  have hsk' : rS p D (k + 1) = !(docW f).bad := by
   rw [hsk, hD1, hFr, hT1, hnoX, hO, Rj hcok]; simp
  cases hb : (docW f).bad with
  | true =>
   have hRR := Bp hb
   rw [hb] at hsk'
   (any_goals refine go lv28 0 ?_)
   refine ⟨(k + 1, max u v + 9), by dsimp only; omega, by dsimp only; omega, ?_⟩
   dsimp only
   rw [hsk']
   exact bF
  | false =>
   have hRR := Fx hb
   rw [hb] at hsk'
   (any_goals refine go lv28 0 ?_)
   refine ⟨(k + 1, max u v + 9), by dsimp only; omega, by dsimp only; omega, ?_⟩
   dsimp only
   rw [hsk']
   exact bF
def Wun (W : WT) : Prop := ∀ k, W.seen.getD k false = false → W.out.getD k [] = []
theorem oO {f : FnT} {n : Int} {l : List (Int × Int)} {W : WT} (hi : Wiv f W) (hn : 0 ≤ n) (h : Wun W) : Wun (aZ f n l W) := by
 intro k hk
 unfold aZ at hk ⊢
 split at hk
 ·rename_i h1; rw [if_pos h1]; exact h k hk
 ·rename_i h1
  rw [if_neg h1]
  split at hk
  ·rename_i h2
   rw [if_pos h2]
   by_cases e : n.toNat = k
   ·subst e
    have : n.toNat < W.seen.length := by rw [hi.seen]; omega
    rw [fA this] at hk; cases hk
   ·dsimp only at hk ⊢
    rw [gG e] at hk ⊢
    exact h k hk
  ·rename_i h2
   rw [if_neg h2]
   split at hk
   ·rename_i h3; rw [if_pos h3]; exact h k hk
   ·rename_i h3; rw [if_neg h3]; exact h k hk
theorem aGi {f : FnT} {n : Int} {W : WT} (hi : Wiv f W) (hc : Cok f) (hn : 0 ≤ n) (h : Wun W) : Wun (bW f n W) := by
 have hx : f.code.getD n.toNat ins0 = ins0 ∨ f.code.getD n.toNat ins0 ∈ f.code := by
  cases hg : f.code[n.toNat]? with
  | none => left; simp [List.getD, hg]
  | some i => right; simp only [List.getD, hg, Option.getD_some]; exact List.mem_of_getElem? hg
 unfold bW
 generalize f.code.getD n.toNat ins0 = i at hx
 generalize W.out.getD n.toNat [] = l
 have hA : i.op = 13 ∨ i.op = 14 → 0 ≤ i.a := fun ho => hx.elim (fun h => by rw [h] at ho; rcases ho with ho | ho <;> cases ho) (fun h => hc.a i h ho)
 have hB : i.op = 15 ∨ i.op = 30 → 0 ≤ i.b := fun ho => hx.elim (fun h => by rw [h] at ho; rcases ho with ho | ho <;> cases ho) (fun h => hc.b i h ho)
 dsimp only
 split
 ·exact h
 ·split
  ·rename_i ho; exact oO hi (hA ho) h
  ·split
   ·rename_i ho; exact oO (cO hi (hB (.inl ho))).1 (by omega) (oO hi (hB (.inl ho)) h)
   ·split
    ·rename_i ho; exact oO (cO hi (hB (.inr ho))).1 (by omega) (oO hi (hB (.inr ho)) h)
    ·split
     ·split
      ·exact h
      ·exact oO hi (by omega) h
     ·exact oO hi (by omega) h
theorem aXp (f : FnT) : Wun (W0 f) := fun k _ => by
 simp [W0, List.getD, List.getElem?_replicate]; split <;> rfl
theorem aCk {f : FnT} (hc : Cok f) : ∀ (j : Nat) (W : WT), Wiv f W → Wun W → Wun (runW f j W)
 | 0, W, _, h => h
 | j + 1, W, hi, h => by
  show Wun (if cP W = true then runW f j (dT f W) else W)
  split
  ·rename_i hg
   have h0 : 0 < W.todo.length := by simp [cP] at hg; exact hg.1
   obtain ⟨q1, q2, q3, q4⟩ := qK hi h0
   exact aCk hc j _ (jJ hi hc hg).1 (aGi q1 hc q3 h)
  ·exact h
theorem aGq {f : FnT} (hc : Cok f) : Wun (bN f) := aCk hc _ _ (kY hc).1 (oO (jR f).1 (Int.le_refl 0) (aXp f))
def kn2R (W : WT) : List (List RV) := List.zipWith (fun b l => [RV.v (.bool b), RV.rs 2 ((bif b then l else []).map tryR)]) W.seen W.out
theorem aTn (W : WT) : NilD (.rs 2 (knR W)) (.rs 2 (kn2R W)) := by
 refine .rs 2 _ _ (by simp [knR, kn2R]) (fun i row row' h1 h2 => ?_) fun i j row row' x y h1 h2 h3 h4 => ?_
 ·simp only [knR, kn2R, List.getElem?_zipWith] at h1 h2
  cases hs : W.seen[i]? <;> cases ho : W.out[i]? <;> simp [hs, ho] at h1 h2
  subst h1; subst h2; rfl
 ·simp only [knR, kn2R, List.getElem?_zipWith] at h1 h2
  cases hs : W.seen[i]? <;> cases ho : W.out[i]? <;> simp [hs, ho] at h1 h2
  rename_i b l
  subst h1; subst h2
  match j with
  | 0 => simp at h3 h4; subst h3; subst h4; exact .same _
  | 1 =>
   simp at h3 h4; subst h3; subst h4
   cases b with
   | true => exact .same _
   | false => exact .nil 2
  | j + 2 => simp at h3
theorem aCg (f : FnT) (hk : Cok f) (hb : (bN f).bad = false) : FC Cx 75 [fnA f] [] (.tup [.r (.rs 2 (kn2R (docW f))), Bv true]) [] := by
 have h := yN f hk
 rw [Fx (by rw [Rj hk]; exact hb)] at h
 refine Wp h fun cur g w N v hv => ?_
 cases hv with
 | tup _ us hs hu =>
  refine .tup _ us hs fun j y u hy hju => ?_
  match j with
  | 0 =>
   simp at hy; subst hy
   have := hu 0 _ u rfl hju
   cases this with | r this => exact .r (RR.nilD (aTn _) this)
  | 1 => simp at hy; subst hy; exact hu 1 _ u rfl hju
  | j + 2 => simp at hy
theorem Xq {f : FnT} {W : WT} (hi : Wiv f W) {k : Nat} (hk : k < f.code.length) {l : List (Int × Int)} : To f W k l ↔ W.seen.getD k false = true ∧ W.out.getD k [] = l := by
 constructor
 ·rintro ⟨_, _, _, h4, h5⟩
  exact ⟨by simpa using h4, by simpa using h5⟩
 ·rintro ⟨h1, h2⟩
  have := qN hi h1
  rwa [h2] at this
theorem aAa {f : FnT} (hk : Cok f) (h0 : 0 < f.code.length) : Wiv f (docW f) := Ra hk _ _ (cO (n := 0) (l := []) (jR f).1 (Int.le_refl 0)).1
theorem aNf {f : FnT} (hk : Cok f) (hb : (bN f).bad = false) {k : Nat} (hlt : k < f.code.length) : (kn2R (docW f)).getD k [] = [.v (.bool ((bN f).seen.getD k false)), .rs 2 (((bN f).out.getD k []).map tryR)] := by
 have h0 : 0 < f.code.length := by omega
 have d := aAa hk h0
 have w := zS hk
 have hT := fun l => (Lg hk h0).2 hb k l
 have hT' := fun l => ((Xq d hlt (l := l)).symm.trans (hT l)).trans (Xq w hlt)
 have un := aGq hk
 have h1 : k < (docW f).seen.length := by rw [d.seen]; exact hlt
 have h2 : k < (docW f).out.length := by rw [d.out]; exact hlt
 have e : (kn2R (docW f)).getD k [] = [RV.v (.bool ((docW f).seen.getD k false)), RV.rs 2 ((bif (docW f).seen.getD k false then (docW f).out.getD k [] else []).map tryR)] := by
  simp only [kn2R, List.getD, List.getElem?_zipWith, List.getElem?_eq_getElem h1, List.getElem?_eq_getElem h2, Option.getD_some]
 rw [e]
 cases hs : (bN f).seen.getD k false with
 | true =>
  obtain ⟨h3, h4⟩ := (hT' _).2 ⟨hs, rfl⟩
  rw [h3, h4]; rfl
 | false =>
  have h3 : (docW f).seen.getD k false = false := by
   cases h3 : (docW f).seen.getD k false with
   | false => rfl
   | true =>
    have := ((hT' _).1 ⟨h3, rfl⟩).1
    rw [hs] at this; cases this
  rw [h3, un k hs]; rfl
theorem aHw {f : FnT} (hk : Cok f) (h0 : 0 < f.code.length) : (kn2R (docW f)).length = f.code.length := by
 have d := aAa hk h0
 unfold kn2R; rw [List.length_zipWith, d.seen, d.out, Nat.min_self]
theorem Uf (pa rg : Int) (ge : Bool) (us vs : List (List RV)) (h : (us = (aK us).map intR ∧ vs = (aS vs).map insR) ∧ Cok ⟨pa, rg, ge, aK us, aS vs⟩ ∧ (bN ⟨pa, rg, ge, aK us, aS vs⟩).bad = false) : FC Cx 75 [.agg [Iv pa, Iv rg, Bv ge, .r (.rs 1 us), .r (.rs 5 vs)]] [] (.tup [.r (.rs 2 (kn2R (docW ⟨pa, rg, ge, aK us, aS vs⟩))), Bv true]) [] := by
 have := aCg ⟨pa, rg, ge, aK us, aS vs⟩ h.2.1 h.2.2
 rwa [Eg h.1] at this
def qC (args : List AV) (K : AV → Prop) : Prop := match args with
 | [.agg [.r (.v (.int .i64 pa)), .r (.v (.int .i64 rg)), .r (.v (.bool ge)), .r (.rs 1 us), .r (.rs 5 vs)]] => ((us = (aK us).map intR ∧ vs = (aS vs).map insR) ∧ Cok ⟨pa, rg, ge, aK us, aS vs⟩ ∧ (bN ⟨pa, rg, ge, aK us, aS vs⟩).bad = false) ∧ K (.tup [.r (.rs 2 (kn2R (docW ⟨pa, rg, ge, aK us, aS vs⟩))), Bv true])
 | _ => False
noncomputable abbrev iM : Ct Cx := .pure 75 qC fun args K h => by
 unfold qC at h; split at h; exact ⟨_, aA (Uf _ _ _ _ _ h.1) en75 rfl rfl, h.2⟩; exact h.elim
@[go_sem] theorem aDt : type_of% @qC.eq_def := @qC.eq_def
theorem Yw (xs ys zs : List (List RV)) (h : (xs = (fnsOf xs).map fnR ∧ ys = (valsOf ys).map valR ∧ zs = (strsOf zs).map strR) ∧ Pwf ⟨fnsOf xs, valsOf ys, strsOf zs⟩) : FC Cx 28 [.agg [.r (.rs 5 xs), .r (.rs 2 ys), .r (.rs 1 zs)]] [] (Iv (checkF ⟨fnsOf xs, valsOf ys, strsOf zs⟩)) [] := by
 have := Im ⟨fnsOf xs, valsOf ys, strsOf zs⟩ h.2
 rwa [kA h.1] at this
def tF (args : List AV) (K : AV → Prop) : Prop := match args with
 | [.agg [.r (.rs 5 xs), .r (.rs 2 ys), .r (.rs 1 zs)]] => ((xs = (fnsOf xs).map fnR ∧ ys = (valsOf ys).map valR ∧ zs = (strsOf zs).map strR) ∧ Pwf ⟨fnsOf xs, valsOf ys, strsOf zs⟩) ∧ K (Iv (checkF ⟨fnsOf xs, valsOf ys, strsOf zs⟩))
 | _ => False
noncomputable abbrev xU : Ct Cx := .pure 28 tF fun args K h => by
 unfold tF at h; split at h; exact ⟨_, aA (Yw _ _ _ h.1) en28 rfl rfl, h.2⟩; exact h.elim
@[go_sem] theorem aHu : type_of% @tF.eq_def := @tF.eq_def
end Go.Proofs.YtbhnmolmkembdaaGreatDoor
