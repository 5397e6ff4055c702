/- Resume: what it answers. No condition: the contract of the program's function. -/
import Derived.Test.YtbhnmolmkembdaaGreatDoorY7
namespace Go.Proofs.YtbhnmolmkembdaaGreatDoor
set_option linter.unusedVariables false
set_option linter.unusedSimpArgs false
set_option maxHeartbeats 10000000
open Go
set_option maxRecDepth 10000
@[go_sem] theorem aQx : fldT Tryz.prog 61 5 = some (6, 23) := by kernel_rfl
theorem vU (s : aC) (k n q : Int) (hq : q ≠ 0) : refF s (k, n) q = (decide (k = 5) && (fitsF s (k, n) && decide ((s.cells.getD n.toNat cZ).kind = q))) := by
 unfold refF fitsF fV
 dsimp only
 generalize (s.cells.getD n.toNat cZ).kind = K
 by_cases h : k = 5
 ·subst h
  by_cases h2 : K = q
  ·subst h2; simp [hq]
  ·simp [h2]
 ·simp [h]
def resE (s : aC) (t : aP) (f : aR) (gv v : Int × Int) (rg : Int) : Int :=
 if fitsF s v = false ∨ ¬ (-1 ≤ rg ∧ rg ≤ (f.regs.length : Int) - 1) then 1 else if refF s gv 5 = false then 7 else if (s.cells.getD gv.2.toNat cZ).num = 1 then 8 else
 if (s.cells.getD gv.2.toNat cZ).num ≠ 2 ∧ 30 ≤ t.frames.length then 2 else 0
def doneS (s : aC) (n : Nat) (t : aP) (rg : Int) (v : Int × Int) : aC := ⟨s.cells, s.shapes, s.texts, s.threads.set n { t with frames := intoF t.frames rg v }, s.ends, s.said, s.asked, s.steps⟩
def goS (p : aI) (s : aC) (n : Nat) (t : aP) (c : bJ) (f : aR) (g : Nat) (rg : Int) (v : Int × Int) : aC := ⟨s.cells.set g (goC c), s.shapes, s.texts, s.threads.set n { t with frames := t.frames ++ [goF0 f rg g (lQ p f).a v] }, s.ends, s.said, s.asked, s.steps⟩
theorem Np (p : aI) (s : aC) (th : Int) (gv v : Int × Int) (rg : Int) (hw : Pwf p) (hs : Swf s) (h : askE p s th ≠ 0) : FC Cx 43 [bC p, aH s, Iv th, VV gv.1 gv.2, VV v.1 v.2, Iv rg] [] (.tup [aH gT, bI [], Iv (askE p s th)]) [] := by
 refine Re 1 (xs := [.v (.slice none 0 0), .v (.slice none 0 0), .v (.slice none 0 0), .v (.slice none 0 0), .v (.slice none 0 0), .v (.slice none 0 0), .v (.int .i64 0), .v (.int .i64 0)]) (ys := cN gT) ?_ (by simp [rowB, nilB, nilX, gT])
 have hA : ∀ y, y = [bC p, aH s, Iv th] → aQ Cx 90 y (Iv (askE p s th)) := fun y hy => by
  subst hy; exact aA (vX p s th hw hs) en90 rfl rfl
 have d0 : decide (askE p s th = 0) = false := by simpa using h
 obtain ⟨vk, vn⟩ := v
 obtain ⟨gk, gn⟩ := gv
 generalize askE p s th = E at *
 clear h
 refine fE [ctE 90 [bC p, aH s, Iv th] (Iv E) hA] Tryz.func43 rfl Tryz.ntmps43 (by simp) Tryz.results43 rfl ?_
 refine rnst ?_
 refine goR ?_
 refine fzB 6 ?_
 refine fzB 9 ?_
 refine fzB 10 ?_
 (any_goals refine go lv43 0 ?_)
 repeat' (first | (refine Br.go (fun h h' => ?_) (fun h h' => ?_)) | (refine Br.mk (fun h => ?_) (fun h => ?_)))
 all_goals (try simp only [go_sem])
theorem go_Q {p : aI} {s : aC} {th : Nat} {g : Nat} {rg : Int} {v : Int × Int} {e : gX} {r : AV} {cs : List bJ} {ts : List aP} (h : FC Cx 94 [.r (.rp (cQ p)), .os 0 0, Iv th, Iv g, VV v.1 v.2, Iv rg, cV e] [boxS s 0 0 1 0 2 0, ownC 1 0 s.cells, ownT 2 0 s.threads] r [boxS s 0 0 1 0 2 0, ownC 1 0 cs, ownT 2 0 ts])
  (hr : bK (domR [boxS s 0 0 1 0 2 0, ownC 1 0 cs, ownT 2 0 ts]) r = true) (k a b d0 d1 d2 : Nat) (hab : (k == a || k == b || a == b) = false) :
  QOk (C := Cx) 94 [(0, k, d0), (1, a, d1), (2, b, d2)] [.r (.rp (cQ p)), .os 0 0, Iv th, Iv g, VV v.1 v.2, Iv rg, cV e] [boxS s 0 0 1 0 2 0, ownC 1 0 s.cells, ownT 2 0 s.threads] r [boxS s 0 0 1 0 2 0, ownC 1 0 cs, ownT 2 0 ts] := by
 have hab' : (k ≠ a ∧ k ≠ b) ∧ a ≠ b := by simpa using hab
 exact ⟨h, rfl, by simp [ndB, memN, hab'], rfl, rfl, hr, in3 s _ _, in3 s _ _⟩
theorem Vg (p : aI) (s : aC) (th : Int) (n : Nat) (t : aP) (f : aR) (gv v : Int × Int) (rg : Int) (hw : Pwf p) (hs : Swf s) (ha : askE p s th = 0) (h : yX p s th n t f) (hy : resE s t f gv v rg ≠ 0) : FC Cx 43 [bC p, aH s, Iv th, VV gv.1 gv.2, VV v.1 v.2, Iv rg] [] (.tup [aH gT, bI [], Iv (resE s t f gv v rg)]) [] := by
 refine Re 1 (xs := [.v (.slice none 0 0), .v (.slice none 0 0), .v (.slice none 0 0), .v (.slice none 0 0), .v (.slice none 0 0), .v (.slice none 0 0), .v (.int .i64 0), .v (.int .i64 0)]) (ys := cN gT) ?_ (by simp [rowB, nilB, nilX, gT])
 have hA : ∀ y, y = [bC p, aH s, Iv th] → aQ Cx 90 y (Iv 0) := fun y hy => by
  subst hy; rw [← ha]; exact aA (vX p s th hw hs) en90 rfl rfl
 have hF := kX hw h
 have h30 := hF.frames
 have h60 := hF.regs
 obtain ⟨rfl, _, ht, _, hf⟩ := h
 have hL : ∀ y, y = [aH s, Iv n] → aQ Cx 91 y (fD f) := fun y hy => by
  subst hy; exact aA (Ie s n t f ht hf (by omega)) en91 rfl rfl
 obtain ⟨vk, vn⟩ := v
 obtain ⟨gk, gn⟩ := gv
 dsimp only at *
 have hE : resE s t f (gk, gn) (vk, vn) rg = if fitsF s (vk, vn) = false ∨ ¬ (-1 ≤ rg ∧ rg ≤ (f.regs.length : Int) - 1) then 1 else if refF s (gk, gn) 5 = false then 7 else if (s.cells.getD gn.toNat cZ).num = 1 then 8 else if (s.cells.getD gn.toNat cZ).num ≠ 2 ∧ 30 ≤ t.frames.length then 2 else 0 := rfl
 generalize resE s t f (gk, gn) (vk, vn) rg = E at *
 cases h1 : fitsF s (vk, vn) with
 | false =>
  rw [if_pos (.inl h1)] at hE
  subst hE
  clear hy hF ha hf ht
  obtain ⟨fn, pc, tov, gen, ⟨sk, sn⟩, regs, tries⟩ := f
  dsimp only at *
  have lr : (regs.map valR).length = regs.length := List.length_map ..
  refine fE [ctE 90 [bC p, aH s, Iv n] (Iv 0) hA, gK, ctE 91 [aH s, Iv n] (.agg [Iv fn, Iv pc, Iv tov, Iv gen, Iv sk, Iv sn, aT regs, cM tries]) hL] Tryz.func43 rfl Tryz.ntmps43 (by simp) Tryz.results43 rfl ?_
  refine rnst ?_
  refine goR ?_
  refine fzB 6 ?_
  refine fzB 9 ?_
  refine fzB 10 ?_
  (any_goals refine goV lv43 0 ?_)
  repeat' (first | (refine Br.go (fun h h' => ?_) (fun h h' => ?_)) | (refine Br.mk (fun h => ?_) (fun h => ?_)))
  all_goals (try simp only [go_sem])
 | true =>
 by_cases c1 : rg < -1
 ·rw [if_pos (.inr (by omega))] at hE
  subst hE
  have d1 : decide (rg < -1) = true := by simpa using c1
  clear hy hF ha hf ht c1
  obtain ⟨fn, pc, tov, gen, ⟨sk, sn⟩, regs, tries⟩ := f
  dsimp only at *
  have lr : (regs.map valR).length = regs.length := List.length_map ..
  refine fE [ctE 90 [bC p, aH s, Iv n] (Iv 0) hA, gK, ctE 91 [aH s, Iv n] (.agg [Iv fn, Iv pc, Iv tov, Iv gen, Iv sk, Iv sn, aT regs, cM tries]) hL] Tryz.func43 rfl Tryz.ntmps43 (by simp) Tryz.results43 rfl ?_
  refine rnst ?_
  refine goR ?_
  refine fzB 6 ?_
  refine fzB 9 ?_
  refine fzB 10 ?_
  (any_goals refine goV lv43 0 ?_)
  repeat' (first | (refine Br.go (fun h h' => ?_) (fun h h' => ?_)) | (refine Br.mk (fun h => ?_) (fun h => ?_)))
  all_goals (try simp only [go_sem])
 have d1 : decide (rg < -1) = false := by simpa using c1
 by_cases c2 : (f.regs.length : Int) ≤ rg
 ·rw [if_pos (.inr (by omega))] at hE
  subst hE
  have d2 : decide ((f.regs.length : Int) ≤ rg) = true := by simpa using c2
  clear hy hF ha hf ht c1 c2
  obtain ⟨fn, pc, tov, gen, ⟨sk, sn⟩, regs, tries⟩ := f
  dsimp only at *
  have lr : (regs.map valR).length = regs.length := List.length_map ..
  refine fE [ctE 90 [bC p, aH s, Iv n] (Iv 0) hA, gK, ctE 91 [aH s, Iv n] (.agg [Iv fn, Iv pc, Iv tov, Iv gen, Iv sk, Iv sn, aT regs, cM tries]) hL] Tryz.func43 rfl Tryz.ntmps43 (by simp) Tryz.results43 rfl ?_
  refine rnst ?_
  refine goR ?_
  refine fzB 6 ?_
  refine fzB 9 ?_
  refine fzB 10 ?_
  (any_goals refine goV lv43 0 ?_)
  repeat' (first | (refine Br.go (fun h h' => ?_) (fun h h' => ?_)) | (refine Br.mk (fun h => ?_) (fun h => ?_)))
  all_goals (try simp only [go_sem])
 have d2 : decide ((f.regs.length : Int) ≤ rg) = false := by simpa using c2
 rw [if_neg (by simp [h1]; omega), vU s gk gn 5 (by decide)] at hE
 by_cases c3 : gk = 5
 case neg =>
  have d3 : decide (gk = 5) = false := by simpa using c3
  rw [d3, Bool.false_and, if_pos rfl] at hE
  subst hE
  clear hy hF ha hf ht c1 c2 c3
  obtain ⟨fn, pc, tov, gen, ⟨sk, sn⟩, regs, tries⟩ := f
  dsimp only at *
  have lr : (regs.map valR).length = regs.length := List.length_map ..
  refine fE [ctE 90 [bC p, aH s, Iv n] (Iv 0) hA, gK, ctE 91 [aH s, Iv n] (.agg [Iv fn, Iv pc, Iv tov, Iv gen, Iv sk, Iv sn, aT regs, cM tries]) hL] Tryz.func43 rfl Tryz.ntmps43 (by simp) Tryz.results43 rfl ?_
  refine rnst ?_
  refine goR ?_
  refine fzB 6 ?_
  refine fzB 9 ?_
  refine fzB 10 ?_
  (any_goals refine goV lv43 0 ?_)
  repeat' (first | (refine Br.go (fun h h' => ?_) (fun h h' => ?_)) | (refine Br.mk (fun h => ?_) (fun h => ?_)))
  all_goals (try simp only [go_sem])
 subst c3
 cases h3 : fitsF s (5, gn) with
 | false =>
  rw [h3, Bool.false_and, Bool.and_false, if_pos rfl] at hE
  subst hE
  clear hy hF ha hf ht c1 c2
  obtain ⟨fn, pc, tov, gen, ⟨sk, sn⟩, regs, tries⟩ := f
  dsimp only at *
  have lr : (regs.map valR).length = regs.length := List.length_map ..
  refine fE [ctE 90 [bC p, aH s, Iv n] (Iv 0) hA, gK, ctE 91 [aH s, Iv n] (.agg [Iv fn, Iv pc, Iv tov, Iv gen, Iv sk, Iv sn, aT regs, cM tries]) hL] Tryz.func43 rfl Tryz.ntmps43 (by simp) Tryz.results43 rfl ?_
  refine rnst ?_
  refine goR ?_
  refine fzB 6 ?_
  refine fzB 9 ?_
  refine fzB 10 ?_
  (any_goals refine goV lv43 0 ?_)
  repeat' (first | (refine Br.go (fun h h' => ?_) (fun h h' => ?_)) | (refine Br.mk (fun h => ?_) (fun h => ?_)))
  all_goals (try simp only [go_sem])
 | true =>
 rw [h3, Bool.true_and, show decide ((5 : Int) = 5) = true from rfl, Bool.true_and] at hE
 have hb : 0 ≤ gn ∧ gn < (s.cells.length : Int) := by
  have h4 := h3
  unfold fitsF fV at h4
  simp at h4
  omega
 obtain ⟨c, hc⟩ : ∃ c, s.cells[gn.toNat]? = some c := ⟨s.cells[gn.toNat]'(by omega), List.getElem?_eq_getElem _⟩
 have gc := aE aW hc ([] : List RV)
 have lc : (s.cells.map aW).length = s.cells.length := List.length_map ..
 have ec : s.cells.getD gn.toNat cZ = c := by rw [List.getD_eq_getElem?_getD, hc]; rfl
 rw [ec] at hE
 obtain ⟨hb1, hb2⟩ := hb
 by_cases c4 : c.kind = 5
 case neg =>
  have d4 : decide (c.kind = 5) = false := by simpa using c4
  rw [d4, if_pos rfl] at hE
  subst hE
  clear hy hF ha hf ht c1 c2 c4 hc ec
  obtain ⟨fn, pc, tov, gen, ⟨sk, sn⟩, regs, tries⟩ := f
  dsimp only at *
  have lr : (regs.map valR).length = regs.length := List.length_map ..
  refine fE [ctE 90 [bC p, aH s, Iv n] (Iv 0) hA, gK, ctE 91 [aH s, Iv n] (.agg [Iv fn, Iv pc, Iv tov, Iv gen, Iv sk, Iv sn, aT regs, cM tries]) hL] Tryz.func43 rfl Tryz.ntmps43 (by simp) Tryz.results43 rfl ?_
  refine rnst ?_
  refine goR ?_
  refine fzB 6 ?_
  refine fzB 9 ?_
  refine fzB 10 ?_
  (any_goals refine goV lv43 0 ?_)
  repeat' (first | (refine Br.go (fun h h' => ?_) (fun h h' => ?_)) | (refine Br.mk (fun h => ?_) (fun h => ?_)))
  all_goals (try simp only [go_sem])
 rw [decide_eq_true c4, if_neg (by simp)] at hE
 have d4 : decide (c.kind = 5) = true := by simpa using c4
 by_cases c5 : c.num = 1
 ·have d5 : decide (c.num = 1) = true := by simpa using c5
  rw [if_pos c5] at hE
  subst hE
  clear hy hF ha hf ht c1 c2 c4 c5 hc ec
  obtain ⟨fn, pc, tov, gen, ⟨sk, sn⟩, regs, tries⟩ := f
  dsimp only at *
  have lr : (regs.map valR).length = regs.length := List.length_map ..
  refine fE [ctE 90 [bC p, aH s, Iv n] (Iv 0) hA, gK, ctE 91 [aH s, Iv n] (.agg [Iv fn, Iv pc, Iv tov, Iv gen, Iv sk, Iv sn, aT regs, cM tries]) hL] Tryz.func43 rfl Tryz.ntmps43 (by simp) Tryz.results43 rfl ?_
  refine rnst ?_
  refine goR ?_
  refine fzB 6 ?_
  refine fzB 9 ?_
  refine fzB 10 ?_
  (any_goals refine goV lv43 0 ?_)
  repeat' (first | (refine Br.go (fun h h' => ?_) (fun h h' => ?_)) | (refine Br.mk (fun h => ?_) (fun h => ?_)))
  all_goals (try simp only [go_sem])
 have d5 : decide (c.num = 1) = false := by simpa using c5
 rw [if_neg c5] at hE
 by_cases c6 : c.num ≠ 2 ∧ 30 ≤ t.frames.length
 case neg => rw [if_neg c6] at hE; exact absurd hE hy
 rw [if_pos c6] at hE
 subst hE
 have q1 := Oj s hF.sml 300 301 rfl
 obtain ⟨m, rfl⟩ : ∃ m : Nat, gn = (m : Int) := ⟨gn.toNat, by omega⟩
 have em : ((m : Nat) : Int).toNat = m := by omega
 rw [em] at hc gc
 have q2 := go_Q (aBl p s n t c m rg (vk, vn) (atF p s n f) ht hc c6.1 c6.2 (by omega) hF.thr hF.sml.cells) rfl 7 300 301 1 1 1 rfl
 have hAt : ∀ y, y = [.r (.rp (cQ p)), bT s, Iv n] → aQ Cx 86 y (cV (atF p s n f)) := fun y hy => by
  subst hy; exact aA (aBb p s n t f hF.go ht hf hF.frame (by omega)) en86 rfl rfl
 have en1 : aF Cx.P 84 := en84
 have en2 : aF Cx.P 94 := en94
 generalize atF p s n f = e0 at *
 clear hy hF ha hf ht c1 c2 c4 c5 c6 hc ec
 obtain ⟨fn, pc, tov, gen, ⟨sk, sn⟩, regs, tries⟩ := f
 dsimp only at *
 have lr : (regs.map valR).length = regs.length := List.length_map ..
 refine fE [ctE 90 [bC p, aH s, Iv n] (Iv 0) hA, gK, ctE 91 [aH s, Iv n] (.agg [Iv fn, Iv pc, Iv tov, Iv gen, Iv sk, Iv sn, aT regs, cM tries]) hL, ctN 84 [(7, 300), (16, 301)] [aH s] (.agg [.os 7 1, aT s.shapes, bZ s.texts, .os 16 1, eY s.ends, aT s.said, Iv s.asked, Iv s.steps]) [ownC 7 1 s.cells, ownT 16 1 s.threads] en1 q1, ctE 86 [.r (.rp (cQ p)), bT s, Iv n] (cV e0) hAt, ctQ 94 [(0, 7, 1), (1, 300, 1), (2, 301, 1)] [.r (.rp (cQ p)), .os 0 0, Iv n, Iv m, VV vk vn, Iv rg, cV e0] [boxS s 0 0 1 0 2 0, ownC 1 0 s.cells, ownT 2 0 s.threads] (.tup [NilS, Bv false]) [boxS s 0 0 1 0 2 0, ownC 1 0 s.cells, ownT 2 0 s.threads] en2 q2] Tryz.func43 rfl Tryz.ntmps43 (by simp) Tryz.results43 rfl ?_
 refine rnst ?_
 refine goR ?_
 refine fzB 6 ?_
 refine fzB 9 ?_
 refine fzB 10 ?_
 (any_goals refine goV lv43 0 ?_)
 repeat' (first | (refine Br.go (fun h h' => ?_) (fun h h' => ?_)) | (refine Br.mk (fun h => ?_) (fun h => ?_)))
 all_goals (try simp only [go_sem])
structure ResF (s : aC) (t : aP) (f : aR) (v : Int × Int) (rg : Int) (m : Nat) (c : bJ) : Prop where
 at' : s.cells[m]? = some c
 kind : c.kind = 5
 num : c.num ≠ 1
 few : c.num ≠ 2 → t.frames.length < 30
 fits : fitsF s v = true
 lo : -1 ≤ rg
 hi : rg ≤ (f.regs.length : Int) - 1
 gen : fitsF s (5, (m : Int)) = true
theorem Vh {s : aC} {t : aP} {f : aR} {gv v : Int × Int} {rg : Int} (h : resE s t f gv v rg = 0) : ∃ (m : Nat) (c : bJ), gv = (5, (m : Int)) ∧ ResF s t f v rg m c := by
 obtain ⟨gk, gn⟩ := gv
 unfold resE at h
 by_cases h1 : fitsF s v = false ∨ ¬ (-1 ≤ rg ∧ rg ≤ (f.regs.length : Int) - 1)
 ·rw [if_pos h1] at h; cases h
 rw [if_neg h1] at h
 simp only [not_or, Bool.not_eq_false, Decidable.not_not] at h1
 cases h2 : refF s (gk, gn) 5 with
 | false => rw [h2, if_pos rfl] at h; cases h
 | true =>
 rw [h2, if_neg (by simp)] at h
 have h4 := h2
 rw [vU s gk gn 5 (by decide)] at h4
 simp only [Bool.and_eq_true, decide_eq_true_eq] at h4
 obtain ⟨rfl, h4, h5⟩ := h4
 obtain ⟨r1, r2, r3⟩ := Bb h2
 obtain ⟨m, rfl⟩ : ∃ m : Nat, gn = (m : Int) := ⟨gn.toNat, by omega⟩
 have em : ((m : Nat) : Int).toNat = m := by omega
 dsimp only at h r3
 rw [em] at h r3
 have hc : s.cells[m]? = some s.cells[m] := List.getElem?_eq_getElem (by omega)
 have ec : s.cells.getD m cZ = s.cells[m] := by rw [List.getD_eq_getElem?_getD, hc]; rfl
 rw [ec] at h r3
 by_cases h6 : (s.cells[m]).num = 1
 ·rw [if_pos h6] at h; cases h
 rw [if_neg h6] at h
 refine ⟨m, _, rfl, hc, r3, h6, fun h7 => ?_, h1.1, h1.2.1, h1.2.2, h4⟩
 by_cases h8 : (s.cells[m]).num ≠ 2 ∧ 30 ≤ t.frames.length
 ·rw [if_pos h8] at h; cases h
 ·omega
theorem Lj (p : aI) (s : aC) (th : Int) (n : Nat) (t : aP) (f : aR) (m : Nat) (c : bJ) (v : Int × Int) (rg : Int) (hw : Pwf p) (hs : Swf s) (ha : askE p s th = 0) (h : yX p s th n t f) (hR : ResF s t f v rg m c) (h2 : c.num = 2) :
  FC Cx 43 [bC p, aH s, Iv th, VV 5 m, VV v.1 v.2, Iv rg] [] (.tup [aH (doneS s n t rg (0, 0)), bI [], Iv 0]) [] := by
 have hA : ∀ y, y = [bC p, aH s, Iv th] → aQ Cx 90 y (Iv 0) := fun y hy => by
  subst hy; rw [← ha]; exact aA (vX p s th hw hs) en90 rfl rfl
 have hF := kX hw h
 have h30 := hF.frames
 have h60 := hF.regs
 obtain ⟨rfl, _, ht, _, hf⟩ := h
 have hL : ∀ y, y = [aH s, Iv n] → aQ Cx 91 y (fD f) := fun y hy => by
  subst hy; exact aA (Ie s n t f ht hf (by omega)) en91 rfl rfl
 obtain ⟨vk, vn⟩ := v
 dsimp only at *
 have hc := hR.at'
 have hlo := hR.lo
 have hhi := hR.hi
 have hAt : ∀ y, y = [.r (.rp (cQ p)), bT s, Iv n] → aQ Cx 86 y (cV (atF p s n f)) := fun y hy => by
  subst hy; exact aA (aBb p s n t f hF.go ht hf hF.frame (by omega)) en86 rfl rfl
 have hck := (List.getElem?_eq_some_iff.1 hc).1
 have em : ((m : Nat) : Int).toNat = m := by omega
 have gc := aE aW hc ([] : List RV)
 have lc : (s.cells.map aW).length = s.cells.length := List.length_map ..
 have d1 : decide (rg < -1) = false := by rw [decide_eq_false_iff_not]; omega
 have d2 : decide ((f.regs.length : Int) ≤ rg) = false := by rw [decide_eq_false_iff_not]; omega
 have d4 : decide (c.kind = 5) = true := by simpa using hR.kind
 have d5 : decide (c.num = 1) = false := by simpa using hR.num
 have h1 := hR.fits
 have h3 := hR.gen
 have q1 := Oj s hF.sml 300 301 rfl
 have en1 : aF Cx.P 84 := en84
 have en2 : aF Cx.P 94 := en94
 have eS : aH (doneS s n t rg (0, 0)) = .agg [dO (doneS s n t rg (0, 0)).cells, aT s.shapes, bZ s.texts, cI (doneS s n t rg (0, 0)).threads, eY s.ends, aT s.said, Iv s.asked, Iv s.steps] := rfl
 rw [eS]
 have q2 := go_Q (cs := (doneS s n t rg (0, 0)).cells) (ts := (doneS s n t rg (0, 0)).threads) (Zj p s n t c m rg (vk, vn) (atF p s n f) ht hc h2 (by omega) hF.thr hF.sml.cells (fun h0 => ⟨f, hf, by omega, by omega⟩)) rfl 7 300 301 1 1 1 rfl
 generalize (doneS s n t rg (0, 0)).cells = cs at *
 generalize (doneS s n t rg (0, 0)).threads = ts at *
 generalize atF p s n f = e0 at *
 clear hF ha hR hf ht hc h2
 obtain ⟨fn, pc, tov, gen, ⟨sk, sn⟩, regs, tries⟩ := f
 dsimp only at *
 have lr : (regs.map valR).length = regs.length := List.length_map ..
 refine fE [ctE 90 [bC p, aH s, Iv n] (Iv 0) hA, gK, ctE 91 [aH s, Iv n] (.agg [Iv fn, Iv pc, Iv tov, Iv gen, Iv sk, Iv sn, aT regs, cM tries]) hL, ctN 84 [(7, 300), (16, 301)] [aH s] (.agg [.os 7 1, aT s.shapes, bZ s.texts, .os 16 1, eY s.ends, aT s.said, Iv s.asked, Iv s.steps]) [ownC 7 1 s.cells, ownT 16 1 s.threads] en1 q1, ctE 86 [.r (.rp (cQ p)), bT s, Iv n] (cV e0) hAt, ctQ 94 [(0, 7, 1), (1, 300, 1), (2, 301, 1)] [.r (.rp (cQ p)), .os 0 0, Iv n, Iv m, VV vk vn, Iv rg, cV e0] [boxS s 0 0 1 0 2 0, ownC 1 0 s.cells, ownT 2 0 s.threads] (.tup [NilS, Bv true]) [boxS s 0 0 1 0 2 0, ownC 1 0 cs, ownT 2 0 ts] en2 q2] Tryz.func43 rfl Tryz.ntmps43 (by simp) Tryz.results43 rfl ?_
 refine rnst ?_
 refine goR ?_
 refine fzB 6 ?_
 refine fzB 9 ?_
 refine fzB 10 ?_
 (any_goals refine goVN lv43 0 ?_)
 repeat' (first | (refine Br.go (fun h h' => ?_) (fun h h' => ?_)) | (refine Br.mk (fun h => ?_) (fun h => ?_)))
 all_goals (try simp only [go_sem])
 (apply lC 300 (cs.map aW); (exact rfl); (exact fG zY); (exact rfl); (intro K0; (try simp only [go_sem]); exact ⟨id⟩))
 (apply lC 301 (ts.map aJ); (exact rfl); (exact fG pP); (exact rfl); (intro K0; (try simp only [go_sem]); exact ⟨id⟩))
 (any_goals refine go lv43 0 ?_)
 repeat' (first | (refine Br.go (fun h h' => ?_) (fun h h' => ?_)) | (refine Br.mk (fun h => ?_) (fun h => ?_)))
 all_goals (try simp only [go_sem])
 all_goals rfl
theorem Vo (p : aI) (s : aC) (th : Int) (n : Nat) (t : aP) (f : aR) (m : Nat) (c : bJ) (f0 : aR) (v : Int × Int) (rg : Int) (hw : Pwf p) (hs : Swf s) (ha : askE p s th = 0) (h : yX p s th n t f) (hR : ResF s t f v rg m c) (h2 : c.num ≠ 2) (hcf : c.frames = [f0]) (hG : GenF p s f0) :
  FC Cx 43 [bC p, aH s, Iv th, VV 5 m, VV v.1 v.2, Iv rg] [] (.tup [aH (goS p s n t c f0 m rg v), bI [goE (atF p s n f) m v], Iv 0]) [] := by
 have hA : ∀ y, y = [bC p, aH s, Iv th] → aQ Cx 90 y (Iv 0) := fun y hy => by
  subst hy; rw [← ha]; exact aA (vX p s th hw hs) en90 rfl rfl
 have hF := kX hw h
 have h30 := hF.frames
 have h60 := hF.regs
 obtain ⟨rfl, _, ht, _, hf⟩ := h
 have hL : ∀ y, y = [aH s, Iv n] → aQ Cx 91 y (fD f) := fun y hy => by
  subst hy; exact aA (Ie s n t f ht hf (by omega)) en91 rfl rfl
 obtain ⟨vk, vn⟩ := v
 dsimp only at *
 have hc := hR.at'
 have hlo := hR.lo
 have hhi := hR.hi
 have hAt : ∀ y, y = [.r (.rp (cQ p)), bT s, Iv n] → aQ Cx 86 y (cV (atF p s n f)) := fun y hy => by
  subst hy; exact aA (aBb p s n t f hF.go ht hf hF.frame (by omega)) en86 rfl rfl
 have hck := (List.getElem?_eq_some_iff.1 hc).1
 have em : ((m : Nat) : Int).toNat = m := by omega
 have gc := aE aW hc ([] : List RV)
 have lc : (s.cells.map aW).length = s.cells.length := List.length_map ..
 have d1 : decide (rg < -1) = false := by rw [decide_eq_false_iff_not]; omega
 have d2 : decide ((f.regs.length : Int) ≤ rg) = false := by rw [decide_eq_false_iff_not]; omega
 have d4 : decide (c.kind = 5) = true := by simpa using hR.kind
 have d5 : decide (c.num = 1) = false := by simpa using hR.num
 have h1 := hR.fits
 have h3 := hR.gen
 have q1 := Oj s hF.sml 300 301 rfl
 have en1 : aF Cx.P 84 := en84
 have en2 : aF Cx.P 94 := en94
 have eS : aH (goS p s n t c f0 m rg (vk, vn)) = .agg [dO (goS p s n t c f0 m rg (vk, vn)).cells, aT s.shapes, bZ s.texts, cI (goS p s n t c f0 m rg (vk, vn)).threads, eY s.ends, aT s.said, Iv s.asked, Iv s.steps] := rfl
 rw [eS]
 have q2 := go_Q (cs := (goS p s n t c f0 m rg (vk, vn)).cells) (ts := (goS p s n t c f0 m rg (vk, vn)).threads) (go_c p s n t c f0 m rg (vk, vn) (atF p s n f) hF.go ht hc h2 hcf (hR.few h2) hF.thr hF.sml.cells hG.frame (by have := hG.regs; omega) hG.pc) rfl 7 300 301 1 1 1 rfl
 generalize goE (atF p s n f) m (vk, vn) = e1 at *
 generalize (goS p s n t c f0 m rg (vk, vn)).cells = cs at *
 generalize (goS p s n t c f0 m rg (vk, vn)).threads = ts at *
 generalize atF p s n f = e0 at *
 clear hF ha hR hf ht hc h2 hcf hG
 obtain ⟨fn, pc, tov, gen, ⟨sk, sn⟩, regs, tries⟩ := f
 dsimp only at *
 have lr : (regs.map valR).length = regs.length := List.length_map ..
 refine fE [ctE 90 [bC p, aH s, Iv n] (Iv 0) hA, gK, ctE 91 [aH s, Iv n] (.agg [Iv fn, Iv pc, Iv tov, Iv gen, Iv sk, Iv sn, aT regs, cM tries]) hL, ctN 84 [(7, 300), (16, 301)] [aH s] (.agg [.os 7 1, aT s.shapes, bZ s.texts, .os 16 1, eY s.ends, aT s.said, Iv s.asked, Iv s.steps]) [ownC 7 1 s.cells, ownT 16 1 s.threads] en1 q1, ctE 86 [.r (.rp (cQ p)), bT s, Iv n] (cV e0) hAt, ctQ 94 [(0, 7, 1), (1, 300, 1), (2, 301, 1)] [.r (.rp (cQ p)), .os 0 0, Iv n, Iv m, VV vk vn, Iv rg, cV e0] [boxS s 0 0 1 0 2 0, ownC 1 0 s.cells, ownT 2 0 s.threads] (.tup [bI [e1], Bv true]) [boxS s 0 0 1 0 2 0, ownC 1 0 cs, ownT 2 0 ts] en2 q2] Tryz.func43 rfl Tryz.ntmps43 (by simp) Tryz.results43 rfl ?_
 refine rnst ?_
 refine goR ?_
 refine fzB 6 ?_
 refine fzB 9 ?_
 refine fzB 10 ?_
 (any_goals refine goVN lv43 0 ?_)
 repeat' (first | (refine Br.go (fun h h' => ?_) (fun h h' => ?_)) | (refine Br.mk (fun h => ?_) (fun h => ?_)))
 all_goals (try simp only [go_sem])
 (apply lC 300 (cs.map aW); (exact rfl); (exact fG zY); (exact rfl); (intro K0; (try simp only [go_sem]); exact ⟨id⟩))
 (apply lC 301 (ts.map aJ); (exact rfl); (exact fG pP); (exact rfl); (intro K0; (try simp only [go_sem]); exact ⟨id⟩))
 (any_goals refine go lv43 0 ?_)
 repeat' (first | (refine Br.go (fun h h' => ?_) (fun h h' => ?_)) | (refine Br.mk (fun h => ?_) (fun h => ?_)))
 all_goals (try simp only [go_sem])
 all_goals rfl
theorem Th (fs : List aR) (hl : fs.length ≤ 1000000000) (hr : ∀ f ∈ fs, f.regs.length ≤ 1000000000 ∧ f.tries.length ≤ 1000000000) : FC Cx 143 [bO fs] [] (.os 0 1) [(0, 1, .sl 61 8 (fs.map frameA2))] := by
 have l1 : (fs.map bA).length = fs.length := List.length_map ..
 refine iH [] (i := 0) [.os 0 1] Tryz.func143 rfl Tryz.ntmps143 (by simp) Tryz.results143 (pX _) ?_
 refine rnst ?_
 (any_goals refine go Kq 0 ?_)
 (apply kR 3 1003 61 8; (exact rfl); (exact rfl); (intro K0; (try simp only [go_sem]); exact ⟨id⟩))
 refine bY (fun x : Nat × Nat => x.1 ≤ fs.length) (fun x => ⟨28, [(3, .os 1003 (1 + x.1)), (6, bO fs), (7, Iv fs.length), (8, Iv x.1)], [(1003, 1 + x.1, .sl 61 8 ((fs.take x.1).map frameA2)), (5, x.2, .gone), (12, x.2, .gone), (16, x.2, .gone), (24, x.2, .gone)]⟩) (fun x => fs.length - x.1) (0, 0) (Nat.zero_le _) ?_
 rintro ⟨i, u⟩ hi
 dsimp only at hi ⊢
 by_cases hlt : i < fs.length
 case neg =>
  obtain rfl : i = fs.length := by omega
  have e1 := bS fs
  rw [List.take_length]
  (any_goals refine go Kq 0 ?_)
  all_goals (try simp only [go_sem])
 obtain ⟨f, hx, hg, h1, h2, hw⟩ := cE bA fs hlt (by omega)
 obtain ⟨r1, r2⟩ := hr f (List.mem_of_getElem? hx)
 have l3 : (f.regs.map valR).length = f.regs.length := List.length_map ..
 have l4 : (f.tries.map tryR).length = f.tries.length := List.length_map ..
 have l5 : (f.regs.map valC).length = f.regs.length := List.length_map ..
 have l6 : (f.tries.map tryC).length = f.tries.length := List.length_map ..
 have hnx : (fs.take (i + 1)).map frameA2 = (fs.take i).map frameA2 ++ [frameA2 f] := by rw [List.take_add_one, hx, List.map_append]; rfl
 have hL : ((fs.take i).map frameA2).length = i := by rw [List.length_map, List.length_take]; omega
 generalize (fs.take i).map frameA2 = L at *
 (any_goals refine go (eM 6 Kq) 0 ?_)
 (apply gU 16 (f.tries.map tryR); (exact rfl); (exact (Hu f.tries).symm); (exact rfl); (intro K0; (try simp only [go_sem]); exact ⟨id⟩))
 have qa : ∀ X : List AV, (L ++ [X])[i]? = some X := fun X => by rw [List.getElem?_append_right (by omega), hL, Nat.sub_self]; rfl
 have qs : ∀ X Y : List AV, (L ++ [X]).set i Y = L ++ [Y] := fun X Y => by rw [List.set_append_right _ _ (by omega), hL, Nat.sub_self]; rfl
 (any_goals refine go (eM 7 Kq) 0 ?_)
 (apply dD 1003 i 6 12 (f.regs.map valN); (exact rfl); (exact qa _); (exact rfl); (exact (by decide)); (exact congrArg (fun z => (u + 1 + 1, Res.sl 50 2 z)) (lT f.regs).symm); (exact rfl); (intro K0; (try simp only [go_sem, qs]); exact ⟨id⟩))
 clear qa qs
 (any_goals refine go Kq 0 ?_)
 refine ⟨(i + 1, u + 9), by dsimp only; omega, by dsimp only; omega, ?_⟩
 dsimp only
 rw [hnx]
 exact bF
theorem Pi (xs : List (List RV)) (h : xs = (framesOf xs).map bA ∧ (framesOf xs).length ≤ 1000000000 ∧ ∀ f ∈ framesOf xs, f.regs.length ≤ 1000000000 ∧ f.tries.length ≤ 1000000000) : FC Cx 143 [.r (.rs 8 xs)] [] (.os 0 1) [(0, 1, .sl 61 8 ((framesOf xs).map frameA2))] := by
 have := Th (framesOf xs) h.2.1 h.2.2
 rwa [show bO (framesOf xs) = .r (.rs 8 xs) from by show AV.r (RV.rs 8 ((framesOf xs).map bA)) = _; rw [← h.1]] at this
theorem Dz (xs : List (List RV)) : ∀ row ∈ (framesOf xs).map frameA2, aX bR row = true := pX _
def jQ (st : St) (d : Nat) (args : List AV) (K : AV → List Loc → List (Loc × Cont) → Prop) : Prop := match args with
 | [.r (.rs 8 xs)] => (xs = (framesOf xs).map bA ∧ (framesOf xs).length ≤ 1000000000 ∧ ∀ f ∈ framesOf xs, f.regs.length ≤ 1000000000 ∧ f.tries.length ≤ 1000000000) ∧ K (ren (fun _ => d) (fun _ => st.cur d) (.os 0 1)) [.R d] [(.R d, .s (1 + st.cur d) (.sl 61 8 ((framesOf xs).map frameA2)))]
 | _ => False
theorem Ce (st : St) (d : Nat) (args : List AV) (K : AV → List Loc → List (Loc × Cont) → Prop) (h : jQ st d args K) : ∃ r ls outs, dI Cx 143 st args r ls outs ∧ K r ls outs := by
 unfold jQ at h
 split at h
 ·exact ⟨_, _, _, dI.own (Pi _ h.1) rfl (Dz _) rfl d, h.2⟩
 ·exact h.elim
noncomputable def rV : Ct Cx := .res 143 jQ aUs Ce
@[go_sem] theorem aDv : rV.g = 143 := rfl
@[go_sem] theorem Vx (c : Call) (fop : Operand) (caps : List AV) (o : Oper) (st : St) (K : List Loc → List (Loc × Cont) → Prop) : rV.run c fop caps o st K = kO jQ c fop caps o st K := rfl
@[go_sem] theorem aBt : type_of% @jQ.eq_def := @jQ.eq_def
theorem Pq (a b : Nat) (cs : List bJ) (ts : List aP) (k : Nat) : bP (domR [ownC 1004 a cs, ownT 1007 b ts]) (aB k [ownC 1004 a cs, ownT 1007 b ts]).2 := by
 have e : aB k [ownC 1004 a cs, ownT 1007 b ts] = if k = 1004 then (a, .sl 48 4 (cs.map cK)) else if k = 1007 then (b, .sl 56 5 (ts.map aV)) else (0, .gone) := rfl
 rw [e]
 split
 ·exact fun row h => by obtain ⟨x, _, rfl⟩ := List.mem_map.1 h; rfl
 ·split
  ·exact fun row h => by obtain ⟨x, _, rfl⟩ := List.mem_map.1 h; rfl
  ·trivial
theorem aBk (s : aC) (hm : Sml s) : FC Cx 87 [aH s] [] (.agg [.os 1004 (1 + s.cells.length), aT s.shapes, bZ s.texts, .os 1007 (1 + s.threads.length), eY s.ends, aT s.said, Iv s.asked, Iv s.steps]) [ownC 1004 (1 + s.cells.length) s.cells, ownT 1007 (1 + s.threads.length) s.threads] := by
 obtain ⟨m1, m2, m3, m4, m5, m6, m7, m8, m9⟩ := hm
 have l1 : (s.cells.map aW).length = s.cells.length := List.length_map ..
 have l2 : (s.shapes.map valC).length = s.shapes.length := List.length_map ..
 have l3 : (s.texts.map strC).length = s.texts.length := List.length_map ..
 have l4 : (s.threads.map aJ).length = s.threads.length := List.length_map ..
 have l5 : (s.ends.map endC).length = s.ends.length := List.length_map ..
 have l6 : (s.said.map valC).length = s.said.length := List.length_map ..
 refine iZ [rV]  Tryz.func87 rfl Tryz.ntmps87 (by simp) Tryz.results87 rfl (Pq _ _ _ _) ?_
 refine rnst ?_
 (any_goals refine go lv87 0 ?_)
 (apply kR 4 1004 48 4; (exact rfl); (exact rfl); (intro K0; (try simp only [go_sem]); exact ⟨id⟩))
 refine bY (fun x : Nat × Nat => x.1 ≤ s.cells.length) (fun x => ⟨74, [(1, .os 1 1), (2, .os 2 1), (3, .r (.fn 143 [])), (4, .os 1004 (1 + x.1)), (11, dO s.cells), (12, Iv s.cells.length), (13, Iv x.1)], [(1, 1, .bx [dO s.cells, aT s.shapes, bZ s.texts, cI s.threads, eY s.ends, aT s.said, Iv s.asked, Iv s.steps]), (2, 1, .bx [NilS, NilS, NilS, NilS, NilS, NilS, Iv 0, Iv 0]), (1004, 1 + x.1, .sl 48 4 ((s.cells.take x.1).map cK)), (6, x.2, .gone), (17, x.2, .gone), (24, x.2, .gone), (29, x.2, .gone)]⟩) (fun x => s.cells.length - x.1) (0, 0) (Nat.zero_le _) ?_
 rintro ⟨i, u⟩ hi
 dsimp only at hi ⊢
 by_cases hlt : i < s.cells.length
 case pos =>
  obtain ⟨c, hx, hg, h1, h2, hw⟩ := cE aW s.cells hlt (by omega)
  have r1 := m7 c (List.mem_of_getElem? hx)
  obtain ⟨r2, r3⟩ := m8 c (List.mem_of_getElem? hx)
  have l9 : (c.vals.map valC).length = c.vals.length := List.length_map ..
  have l10 : (c.frames.map bA).length = c.frames.length := List.length_map ..
  have hnx : (s.cells.take (i + 1)).map cK = (s.cells.take i).map cK ++ [cK c] := by rw [List.take_add_one, hx, List.map_append]; rfl
  have hL : ((s.cells.take i).map cK).length = i := by rw [List.length_map, List.length_take]; omega
  generalize (s.cells.take i).map cK = L at *
  have qa : ∀ X : List AV, (L ++ [X])[i]? = some X := fun X => by rw [List.getElem?_append_right (by omega), hL, Nat.sub_self]; rfl
  have qs : ∀ X Y : List AV, (L ++ [X]).set i Y = L ++ [Y] := fun X Y => by rw [List.set_append_right _ _ (by omega), hL, Nat.sub_self]; rfl
  clear m7 m8 m9
  (any_goals refine go (eM 7 lv87) 0 ?_)
  (apply gU 17 (c.vals.map valR); (exact rfl); (exact (Cc c.vals).symm); (exact rfl); (intro K0; (try simp only [go_sem]); exact ⟨id⟩))
  (any_goals refine go (eM 8 lv87) 0 ?_)
  (apply dD 1004 i 3 24 (c.frames.map dW); (exact rfl); (exact qa _); (exact rfl); (exact (by decide)); (exact congrArg (fun z => (1 + u, Res.sl 61 8 z)) (dJ c.frames).symm); (exact rfl); (intro K0; (try simp only [go_sem, qs]); exact ⟨id⟩))
  clear qa qs
  (any_goals refine go lv87 0 ?_)
  refine ⟨(i + 1, u + 9), by dsimp only; omega, by dsimp only; omega, ?_⟩
  dsimp only
  rw [hnx]
  exact bF
 obtain rfl : i = s.cells.length := by omega
 have e1 := bS s.cells
 rw [List.take_length]
 clear hi hlt
 (any_goals refine go lv87 0 ?_)
 clear e1
 (apply kR 7 1007 56 5; (exact rfl); (exact rfl); (intro K0; (try simp only [go_sem]); exact ⟨id⟩))
 refine bY (fun x : Nat × Nat => x.1 ≤ s.threads.length) (fun x => ⟨74, [(1, .os 1 1), (2, .os 2 1), (3, .r (.fn 143 [])), (4, .os 1004 (1 + s.cells.length)), (7, .os 1007 (1 + x.1)), (33, cI s.threads), (34, Iv s.threads.length), (35, Iv x.1)], [(1, 1, .bx [dO s.cells, aT s.shapes, bZ s.texts, cI s.threads, eY s.ends, aT s.said, Iv s.asked, Iv s.steps]), (2, 1, .bx [NilS, NilS, NilS, NilS, NilS, NilS, Iv 0, Iv 0]), (1004, 1 + s.cells.length, .sl 48 4 (s.cells.map cK)), (6, u, .gone), (17, u, .gone), (24, u, .gone), (29, u, .gone), (1007, 1 + x.1, .sl 56 5 ((s.threads.take x.1).map aV)), (9, x.2, .gone), (42, x.2, .gone), (46, x.2, .gone)]⟩) (fun x => s.threads.length - x.1) (0, 0) (Nat.zero_le _) ?_
 rintro ⟨i, w⟩ hi
 dsimp only at hi ⊢
 by_cases hlt : i < s.threads.length
 case pos =>
  obtain ⟨t, hx, hg, h1, h2, hw⟩ := cE aJ s.threads hlt (by omega)
  obtain ⟨r2, r3⟩ := m9 t (List.mem_of_getElem? hx)
  have l10 : (t.frames.map bA).length = t.frames.length := List.length_map ..
  have hnx : (s.threads.take (i + 1)).map aV = (s.threads.take i).map aV ++ [aV t] := by rw [List.take_add_one, hx, List.map_append]; rfl
  have hL : ((s.threads.take i).map aV).length = i := by rw [List.length_map, List.length_take]; omega
  generalize (s.threads.take i).map aV = L at *
  have qa : ∀ X : List AV, (L ++ [X])[i]? = some X := fun X => by rw [List.getElem?_append_right (by omega), hL, Nat.sub_self]; rfl
  have qs : ∀ X Y : List AV, (L ++ [X]).set i Y = L ++ [Y] := fun X Y => by rw [List.set_append_right _ _ (by omega), hL, Nat.sub_self]; rfl
  clear m7 m8 m9
  (any_goals refine go (eM 15 lv87) 0 ?_)
  (apply dD 1007 i 0 42 (t.frames.map dW); (exact rfl); (exact qa _); (exact rfl); (exact (by decide)); (exact congrArg (fun z => (1 + w, Res.sl 61 8 z)) (dJ t.frames).symm); (exact rfl); (intro K0; (try simp only [go_sem, qs]); exact ⟨id⟩))
  clear qa qs
  (any_goals refine go lv87 0 ?_)
  refine ⟨(i + 1, w + 9), by dsimp only; omega, by dsimp only; omega, ?_⟩
  dsimp only
  rw [hnx]
  exact bF
 obtain rfl : i = s.threads.length := by omega
 have e1 := bS s.threads
 rw [List.take_length]
 clear hi hlt
 (any_goals refine go (eM 19 lv87) 0 ?_)
 (apply gU 53 (s.shapes.map valR); (exact rfl); (exact (Cc s.shapes).symm); (exact rfl); (intro K0; (try simp only [go_sem]); exact ⟨id⟩))
 (apply gU 57 (s.texts.map strR); (exact rfl); (exact (Wn s.texts).symm); (exact rfl); (intro K0; (try simp only [go_sem]); exact ⟨id⟩))
 (apply gU 63 (s.ends.map endR); (exact rfl); (exact (Xr s.ends).symm); (exact rfl); (intro K0; (try simp only [go_sem]); exact ⟨id⟩))
 (apply gU 67 (s.said.map valR); (exact rfl); (exact (Cc s.said).symm); (exact rfl); (intro K0; (try simp only [go_sem]); exact ⟨id⟩))
 (any_goals refine go lv87 0 ?_)
 all_goals (try simp only [go_sem])
theorem Mf (s : aC) (hm : Sml s) (a b : Nat) (hab : (a == b) = false) : NOk (C := Cx) 87 [(1004, a), (1007, b)] [aH s] (.agg [.os 1004 (1 + s.cells.length), aT s.shapes, bZ s.texts, .os 1007 (1 + s.threads.length), eY s.ends, aT s.said, Iv s.asked, Iv s.steps]) [ownC 1004 (1 + s.cells.length) s.cells, ownT 1007 (1 + s.threads.length) s.threads] :=
 ⟨aBk s hm, rfl, by simp [ndB, memN, show a ≠ b by simpa using hab], rfl, rfl, fun _ _ => rfl, rfl, fun p hp => by
  rcases List.mem_cons.1 hp with rfl | hp
  ·exact Pq _ _ s.cells s.threads 1004
  ·rcases List.mem_cons.1 hp with rfl | hp
   ·exact Pq _ _ s.cells s.threads 1007
   ·simp at hp, fun q hq => by
  rcases List.mem_cons.1 hq with rfl | hq
  ·exact ⟨rfl, Nat.le_add_right ..⟩
  ·rcases List.mem_cons.1 hq with rfl | hq
   ·exact ⟨rfl, Nat.le_add_right ..⟩
   ·simp at hq⟩
theorem aFh (e1 e2 e3 e4 e5 e6 e7 e8 e9 f1 f2 f3 k a b v1 v2 o1 o2 : Int) : FC Cx 88 [.agg [Iv e1, Iv e2, Iv e3, Iv e4, Iv e5, Iv e6, Iv e7, Iv e8, Iv e9, Iv f1, Iv f2, Iv f3], Iv k, Iv a, Iv b, VV v1 v2, VV o1 o2] [] (.agg [Iv k, Iv e2, Iv e3, Iv e4, Iv e5, Iv e6, Iv a, Iv b, Iv v1, Iv v2, Iv o1, Iv o2]) [] :=
 aDy ⟨e1, e2, e3, e4, e5, e6, e7, e8, (e9, f1), (f2, f3)⟩ k a b (v1, v2) (o1, o2)
def xF (args : List AV) (K : AV → Prop) : Prop := match args with
 | [.agg [.r (.v (.int .i64 e1)), .r (.v (.int .i64 e2)), .r (.v (.int .i64 e3)), .r (.v (.int .i64 e4)), .r (.v (.int .i64 e5)), .r (.v (.int .i64 e6)), .r (.v (.int .i64 e7)), .r (.v (.int .i64 e8)), .r (.v (.int .i64 e9)), .r (.v (.int .i64 f1)), .r (.v (.int .i64 f2)), .r (.v (.int .i64 f3))], .r (.v (.int .i64 k)), .r (.v (.int .i64 a)), .r (.v (.int .i64 b)), .agg [.r (.v (.int .i64 v1)), .r (.v (.int .i64 v2))], .agg [.r (.v (.int .i64 o1)), .r (.v (.int .i64 o2))]] => K (.agg [Iv k, Iv e2, Iv e3, Iv e4, Iv e5, Iv e6, Iv a, Iv b, Iv v1, Iv v2, Iv o1, Iv o2])
 | _ => False
noncomputable abbrev aAv : Ct Cx := .pure 88 xF fun args K h => by
 unfold xF at h; split at h; exact ⟨_, aA (aFh _ _ _ _ _ _ _ _ _ _ _ _ _ _ _ _ _ _ _) en88 rfl rfl, h⟩; exact h.elim
@[go_sem] theorem aJn : type_of% @xF.eq_def := @xF.eq_def
theorem Dj (p : aI) (s : aC) (t : aP) (hp : Pgo p) (hfs : ∀ f ∈ t.frames, Gwf f) (hl : t.frames.length ≤ 30) (hl2 : s.threads.length ≤ 9223372036854775807) (hsl : s.cells.length ≤ 9223372036854775807) :
  FC Cx 82 [bC p, aH s, dU t] [] (Bv (jV p s t)) [] := by
 have l0 : (t.frames.map bA).length = t.frames.length := List.length_map ..
 have l1 : (s.threads.map aJ).length = s.threads.length := List.length_map ..
 have l2 : (p.fns.map fnR).length = p.fns.length := List.length_map ..
 have lc : (s.cells.map aW).length = s.cells.length := List.length_map ..
 unfold jV
 obtain ⟨fs, state, on, ⟨vk, vn⟩⟩ := t
 dsimp only at *
 have w1 : IntKind.i64.wrap ((s.threads.length : Int) - 1) = (s.threads.length : Int) - 1 := by rw [aN] <;> omega
 have hlen : decide ((0 : Int) < (fs.length : Int)) = !decide ((fs.length : Int) = 0) := by
  rw [← decide_not, decide_eq_decide]; omega
 rw [Aw]
 obtain ⟨o3, r1⟩ : ∃ c, decide (state = 3) = c := ⟨_, rfl⟩
 obtain ⟨o4, r2⟩ : ∃ c, decide (state = 4) = c := ⟨_, rfl⟩
 obtain ⟨e, r3⟩ : ∃ c, decide ((fs.length : Int) = 0) = c := ⟨_, rfl⟩
 obtain ⟨v1, r4⟩ : ∃ c, decide (vk = 0) = c := ⟨_, rfl⟩
 obtain ⟨v2, r5⟩ : ∃ c, decide (vn = 0) = c := ⟨_, rfl⟩
 obtain ⟨ff, r6⟩ : ∃ c, fitsF s (vk, vn) = c := ⟨_, rfl⟩
 obtain ⟨w, r7⟩ : ∃ c, decide (0 ≤ state ∧ state ≤ 4) = c := ⟨_, rfl⟩
 obtain ⟨sw, r8⟩ : ∃ c, (if state = 1 then refF s (5, on) 6 else if state = 2 then decide (0 ≤ on ∧ on ≤ (s.threads.length : Int) - 1) else decide (on = 0)) = c := ⟨_, rfl⟩
 by_cases hno : (((o3 || o4) == e) && ((o3 || o4) || (v1 && v2)) && ff && w) = false
 ·have := Bo p s ⟨fs, state, on, (vk, vn)⟩ hp hfs hl hl2 hsl (by dsimp only; rw [r1, r2, r3, r4, r5, r6, r7]; exact hno)
  rw [r1, r2, r3, r4, r5, r6, r7, hno]
  exact this
 rw [r3] at hlen
 rw [Bool.not_eq_false] at hno
 rw [r1, r2, r3, r4, r5, r6, r7, r8, hno]
 simp only [Bool.and_eq_true] at hno
 obtain ⟨⟨⟨hoe, hov⟩, rfl⟩, rfl⟩ := hno
 rw [Bool.true_and]
 refine aD [aU, cD, cY, fP] Tryz.func82 Tryz.ntmps82 Tryz.results82 ?_
 refine goR ?_
 refine fzB 3 ?_
 refine fzB 4 ?_
 refine fzB 5 ?_
 refine kK ?_
 refine mL (st' := ⟨137, [(3, .r (.rp (cQ p))), (4, bT s), (5, .r (.rp (aJ ⟨fs, state, on, (vk, vn)⟩))), (7, Bv (o3 || o4))], [(3, 2, .gone), (4, 2, .gone), (5, 2, .gone)]⟩) True rfl ?_ fun _ => ?_
 ·cases o3 <;> cases o4
  all_goals
   (any_goals refine go lv82 0 ?_)
   all_goals (try simp only [go_sem])
   exact Lx.le bF
 refine kK ?_
 refine mL (st' := ⟨137, [(3, .r (.rp (cQ p))), (4, bT s), (5, .r (.rp (aJ ⟨fs, state, on, (vk, vn)⟩))), (48, Bv false)], [(3, 2, .gone), (4, 2, .gone), (5, 2, .gone)]⟩) True rfl ?_ fun _ => ?_
 ·cases o3 <;> cases o4 <;> cases e <;> first | cases hoe | skip
  all_goals cases v1 <;> cases v2 <;> first | cases hov | skip
  all_goals
   (any_goals refine go lv82 0 ?_)
   all_goals (try simp only [go_sem])
   exact Lx.le bF
 clear hoe hov r1 r2 r3 r4 r5 r6 hlen
 refine kK ?_
 refine mL (st' := ⟨137, [(3, .r (.rp (cQ p))), (4, bT s), (5, .r (.rp (aJ ⟨fs, state, on, (vk, vn)⟩)))], [(3, 2, .gone), (4, 2, .gone), (5, 2, .gone)]⟩) (sw = true) rfl ?_ fun hsw => ?_
 ·by_cases s1 : state = 1
  ·subst s1
   rw [if_pos rfl] at r8
   cases sw with
   | false =>
    rw [Bool.false_and]
    (any_goals refine go lv82 0 ?_)
    all_goals (try simp only [go_sem])
   | true =>
    (any_goals refine go lv82 0 ?_)
    all_goals (try simp only [go_sem])
    exact Lx.le bF
  rw [if_neg s1] at r8
  have d1 : decide (state = 1) = false := by simpa using s1
  by_cases s2 : state = 2
  ·subst s2
   rw [if_pos rfl] at r8
   cases sw with
   | false =>
    rw [Bool.false_and]
    (any_goals refine go lv82 0 ?_)
    all_goals (try simp only [go_sem])
   | true =>
    (any_goals refine go lv82 0 ?_)
    all_goals (try simp only [go_sem])
    exact Lx.le bF
  rw [if_neg s2] at r8
  have d2 : decide (state = 2) = false := by simpa using s2
  cases sw with
  | false =>
   rw [Bool.false_and]
   (any_goals refine go lv82 0 ?_)
   all_goals (try simp only [go_sem])
  | true =>
   (any_goals refine go lv82 0 ?_)
   all_goals (try simp only [go_sem])
   exact Lx.le bF
 subst hsw
 rw [Bool.true_and]
 clear r8 r7
 (any_goals refine go lv82 0 ?_)
 have h60 := hp.fns
 refine bY (fun x : Nat × Nat => x.1 ≤ fs.length ∧ pA p s 0 0 fs = pA p s x.1 (kN fs x.1) (fs.drop x.1)) (fun x => ⟨137, [(3, .r (.rp (cQ p))), (4, bT s), (5, .r (.rp (aJ ⟨fs, state, on, (vk, vn)⟩))), (73, bO fs), (74, Iv fs.length), (75, Iv x.1)], [(3, 2, .gone), (4, 2, .gone), (5, 2, .gone), (9, x.2, .gone)]⟩) (fun x => fs.length - x.1) (0, 0) ⟨Nat.zero_le _, rfl⟩ ?_
 rintro ⟨i, u⟩ ⟨hi, hG⟩
 dsimp only at hi hG ⊢
 by_cases hlt : i < fs.length
 case neg =>
  obtain rfl : i = fs.length := by omega
  have e1 := bS fs
  rw [List.drop_length] at hG
  have hG' : pA p s 0 0 fs = true := hG
  rw [hG']
  clear hG hG'
  (any_goals refine go lv82 0 ?_)
  all_goals (try simp only [go_sem])
 obtain ⟨f, hx, hg, h1, h2, hw⟩ := cE bA fs hlt (by omega)
 have hwf := hfs f (List.mem_of_getElem? hx)
 have hd : fs.drop i = f :: fs.drop (i + 1) := by rw [← List.getElem_cons_drop hlt]; congr 1; exact (List.getElem?_eq_some_iff.1 hx).2
 have hnx : kN fs (i + 1) = f.regs.length := by
  unfold kN
  rw [if_neg (by omega), Nat.add_sub_cancel, List.getD_eq_getElem?_getD, hx]; rfl
 rw [hd] at hG
 have hst : pA p s i (kN fs i) (f :: fs.drop (i + 1)) = (cU p s f && decide (-1 ≤ f.tov ∧ f.tov ≤ kN fs i - 1) && ((p.fns.getD f.fn.toNat fn0).gen == !decide (f.gen = -1)) && (!(p.fns.getD f.fn.toNat fn0).gen || jB s i f) && pA p s (i + 1) f.regs.length (fs.drop (i + 1))) := rfl
 rw [hst] at hG
 clear hst hd
 obtain ⟨fn, pc, tov, gen, ⟨sk, sn⟩, regs, tries⟩ := f
 dsimp only at hG hnx
 have lr : (regs.map valR).length = regs.length := List.length_map ..
 have eR : Int.toNat ((i : Int) - 1) = i - 1 := by omega
 cases hfr : cU p s ⟨fn, pc, tov, gen, (sk, sn), regs, tries⟩ with
 | false =>
  rw [hfr] at hG
  simp only [Bool.false_and] at hG
  rw [hG]
  clear hG hnx
  (any_goals refine go lv82 0 ?_)
  all_goals (try simp only [go_sem])
 | true =>
 obtain ⟨⟨f1, f2⟩, _, _⟩ := jC hfr
 dsimp only at f1 f2
 obtain ⟨F, hF⟩ : ∃ F, p.fns[fn.toNat]? = some F := ⟨p.fns[fn.toNat]'(by omega), List.getElem?_eq_getElem _⟩
 have gF := aE fnR hF ([] : List RV)
 have eF : p.fns.getD fn.toNat fn0 = F := by rw [List.getD_eq_getElem?_getD, hF]; rfl
 obtain ⟨b4, h4⟩ : ∃ b, F.gen = b := ⟨_, rfl⟩
 obtain ⟨b1, k1⟩ : ∃ b, decide (-1 ≤ tov ∧ tov ≤ kN fs i - 1) = b := ⟨_, rfl⟩
 obtain ⟨b2, k2⟩ : ∃ b, decide (gen = -1) = b := ⟨_, rfl⟩
 rw [hfr, k1, eF, h4, k2] at hG
 simp only [Bool.true_and] at hG
 clear eF
 by_cases i0 : i = 0
 ·have e0 : decide ((0 : Int) < (i : Int)) = false := by rw [decide_eq_false_iff_not]; omega
  have e2 : decide ((i : Int) = 0) = true := by rw [decide_eq_true_eq]; omega
  have hgo : jB s i ⟨fn, pc, tov, gen, (sk, sn), regs, tries⟩ = false := by unfold jB; rw [decide_eq_true i0]; rfl
  have k1' : decide (-1 ≤ tov ∧ tov ≤ -1) = b1 := by rw [← k1]; unfold kN; rw [if_pos i0]; rfl
  clear i0 k1
  cases b1 with
  | false =>
   simp only [Bool.false_and] at hG
   rw [hG]
   clear hG hnx
   (any_goals refine go lv82 0 ?_)
   all_goals (try simp only [go_sem])
  | true =>
  cases b4 <;> cases b2
  ·replace hG := hG.trans (show _ = false by simp)
   rw [hG]
   clear hG hnx
   (any_goals refine go lv82 0 ?_)
   all_goals (try simp only [go_sem])
  ·simp only [Bool.true_and, Bool.not_false, Bool.not_true, Bool.true_or, beq_self_eq_true] at hG
   (any_goals refine go lv82 0 ?_)
   refine ⟨(i + 1, u + 9), ⟨by dsimp only; omega, by dsimp only; rw [hG, hnx]⟩, by dsimp only; omega, ?_⟩
   dsimp only
   exact bF
  ·rw [hgo] at hG
   simp only [Bool.true_and, Bool.not_false, Bool.not_true, Bool.or_self, Bool.false_and, beq_self_eq_true] at hG
   clear hgo
   rw [hG]
   clear hG hnx
   (any_goals refine go lv82 0 ?_)
   all_goals (try simp only [go_sem])
  ·replace hG := hG.trans (show _ = false by simp)
   rw [hG]
   clear hG hnx
   (any_goals refine go lv82 0 ?_)
   all_goals (try simp only [go_sem])
 ·have e0 : decide ((0 : Int) < (i : Int)) = true := by rw [decide_eq_true_eq]; omega
  have e2 : decide ((i : Int) = 0) = false := by rw [decide_eq_false_iff_not]; omega
  have w2 : IntKind.i64.wrap ((i : Int) - 1) = (i : Int) - 1 := by rw [aN] <;> omega
  obtain ⟨f0, hf0⟩ : ∃ v, fs[i - 1]? = some v := ⟨fs[i - 1], List.getElem?_eq_getElem (by omega)⟩
  have hg0 := aE bA hf0 ([] : List RV)
  have lr0 : (f0.regs.map valR).length = f0.regs.length := List.length_map ..
  have hwf0 := (hfs f0 (List.mem_of_getElem? hf0)).regs
  have w3 : IntKind.i64.wrap ((f0.regs.length : Int) - 1) = (f0.regs.length : Int) - 1 := by rw [aN] <;> omega
  have i1 : 1 ≤ i := by omega
  have hgo : jB s i ⟨fn, pc, tov, gen, (sk, sn), regs, tries⟩ = (refF s (5, gen) 5 && decide ((s.cells.getD gen.toNat cZ).num = 1)) := by unfold jB; rw [decide_eq_false i0]; rfl
  have k1' : decide (-1 ≤ tov ∧ tov ≤ (f0.regs.length : Int) - 1) = b1 := by rw [← k1]; unfold kN; rw [if_neg i0, List.getD_eq_getElem?_getD, hf0]; rfl
  clear i0 k1
  cases b1 with
  | false =>
   simp only [Bool.false_and] at hG
   rw [hG]
   clear hG hnx
   (any_goals refine go lv82 0 ?_)
   all_goals (try simp only [go_sem])
  | true =>
  cases b4 <;> cases b2
  ·replace hG := hG.trans (show _ = false by simp)
   rw [hG]
   clear hG hnx
   (any_goals refine go lv82 0 ?_)
   all_goals (try simp only [go_sem])
  ·simp only [Bool.true_and, Bool.not_false, Bool.not_true, Bool.true_or, beq_self_eq_true] at hG
   (any_goals refine go lv82 0 ?_)
   refine ⟨(i + 1, u + 9), ⟨by dsimp only; omega, by dsimp only; rw [hG, hnx]⟩, by dsimp only; omega, ?_⟩
   dsimp only
   exact bF
  ·simp only [Bool.true_and, Bool.not_false, Bool.not_true, Bool.false_or, beq_self_eq_true] at hG
   rw [hgo] at hG
   clear hgo
   cases hr : refF s (5, gen) 5 with
   | false =>
    rw [hr] at hG
    simp only [Bool.false_and] at hG
    rw [hG]
    clear hG hnx
    (any_goals refine go lv82 0 ?_)
    all_goals (try simp only [go_sem])
   | true =>
   have hr2 := Bb hr
   obtain ⟨n0, n1, _⟩ := hr2
   obtain ⟨c, hc⟩ : ∃ c, s.cells[gen.toNat]? = some c := ⟨s.cells[gen.toNat]'(by omega), List.getElem?_eq_getElem _⟩
   have gC := aE aW hc ([] : List RV)
   rw [hr, mE hc] at hG
   cases hnum : decide (c.num = 1) with
   | false =>
    rw [hnum] at hG
    simp only [Bool.and_false, Bool.false_and] at hG
    rw [hG]
    clear hG hnx
    (any_goals refine go lv82 0 ?_)
    all_goals (try simp only [go_sem])
   | true =>
    rw [hnum] at hG
    simp only [Bool.true_and] at hG
    (any_goals refine go lv82 0 ?_)
    refine ⟨(i + 1, u + 9), ⟨by dsimp only; omega, by dsimp only; rw [hG, hnx]⟩, by dsimp only; omega, ?_⟩
    dsimp only
    exact bF
  ·replace hG := hG.trans (show _ = false by simp)
   rw [hG]
   clear hG hnx
   (any_goals refine go lv82 0 ?_)
   all_goals (try simp only [go_sem])
theorem Pv {l : List Int} {k : Nat} {g : Int} (h : l[k]? = some g) : decide (l.take (k + 1)).Nodup = (decide (l.take k).Nodup && (l.take k).all fun u => !decide (g = u)) := by
 rw [List.take_add_one, h, Bool.eq_iff_iff]
 simp only [Option.toList, Bool.and_eq_true, decide_eq_true_eq, List.all_eq_true, Bool.not_eq_true', decide_eq_false_iff_not, List.nodup_append]
 constructor
 ·rintro ⟨h1, _, h3⟩
  exact ⟨h1, fun u hu he => h3 u hu g (by simp) he.symm⟩
 ·rintro ⟨h1, h2⟩
  refine ⟨h1, by simp, fun a ha b hb => ?_⟩
  simp at hb; subst hb
  exact fun he => h2 a ha he.symm
theorem Hp {l m : List ByteArray} {k : Nat} {x y : ByteArray} (hx : l[k]? = some x) (hy : m[k]? = some y) : decide (l.take (k + 1) = m.take (k + 1)) = (decide (l.take k = m.take k) && decide (x = y)) := by
 rw [List.take_add_one, hx, List.take_add_one, hy, Bool.eq_iff_iff, Bool.and_eq_true]
 simp only [Option.toList]
 have e : (l.take k).length = (m.take k).length := by
  have h1 := (List.getElem?_eq_some_iff.1 hx).1
  have h2 := (List.getElem?_eq_some_iff.1 hy).1
  rw [List.length_take, List.length_take]; omega
 constructor
 ·intro h
  have := List.append_inj (of_decide_eq_true h) e
  exact ⟨decide_eq_true this.1, decide_eq_true (by simpa using this.2)⟩
 ·rintro ⟨h1, h2⟩
  refine decide_eq_true ?_
  rw [of_decide_eq_true h1, of_decide_eq_true h2]
theorem Pb {s : aC} (h : dE s = 0) {c : bJ} (hc : c ∈ s.cells) : (c.kind = 4 → 0 ≤ c.num) ∧ (c.kind = 5 → c.num = 0 → c.frames.length = 1) := by
 have := (qR.1 h).cells c hc
 unfold eO at this
 simp only [Bool.and_eq_true, decide_eq_true_eq] at this
 obtain ⟨⟨⟨⟨⟨_, a2⟩, _⟩, a4⟩, _⟩, _⟩ := this
 refine ⟨fun k4 => ?_, fun k5 n0 => ?_⟩
 ·unfold numF at a2
  rw [if_neg (by rw [k4]; decide), if_pos k4] at a2
  simpa using a2
 ·have : dM c = 1 := if_pos ⟨k5, n0⟩
  rw [this] at a4; omega
theorem uA (p : aI) (s : aC) (hw : Pwf p) (hs : Swf s) (hrg : kG s) (h : checkF p ≠ 0 ∨ dE s ≠ 0) : FC Cx 31 [bC p, aH s] [] (Iv (eQ p s)) [] := by
 rw [Li]
 by_cases hp : checkF p = 0
 case neg =>
  rw [if_pos hp]
  have d0 : decide (checkF p = 0) = false := by simpa using hp
  clear hp h
  refine aD [xU, pE] Tryz.func31 Tryz.ntmps31 Tryz.results31 ?_
  refine goR ?_
  refine fzB 2 ?_
  refine fzB 3 ?_
  (any_goals refine go lv31 0 ?_)
  all_goals (try simp only [go_sem])
 have hh : dE s ≠ 0 := h.resolve_left (by simpa using hp)
 rw [if_neg (by simpa using hp), if_pos hh]
 have d0 : decide (checkF p = 0) = true := by simpa using hp
 have d1 : decide (dE s = 0) = false := by simpa using hh
 clear hp hh h
 refine aD [xU, pE] Tryz.func31 Tryz.ntmps31 Tryz.results31 ?_
 refine goR ?_
 refine fzB 2 ?_
 refine fzB 3 ?_
 (any_goals refine go lv31 0 ?_)
 all_goals (try simp only [go_sem])
theorem Hz (p : aI) (s : aC) (hw : Pwf p) (hs : Swf s) (hrg : kG s) : FC Cx 31 [bC p, aH s] [] (Iv (eQ p s)) [] := by
 by_cases hp : checkF p = 0
 case neg => exact uA p s hw hs hrg (.inl hp)
 by_cases hh : dE s = 0
 case neg => exact uA p s hw hs hrg (.inr hh)
 have hgo := Cg hw hp
 have hcs := fun (c : bJ) (hc : c ∈ s.cells) => Pb hh hc
 obtain ⟨s1, s2, s3, s4, s5, s6⟩ := hs.len
 have p3 := hw.sz.texts
 have h60 := hgo.fns
 have l1 : (s.cells.map aW).length = s.cells.length := List.length_map ..
 have l2 : (s.texts.map strR).length = s.texts.length := List.length_map ..
 have l3 : (s.threads.map aJ).length = s.threads.length := List.length_map ..
 have l4 : (p.texts.map strR).length = p.texts.length := List.length_map ..
 have l5 : (p.fns.map fnR).length = p.fns.length := List.length_map ..
 rw [Li, if_neg (by simpa using hp), if_neg (by simpa using hh)]
 have d0 : decide (checkF p = 0) = true := by simpa using hp
 have d1 : decide (dE s = 0) = true := by simpa using hh
 refine aD [xU, pE, aU] Tryz.func31 Tryz.ntmps31 Tryz.results31 ?_
 refine goR ?_
 refine fzB 2 ?_
 refine fzB 3 ?_
 (any_goals refine go lv31 0 ?_)
 clear d0 d1
 -- threads that are too large
 generalize hA0 : decide ((5 : Int) < (s.threads.length : Int)) = A0
 refine cL [2, 3, 7, 38, 39, 40] (fun x : Nat × Nat => x.1 ≤ s.threads.length) (fun x => let k := x.1; let u := x.2; ⟨245, [(2, .r (.rp (cQ p))), (3, bT s), (7, Bv (A0 || (s.threads.take k).any fun t => decide ((30 : Int) < (t.frames.length : Int)))), (38, cI s.threads), (39, Iv s.threads.length), (40, Iv k)], [(2, 2, .gone), (3, 2, .gone), (9, u, .gone), (19, u, .gone), (20, u, .gone), (22, u, .gone)]⟩) (fun x => s.threads.length - x.1) (0, 0) (Nat.zero_le _) ?_ rfl (by simp [cG, memN, hA0])
 rintro ⟨k, u⟩ hk
 dsimp only at hk ⊢
 by_cases hlt : k < s.threads.length
 case pos =>
  obtain ⟨t, hx, hg, h1, h2, hw'⟩ := cE aJ s.threads hlt (by omega)
  have lf : (t.frames.map bA).length = t.frames.length := List.length_map ..
  have eb := rZ (q := fun t : aP => decide ((30 : Int) < (t.frames.length : Int))) hx
  generalize (s.threads.take k).any (fun t => decide ((30 : Int) < (t.frames.length : Int))) = T at *
  (any_goals refine go lv31 0 ?_)
  refine ⟨(k + 1, u + 9), by dsimp only; omega, by dsimp only; omega, ?_⟩
  dsimp only
  rw [eb, ← Bool.or_assoc]
  exact aY [2, 3, 7, 38, 39, 40]
 obtain rfl : k = s.threads.length := by omega
 have e1 := bS s.threads
 have c2 : (A0 || s.threads.any fun t => decide ((30 : Int) < (t.frames.length : Int))) = yS s := by rw [← hA0]; rfl
 rw [List.take_length, c2]
 clear hlt hk c2 hA0
 cases hL : yS s with
 | true =>
  rw [if_pos rfl]
  (any_goals refine go lv31 0 ?_)
  all_goals (try simp only [go_sem])
 | false =>
 rw [if_neg (by simp)]
 have hfew : s.threads.length ≤ 5 ∧ ∀ t ∈ s.threads, t.frames.length ≤ 30 := by
  simp only [yS, Bool.or_eq_false_iff, decide_eq_false_iff_not, List.any_eq_false, decide_eq_true_eq] at hL
  exact ⟨by omega, fun t ht => by have := hL.2 t ht; omega⟩
 clear hL
 (any_goals refine go lv31 0 ?_)
 clear e1
 -- its texts begin with the program's
 generalize hB0 : (decide ((0 : Int) < (s.threads.length : Int)) && decide ((p.texts.length : Int) ≤ (s.texts.length : Int)) && decide (0 ≤ s.steps ∧ s.steps ≤ 1000000000) && decide (0 ≤ s.asked ∧ s.asked ≤ 1000000000)) = B0
 refine cL [2, 3, 10, 77, 78, 79] (fun k : Nat => k ≤ p.texts.length) (fun k => ⟨245, [(2, .r (.rp (cQ p))), (3, bT s), (10, Bv (B0 && decide (s.texts.take k = p.texts.take k))), (77, bZ p.texts), (78, Iv p.texts.length), (79, Iv k)], [(2, 2, .gone), (3, 2, .gone), (9, u, .gone), (19, u, .gone), (20, u, .gone), (22, u, .gone)]⟩) (fun k => p.texts.length - k) 0 (Nat.zero_le _) ?_ rfl (by simp [cG, memN, hB0])
 intro k hk
 by_cases hlt : k < p.texts.length
 case pos =>
  obtain ⟨t, hx, hg, h1, h2, hw'⟩ := cE strR p.texts hlt (by omega)
  cases hq : (B0 && decide (s.texts.take k = p.texts.take k)) with
  | false =>
   have hn : (B0 && decide (s.texts.take (k + 1) = p.texts.take (k + 1))) = false := by
    rw [Bool.eq_false_iff] at hq ⊢
    intro h
    rw [Bool.and_eq_true] at h
    have h2 := of_decide_eq_true h.2
    refine hq ?_
    rw [Bool.and_eq_true]
    refine ⟨h.1, decide_eq_true ?_⟩
    have := congrArg (List.take k) h2
    rwa [List.take_take, List.take_take, Nat.min_eq_left (by omega)] at this
   clear hq
   (any_goals refine go lv31 0 ?_)
   refine ⟨k + 1, by omega, by omega, ?_⟩
   rw [hn]
   exact aY [2, 3, 10, 77, 78, 79]
  | true =>
   rw [Bool.and_eq_true] at hq
   have hle : p.texts.length ≤ s.texts.length := by
    have h := hq.1
    rw [← hB0] at h
    simp only [Bool.and_eq_true, decide_eq_true_eq] at h
    omega
   obtain ⟨y, hy⟩ : ∃ y, s.texts[k]? = some y := ⟨s.texts[k]'(by omega), List.getElem?_eq_getElem _⟩
   have hgy := aE strR hy ([] : List RV)
   have hn : (B0 && decide (s.texts.take (k + 1) = p.texts.take (k + 1))) = decide (y = t) := by rw [Hp hy hx, hq.1, hq.2]; rfl
   clear hq
   (any_goals refine go lv31 0 ?_)
   refine ⟨k + 1, by omega, by omega, ?_⟩
   rw [hn]
   exact aY [2, 3, 10, 77, 78, 79]
 obtain rfl : k = p.texts.length := by omega
 have e1 := bS p.texts
 have hP : (B0 && decide (s.texts.take p.texts.length = p.texts.take p.texts.length)) = preD p s := by
  rw [List.take_length, ← hB0]
  unfold preD
  have a1 : decide ((0 : Int) < (s.threads.length : Int)) = decide (0 < s.threads.length) := by rw [decide_eq_decide]; omega
  have a2 : decide ((p.texts.length : Int) ≤ (s.texts.length : Int)) = decide (p.texts.length ≤ s.texts.length) := by rw [decide_eq_decide]; omega
  rw [a1, a2]
 rw [hP]
 clear hlt hk hP hB0
 unfold Gr
 cases preD p s with
 | false =>
  simp only [Bool.false_and]
  (any_goals refine go lv31 0 ?_)
  all_goals (try simp only [go_sem])
 | true =>
 rw [Bool.true_and]
 obtain ⟨hf5, hf30⟩ := hfew
 have hgl := xO hf30
 have hA : ∀ y, y = [aH s] → aQ Cx 79 y (dF (gV s.threads)) := fun y hy => by
  subst hy; exact aA (aA7 s hf5 hf30) en79 rfl rfl
 have lG : ((gV s.threads).map intR).length = (gV s.threads).length := List.length_map ..
 have hG150 : (gV s.threads).length ≤ 150 := by omega
 have hT : ∀ t ∈ s.threads, ∀ y, y = [bC p, aH s, dU t] → aQ Cx 82 y (Bv (jV p s t)) := fun t ht y hy => by
  subst hy; exact aA (Dj p s t hgo (hs.thread t ht).2 (hf30 t ht) (by omega) (by omega)) en82 rfl rfl
 have hD : ∀ x, uC p s x = (dL p s x.1 && (!(decide (x.1.kind = 5) && decide (x.1.num = 1)) || decide ((x.2 : Int) ∈ gV s.threads))) := fun x => rfl
 generalize gV s.threads = G at *
 refine Rn_T [ctE 79 [aH s] (dF G) hA] ?_
 (any_goals refine go lv31 0 ?_)
 clear e1
 -- no generator goes on twice
 refine cL [2, 3, 10, 13, 99, 100, 101] (fun k : Nat => k ≤ G.length) (fun k => ⟨245, [(2, .r (.rp (cQ p))), (3, bT s), (10, Bv (decide (G.take k).Nodup)), (13, dF G), (99, dF G), (100, Iv G.length), (101, Iv k)], [(2, 2, .gone), (3, 2, .gone), (9, u, .gone), (19, u, .gone), (20, u, .gone), (22, u, .gone)]⟩) (fun k => G.length - k) 0 (Nat.zero_le _) ?_ rfl (by simp [cG, memN])
 intro k hk
 by_cases hlt : k < G.length
 case pos =>
  obtain ⟨g, hx, hg, h1, h2, hw'⟩ := cE intR G hlt (by omega)
  have hm : List.drop 0 (List.take k (G.map intR)) = (G.take k).map intR := by rw [List.map_take]; rfl
  have lm : ((G.take k).map intR).length = k := by simp; omega
  have hn := Pv hx
  generalize decide (G.take k).Nodup = X at *
  (any_goals refine go lv31 0 ?_)
  refine cL [2, 3, 10, 13, 99, 100, 101, 15, 108, 109, 110] (fun i : Nat => i ≤ k) (fun i => ⟨245, [(2, .r (.rp (cQ p))), (3, bT s), (10, Bv (X && ((G.take k).take i).all fun u => !decide (g = u))), (13, dF G), (99, dF G), (100, Iv G.length), (101, Iv k), (15, Iv g), (108, dF (G.take k)), (109, Iv k), (110, Iv i)], [(2, 2, .gone), (3, 2, .gone), (9, u, .gone), (19, u, .gone), (20, u, .gone), (22, u, .gone)]⟩) (fun i => k - i) 0 (Nat.zero_le _) ?_ rfl (by simp [cG, memN])
  intro i hi
  by_cases hik : i < k
  case pos =>
   have c2 : decide ((i : Int) < (k : Int)) = true := by rw [decide_eq_true_eq]; omega
   have t2 : Int.toNat (i : Int) = i := by omega
   have w2 : IntKind.i64.wrap ((i : Int) + 1) = ((i + 1 : Nat) : Int) := by rw [aN] <;> omega
   obtain ⟨y, hy⟩ : ∃ y, (G.take k)[i]? = some y := ⟨(G.take k)[i]'(by simp; omega), List.getElem?_eq_getElem _⟩
   have hgy := aE intR hy ([] : List RV)
   clear hn
   (any_goals refine go lv31 0 ?_)
   refine ⟨i + 1, by omega, by omega, ?_⟩
   rw [hZ hy, ← Bool.and_assoc]
   exact aY [2, 3, 10, 13, 99, 100, 101, 15, 108, 109, 110]
  obtain rfl : i = k := by omega
  have c2 : decide ((i : Int) < (i : Int)) = false := by rw [decide_eq_false_iff_not]; omega
  rw [List.take_of_length_le (l := G.take i) (by simp; omega), ← hn]
  clear hn
  (any_goals refine go lv31 0 ?_)
  refine ⟨i + 1, by omega, by omega, ?_⟩
  exact aY [2, 3, 10, 13, 99, 100, 101]
 obtain rfl : k = G.length := by omega
 have e1 := bS G
 rw [List.take_length]
 clear hlt hk
 generalize hB1 : decide G.Nodup = B1
 (any_goals refine go lv31 0 ?_)
 clear e1
 -- cells
 have lz : s.cells.zipIdx.length = s.cells.length := List.length_zipIdx
 refine cL [2, 3, 10, 13, 123, 124, 125] (fun x : Nat × Nat => x.1 ≤ s.cells.length) (fun x => let k := x.1; let u := x.2; ⟨245, [(2, .r (.rp (cQ p))), (3, bT s), (10, Bv (B1 && (s.cells.zipIdx.take k).all (uC p s))), (13, dF G), (123, dO s.cells), (124, Iv s.cells.length), (125, Iv k)], [(2, 2, .gone), (3, 2, .gone), (9, u, .gone), (19, u, .gone), (20, u, .gone), (22, u, .gone)]⟩) (fun x => s.cells.length - x.1) (0, u) (Nat.zero_le _) ?_ rfl (by simp [cG, memN])
 clear u
 rintro ⟨k, u⟩ hk
 dsimp only at hk ⊢
 by_cases hlt : k < s.cells.length
 case pos =>
  obtain ⟨c, hx, hg, h1, h2, hw'⟩ := cE aW s.cells hlt (by omega)
  have hz : s.cells.zipIdx[k]? = some (c, k) := by rw [List.getElem?_zipIdx, hx]; simp
  have eb := hZ (q := uC p s) hz
  rw [hD (c, k)] at eb
  have hcw := hs.cell c (List.mem_of_getElem? hx)
  obtain ⟨hc4, hc5⟩ := hcs c (List.mem_of_getElem? hx)
  generalize hT' : (s.cells.zipIdx.take (k + 1)).all (uC p s) = T' at *
  generalize (s.cells.zipIdx.take k).all (uC p s) = T at *
  clear hx hz hD hT
  have lv : (c.vals.map valR).length = c.vals.length := List.length_map ..
  have lf : (c.frames.map bA).length = c.frames.length := List.length_map ..
  have ww : IntKind.i64.wrap ((p.fns.length : Int) - 1) = (p.fns.length : Int) - 1 := by rw [aN] <;> omega
  obtain ⟨kind, num, vals, frames⟩ := c
  dsimp only at *
  (any_goals refine go (eM 36 lv31) 0 ?_)
  refine goR1 lv31 0 ?_
  refine mL (st' := ⟨245, [(2, .r (.rp (cQ p))), (3, bT s), (10, Bv (B1 && T')), (13, dF G), (123, dO s.cells), (124, Iv s.cells.length), (125, Iv k)], [(2, 2, .gone), (3, 2, .gone), (9, u + 9, .gone), (19, u + 9, .gone), (20, u + 9, .gone), (22, u + 9, .gone)]⟩) True rfl ?_ fun _ => ?_
  ·clear hT' hk hlt h1 h2 hw' lz hp hh hcs hf30 hgl hf5 s2 s3 s4 s5 s6 hs hrg hw
   have no : (B1 && T) = false → (B1 && T') = false := fun h => by rw [eb, ← Bool.and_assoc, h]; rfl
   by_cases k4 : kind = 4
   ·subst k4
    have n0 := hc4 rfl
    have eH : dL p s ⟨4, num, vals, frames⟩ = (decide (num < (p.fns.length : Int)) && decide ((vals.length : Int) = ((p.fns.getD num.toNat fn0).caught.length : Int))) := by unfold dL; rw [if_pos rfl]
    rw [eH, show decide ((4 : Int) = 5) = false from rfl, Bool.false_and, Bool.not_false, Bool.true_or, Bool.and_true] at eb
    cases hb : (B1 && T) with
    | false =>
     rw [no hb]
     clear no eb eH hc4 hc5 hcw n0
     (any_goals refine go lv31 0 ?_)
     all_goals (try simp only [go_sem])
     exact Lx.le (aY [2, 3, 10, 13, 123, 124, 125])
    | true =>
     have e : (B1 && T') = (decide (num < (p.fns.length : Int)) && decide ((vals.length : Int) = ((p.fns.getD num.toNat fn0).caught.length : Int))) := by rw [eb, ← Bool.and_assoc, hb, Bool.true_and]
     rw [e]
     clear no eb eH hc4 hc5 hcw e
     by_cases hn : num < (p.fns.length : Int)
     ·have dn : decide (num < (p.fns.length : Int)) = true := by simpa using hn
      have hmin : (if (p.fns.length : Int) - 1 < num then (p.fns.length : Int) - 1 else num) = num := if_neg (by omega)
      obtain ⟨F, hF⟩ : ∃ F, p.fns[num.toNat]? = some F := ⟨p.fns[num.toNat]'(by omega), List.getElem?_eq_getElem _⟩
      have gF := aE fnR hF ([] : List RV)
      have eF : p.fns.getD num.toNat fn0 = F := by simp [List.getD, hF]
      have lc : (F.caught.map intR).length = F.caught.length := List.length_map ..
      rw [eF, dn, Bool.true_and]
      clear eF hF
      (any_goals refine go lv31 0 ?_)
      all_goals (try simp only [go_sem])
      exact Lx.le (aY [2, 3, 10, 13, 123, 124, 125])
     ·have dn : decide (num < (p.fns.length : Int)) = false := by simpa using hn
      rw [dn, Bool.false_and]
      clear hn
      (any_goals refine go lv31 0 ?_)
      all_goals (try simp only [go_sem])
      exact Lx.le (aY [2, 3, 10, 13, 123, 124, 125])
   have d4 : decide (kind = 4) = false := by simpa using k4
   by_cases k5 : kind = 5
   case neg =>
    have d5 : decide (kind = 5) = false := by simpa using k5
    have eH : dL p s ⟨kind, num, vals, frames⟩ = true := by unfold dL; rw [if_neg k4, if_neg k5]
    rw [eH, d5, Bool.false_and, Bool.not_false, Bool.true_or, Bool.and_true, Bool.and_true] at eb
    rw [eb]
    clear no eb eH hc4 hc5 hcw k4 k5
    (any_goals refine go lv31 0 ?_)
    all_goals (try simp only [go_sem])
    exact Lx.le (aY [2, 3, 10, 13, 123, 124, 125])
   subst k5
   rw [show decide ((5 : Int) = 5) = true from rfl, Bool.true_and] at eb
   clear hc4 k4 d4
   by_cases n0 : num = 0
   ·subst n0
    obtain ⟨f, rfl⟩ := List.length_eq_one_iff.1 (hc5 rfl rfl)
    have hfw := hcw.frame f (List.mem_singleton.2 rfl)
    have eH : dL p s ⟨5, 0, vals, [f]⟩ = eU p s f := by unfold dL; rw [if_neg (show ¬ (5 : Int) = 4 from by decide), if_pos rfl]; rfl
    rw [eH, show decide ((0 : Int) = 1) = false from rfl, Bool.not_false, Bool.true_or, Bool.and_true] at eb
    clear hc5 hcw eH
    refine Rn_T [fP] ?_
    cases hb : (B1 && T) with
    | false =>
     rw [no hb]
     clear no eb hfw
     obtain ⟨fn, pc, tov, gen, ⟨sk, sn⟩, regs, tries⟩ := f
     (any_goals refine go lv31 0 ?_)
     all_goals (try simp only [go_sem])
     exact Lx.le (aY [2, 3, 10, 13, 123, 124, 125])
    | true =>
    have e : (B1 && T') = eU p s f := by rw [eb, ← Bool.and_assoc, hb, Bool.true_and]
    rw [e]
    clear no eb e
    obtain ⟨fn, pc, tov, gen, ⟨sk, sn⟩, regs, tries⟩ := f
    cases hfr : cU p s ⟨fn, pc, tov, gen, (sk, sn), regs, tries⟩ with
    | false =>
     have e : eU p s ⟨fn, pc, tov, gen, (sk, sn), regs, tries⟩ = false := by unfold eU; rw [hfr]; rfl
     rw [e]
     clear e
     (any_goals refine go lv31 0 ?_)
     all_goals (try simp only [go_sem])
     exact Lx.le (aY [2, 3, 10, 13, 123, 124, 125])
    | true =>
    obtain ⟨⟨g1, g2⟩, g3, g4⟩ := jC hfr
    dsimp only at g1 g2 g3 g4
    obtain ⟨F, hF⟩ : ∃ F, p.fns[fn.toNat]? = some F := ⟨p.fns[fn.toNat]'(by omega), List.getElem?_eq_getElem _⟩
    have gF := aE fnR hF ([] : List RV)
    have gF2 : p.fns.getD fn.toNat fn0 = F := by simp [List.getD, hF]
    have lc : (F.code.map insR).length = F.code.length := List.length_map ..
    rw [gF2] at g4
    have e : eU p s ⟨fn, pc, tov, gen, (sk, sn), regs, tries⟩ = (decide (tov = -1) && decide (gen = -1) && F.gen && (decide (pc = 0) || decide ((F.code.getD (pc - 1).toNat ins0).op = 32))) := by
     unfold eU; rw [hfr, Bool.true_and]; dsimp only; rw [gF2]
    rw [e]
    clear gF2 e
    by_cases hp0 : pc = 0
    ·have d0 : decide (pc = 0) = true := by simpa using hp0
     clear hp0
     rw [d0]
     cases t1 : decide (tov = -1) <;> cases t2 : decide (gen = -1) <;> cases t3 : F.gen
     all_goals
      (any_goals refine go lv31 0 ?_)
      all_goals (try simp only [go_sem])
      exact Lx.le (aY [2, 3, 10, 13, 123, 124, 125])
    ·have d0 : decide (pc = 0) = false := by simpa using hp0
     have w1 : IntKind.i64.wrap (pc - 1) = pc - 1 := by have := hgo.fns; have := (hgo.cok F (List.mem_of_getElem? hF)).len; rw [aN] <;> omega
     obtain ⟨I, hI⟩ : ∃ I, F.code[(pc - 1).toNat]? = some I := ⟨F.code[(pc - 1).toNat]'(by omega), List.getElem?_eq_getElem _⟩
     have gI := aE insR hI ([] : List RV)
     have gI2 : F.code.getD (pc - 1).toNat ins0 = I := by rw [List.getD_eq_getElem?_getD, hI]; rfl
     have hp1 : 1 ≤ pc := by omega
     rw [d0, gI2]
     clear gI2 hp0
     cases t1 : decide (tov = -1) <;> cases t2 : decide (gen = -1) <;> cases t3 : F.gen
     all_goals
      (any_goals refine go lv31 0 ?_)
      all_goals (try simp only [go_sem])
      exact Lx.le (aY [2, 3, 10, 13, 123, 124, 125])
   have dn0 : decide (num = 0) = false := by simpa using n0
   have eH : dL p s ⟨5, num, vals, frames⟩ = true := by unfold dL; rw [if_neg (show ¬ (5 : Int) = 4 from by decide), if_pos rfl]; dsimp only; rw [dn0]; rfl
   rw [eH, Bool.true_and] at eb
   clear hc5 hcw eH
   by_cases n1 : num = 1
   ·subst n1
    rw [show decide ((1 : Int) = 1) = true from rfl, Bool.not_true, Bool.false_or] at eb
    refine Rn_T [Sh.ct_hasI] ?_
    cases hb : (B1 && T) with
    | false =>
     rw [no hb]
     clear no eb
     (any_goals refine go lv31 0 ?_)
     all_goals (try simp only [go_sem])
     exact Lx.le (aY [2, 3, 10, 13, 123, 124, 125])
    | true =>
     have e : (B1 && T') = decide ((k : Int) ∈ G) := by rw [eb, ← Bool.and_assoc, hb, Bool.true_and]
     rw [e]
     clear no eb e
     (any_goals refine go lv31 0 ?_)
     all_goals (try simp only [go_sem])
     exact Lx.le (aY [2, 3, 10, 13, 123, 124, 125])
   ·have dn1 : decide (num = 1) = false := by simpa using n1
    rw [dn1, Bool.not_false, Bool.true_or, Bool.and_true] at eb
    rw [eb]
    clear no eb n0 n1
    (any_goals refine go lv31 0 ?_)
    all_goals (try simp only [go_sem])
    exact Lx.le (aY [2, 3, 10, 13, 123, 124, 125])
  clear eb hc4 hc5 hcw
  (any_goals refine go lv31 0 ?_)
  refine ⟨(k + 1, u + 9), by dsimp only; omega, by dsimp only; omega, ?_⟩
  dsimp only
  rw [hT']
  exact aY [2, 3, 10, 13, 123, 124, 125]
 obtain rfl : k = s.cells.length := by omega
 have e1 := bS s.cells
 rw [List.take_of_length_le (by omega)]
 clear hlt hk lz
 generalize hB2 : (B1 && s.cells.zipIdx.all (uC p s)) = B2
 (any_goals refine go lv31 0 ?_)
 clear e1
 -- threads
 refine cL [2, 3, 10, 229, 230, 231] (fun x : Nat × Nat => x.1 ≤ s.threads.length) (fun x => let k := x.1; let u := x.2; ⟨245, [(2, .r (.rp (cQ p))), (3, bT s), (10, Bv (B2 && (s.threads.take k).all (jV p s))), (229, cI s.threads), (230, Iv s.threads.length), (231, Iv k)], [(2, 2, .gone), (3, 2, .gone), (9, u, .gone), (19, u, .gone), (20, u, .gone), (22, u, .gone)]⟩) (fun x => s.threads.length - x.1) (0, u) (Nat.zero_le _) ?_ rfl (by simp [cG, memN])
 clear u
 rintro ⟨k, u⟩ hk
 dsimp only at hk ⊢
 by_cases hlt : k < s.threads.length
 case pos =>
  obtain ⟨t, hx, hg, h1, h2, hw'⟩ := cE aJ s.threads hlt (by omega)
  have eb := hZ (q := jV p s) hx
  have hTt := hT t (List.mem_of_getElem? hx)
  generalize (s.threads.take k).all (jV p s) = T at *
  generalize jV p s t = D at *
  obtain ⟨fs, st, on, ⟨vk, vn⟩⟩ := t
  refine Rn_T [ctE 82 [bC p, aH s, dU ⟨fs, st, on, (vk, vn)⟩] (Bv D) hTt] ?_
  clear hT hcs hf30 hD
  (any_goals refine go lv31 0 ?_)
  refine ⟨(k + 1, u + 9), by dsimp only; omega, by dsimp only; omega, ?_⟩
  dsimp only
  rw [eb, ← Bool.and_assoc]
  exact aY [2, 3, 10, 229, 230, 231]
 obtain rfl : k = s.threads.length := by omega
 have e1 := bS s.threads
 rw [List.take_length]
 clear hlt hk hB2 hB1
 cases hB3 : (B2 && s.threads.all (jV p s))
 all_goals
  (any_goals refine go lv31 0 ?_)
  all_goals (try simp only [go_sem])
theorem Lo (n : Nat) {C : Ctx} {f : Nat} {a r : AV} {xs ys : List RV} (h : aQ C f [a, .agg (ys.map .r)] r) (hn : rowB (nilB n) xs ys) : aQ C f [a, .agg (xs.map .r)] r := by
 intro cur g w av vs hG hgs hav hp
 refine h cur g w av vs hG hgs hav ⟨hp.1, fun j y v hy hv => ?_⟩
 match j with
 | 0 => exact hp.2 0 y v hy hv
 | 1 =>
  simp at hy; subst hy
  exact AR.nilD (wF hn) (fun j x y hx hy => Hf n x y (Ae hn hx hy)) (hp.2 1 _ v rfl hv)
 | j + 2 => simp at hy
theorem Do (xs ys zs : List (List RV)) (ca sh tx th en sd : List (List RV)) (aq sq : Int) (h : ((xs = (fnsOf xs).map fnR ∧ ys = (valsOf ys).map valR ∧ zs = (strsOf zs).map strR) ∧ ca = (cellsOf ca).map aW ∧ sh = (valsOf sh).map valR ∧ tx = (strsOf tx).map strR ∧ th = (threadsOf th).map aJ ∧ en = (aG en).map endR ∧ sd = (valsOf sd).map valR) ∧ Pwf ⟨fnsOf xs, valsOf ys, strsOf zs⟩ ∧ Swf ⟨cellsOf ca, valsOf sh, strsOf tx, threadsOf th, aG en, valsOf sd, aq, sq⟩ ∧ kG ⟨cellsOf ca, valsOf sh, strsOf tx, threadsOf th, aG en, valsOf sd, aq, sq⟩) : FC Cx 31 [.agg [.r (.rs 5 xs), .r (.rs 2 ys), .r (.rs 1 zs)], .agg [.r (.rs 4 ca), .r (.rs 2 sh), .r (.rs 1 tx), .r (.rs 5 th), .r (.rs 3 en), .r (.rs 2 sd), Iv aq, Iv sq]] [] (Iv (eQ ⟨fnsOf xs, valsOf ys, strsOf zs⟩ ⟨cellsOf ca, valsOf sh, strsOf tx, threadsOf th, aG en, valsOf sd, aq, sq⟩)) [] := by
 have := Hz ⟨fnsOf xs, valsOf ys, strsOf zs⟩ ⟨cellsOf ca, valsOf sh, strsOf tx, threadsOf th, aG en, valsOf sd, aq, sq⟩ h.2.1 h.2.2.1 h.2.2.2
 rwa [kA h.1.1, iJ _ _ _ _ _ _ _ _ h.1.2] at this
def kJ (args : List AV) (K : AV → Prop) : Prop := match args with
 | [.agg [.r (.rs 5 xs), .r (.rs 2 ys), .r (.rs 1 zs)], .agg [.r (.rs 4 ca), .r (.rs 2 sh), .r (.rs 1 tx), .r (.rs 5 th), .r (.rs 3 en), .r (.rs 2 sd), .r (.v (.int .i64 aq)), .r (.v (.int .i64 sq))]] => (((xs = (fnsOf xs).map fnR ∧ ys = (valsOf ys).map valR ∧ zs = (strsOf zs).map strR) ∧ ca = (cellsOf ca).map aW ∧ sh = (valsOf sh).map valR ∧ tx = (strsOf tx).map strR ∧ th = (threadsOf th).map aJ ∧ en = (aG en).map endR ∧ sd = (valsOf sd).map valR) ∧ Pwf ⟨fnsOf xs, valsOf ys, strsOf zs⟩ ∧ Swf ⟨cellsOf ca, valsOf sh, strsOf tx, threadsOf th, aG en, valsOf sd, aq, sq⟩ ∧ kG ⟨cellsOf ca, valsOf sh, strsOf tx, threadsOf th, aG en, valsOf sd, aq, sq⟩) ∧ K (Iv (eQ ⟨fnsOf xs, valsOf ys, strsOf zs⟩ ⟨cellsOf ca, valsOf sh, strsOf tx, threadsOf th, aG en, valsOf sd, aq, sq⟩))
 | _ => False
noncomputable abbrev jX : Ct Cx := .pure 31 kJ fun args K h => by
 unfold kJ at h; split at h; exact ⟨_, aA (Do _ _ _ _ _ _ _ _ _ _ _ h.1) en31 rfl rfl, h.2⟩; exact h.elim
@[go_sem] theorem Sj : type_of% @kJ.eq_def := @kJ.eq_def
def Ao (a b : aC) : Bool := decide (a = b)
theorem lA (a : aC) : Ao a a = true := decide_eq_true rfl
def tA (args : List AV) (K : AV → Prop) : Prop := match args with
 | [.agg [.r (.rs 4 ca), .r (.rs 2 sh), .r (.rs 1 tx), .r (.rs 5 th), .r (.rs 3 en), .r (.rs 2 sd), .r (.v (.int .i64 aq)), .r (.v (.int .i64 sq))], .agg [.r (.rs 4 ca'), .r (.rs 2 sh'), .r (.rs 1 tx'), .r (.rs 5 th'), .r (.rs 3 en'), .r (.rs 2 sd'), .r (.v (.int .i64 aq')), .r (.v (.int .i64 sq'))]] => (((ca = (cellsOf ca).map aW ∧ sh = (valsOf sh).map valR ∧ tx = (strsOf tx).map strR ∧ th = (threadsOf th).map aJ ∧ en = (aG en).map endR ∧ sd = (valsOf sd).map valR) ∧ (ca' = (cellsOf ca').map aW ∧ sh' = (valsOf sh').map valR ∧ tx' = (strsOf tx').map strR ∧ th' = (threadsOf th').map aJ ∧ en' = (aG en').map endR ∧ sd' = (valsOf sd').map valR)) ∧ Swf ⟨cellsOf ca, valsOf sh, strsOf tx, threadsOf th, aG en, valsOf sd, aq, sq⟩ ∧ Swf ⟨cellsOf ca', valsOf sh', strsOf tx', threadsOf th', aG en', valsOf sd', aq', sq'⟩) ∧ K (Bv (Ao ⟨cellsOf ca, valsOf sh, strsOf tx, threadsOf th, aG en, valsOf sd, aq, sq⟩ ⟨cellsOf ca', valsOf sh', strsOf tx', threadsOf th', aG en', valsOf sd', aq', sq'⟩))
 | [.agg [.r (.rs 4 ca), .r (.rs 2 sh), .r (.rs 1 tx), .r (.rs 5 th), .r (.rs 3 en), .r (.rs 2 sd), .r (.v (.int .i64 aq)), .r (.v (.int .i64 sq))], .agg [.r (.v (.slice none 0 0)), .r (.v (.slice none 0 0)), .r (.v (.slice none 0 0)), .r (.v (.slice none 0 0)), .r (.v (.slice none 0 0)), .r (.v (.slice none 0 0)), .r (.v (.int .i64 aq')), .r (.v (.int .i64 sq'))]] => ((ca = (cellsOf ca).map aW ∧ sh = (valsOf sh).map valR ∧ tx = (strsOf tx).map strR ∧ th = (threadsOf th).map aJ ∧ en = (aG en).map endR ∧ sd = (valsOf sd).map valR) ∧ Swf ⟨cellsOf ca, valsOf sh, strsOf tx, threadsOf th, aG en, valsOf sd, aq, sq⟩) ∧ K (Bv (Ao ⟨cellsOf ca, valsOf sh, strsOf tx, threadsOf th, aG en, valsOf sd, aq, sq⟩ ⟨[], [], [], [], [], [], aq', sq'⟩))
 | _ => False
theorem sK (aq sq : Int) : Swf ⟨[], [], [], [], [], [], aq, sq⟩ := by
 refine ⟨⟨by simp, by simp, by simp, by simp, by simp, by simp⟩, ?_, fun c hc => by simp at hc, fun t ht => by simp at ht⟩
 intro q hq
 simp at hq
theorem Id (args : List AV) (K : AV → Prop) (h : tA args K) : ∃ r, aQ Cx 30 args r ∧ K r := by
 unfold tA at h
 split at h
 ·rename_i ca sh tx th en sd aq sq ca' sh' tx' th' en' sd' aq' sq'
  have := vQ ⟨cellsOf ca, valsOf sh, strsOf tx, threadsOf th, aG en, valsOf sd, aq, sq⟩ ⟨cellsOf ca', valsOf sh', strsOf tx', threadsOf th', aG en', valsOf sd', aq', sq'⟩ h.1.2.1 h.1.2.2
  rw [iJ _ _ _ _ _ _ _ _ h.1.1.1, iJ _ _ _ _ _ _ _ _ h.1.1.2] at this
  exact ⟨_, aA this en30 rfl rfl, h.2⟩
 ·rename_i ca sh tx th en sd aq sq aq' sq'
  have := vQ ⟨cellsOf ca, valsOf sh, strsOf tx, threadsOf th, aG en, valsOf sd, aq, sq⟩ ⟨[], [], [], [], [], [], aq', sq'⟩ h.1.2 (sK aq' sq')
  rw [iJ _ _ _ _ _ _ _ _ h.1.1] at this
  exact ⟨_, Lo 1 (xs := [.v (.slice none 0 0), .v (.slice none 0 0), .v (.slice none 0 0), .v (.slice none 0 0), .v (.slice none 0 0), .v (.slice none 0 0), .v (.int .i64 aq'), .v (.int .i64 sq')]) (ys := cN ⟨[], [], [], [], [], [], aq', sq'⟩) (aA this en30 rfl rfl) (by simp [rowB, nilB, nilX]), h.2⟩
 ·exact h.elim
noncomputable abbrev jS : Ct Cx := .pure 30 tA Id
attribute [go_sem] tA
section
variable {C : Ctx} {T : List (Ct C)} {r : List It} {st st' : St} {K : Exit → St → Prop}
end
theorem pQ (l : List gX) (hl : l.length ≤ 1000000000) : FC Cx 38 [bI l, bI l] [] (Bv true) [] := by
 have l1 : (l.map uY).length = l.length := List.length_map ..
 refine aD [] Tryz.func38 Tryz.ntmps38 Tryz.results38 ?_
 (any_goals refine go lv38 0 ?_)
 refine bY (fun i : Nat => i ≤ l.length) (fun i => ⟨26, [(0, bI l), (1, bI l), (12, Iv l.length), (13, Iv i)], []⟩) (fun i => l.length - i) 0 (Nat.zero_le _) ?_
 rintro i hi
 by_cases hlt : i < l.length
 case pos =>
  obtain ⟨e, hx, hg, h1, h2, hw⟩ := cE uY l hlt (by omega)
  obtain ⟨e1, e2, e3, e4, e5, e6, e7, e8, ⟨e9, f1⟩, ⟨f2, f3⟩⟩ := e
  (any_goals refine go lv38 0 ?_)
  exact ⟨i + 1, by omega, by omega, bF⟩
 obtain rfl : i = l.length := by omega
 have e1 := bS l
 (any_goals refine go lv38 0 ?_)
 all_goals (try simp only [go_sem])
theorem Gm (p : aI) (s : aC) (th : Int) (hw : Pwf p) (hs : Swf s) (hrg : kG s) : FC Cx 41 [bC p, aH s, Iv th] [] (Iv (askE p s th)) [] := by
 have l1 : (s.threads.map aJ).length = s.threads.length := List.length_map ..
 have hlt := hs.len.threads
 have w1 : IntKind.i64.wrap ((s.threads.length : Int) - 1) = (s.threads.length : Int) - 1 := by rw [aN] <;> omega
 unfold askE
 by_cases hf : eQ p s = 0
 case neg =>
  rw [if_pos hf]
  have d0 : decide (eQ p s = 0) = false := by simpa using hf
  clear hf
  refine aD [jX, aU] Tryz.func41 Tryz.ntmps41 Tryz.results41 ?_
  refine goR ?_
  refine fzB 3 ?_
  refine fzB 4 ?_
  (any_goals refine go lv41 0 ?_)
  repeat' (first | (refine Br.go (fun h h' => ?_) (fun h h' => ?_)) | (refine Br.mk (fun h => ?_) (fun h => ?_)))
  all_goals (try simp only [go_sem])
 rw [if_neg (by simpa using hf)]
 have d0 : decide (eQ p s = 0) = true := by simpa using hf
 by_cases h0 : th < 0 ∨ (s.threads.length : Int) ≤ th
 ·rw [if_pos h0]
  have d1 : decide (0 ≤ th ∧ th ≤ (s.threads.length : Int) - 1) = false := by rw [decide_eq_false_iff_not]; omega
  clear hf h0
  refine aD [jX, aU] Tryz.func41 Tryz.ntmps41 Tryz.results41 ?_
  refine goR ?_
  refine fzB 3 ?_
  refine fzB 4 ?_
  (any_goals refine go lv41 0 ?_)
  repeat' (first | (refine Br.go (fun h h' => ?_) (fun h h' => ?_)) | (refine Br.mk (fun h => ?_) (fun h => ?_)))
  all_goals (try simp only [go_sem])
 rw [if_neg h0]
 have d1 : decide (0 ≤ th ∧ th ≤ (s.threads.length : Int) - 1) = true := by rw [decide_eq_true_eq]; omega
 have h00 : 0 ≤ th := by omega
 have h01 : th < (s.threads.length : Int) := by omega
 have d1b : decide (th ≤ (s.threads.length : Int) - 1) = true := by rw [decide_eq_true_eq]; omega
 obtain ⟨t, ht⟩ : ∃ t, s.threads[th.toNat]? = some t := ⟨s.threads[th.toNat]'(by omega), List.getElem?_eq_getElem _⟩
 have hg := aE aJ ht ([] : List RV)
 have et : s.threads.getD th.toNat wQ = t := by rw [List.getD_eq_getElem?_getD, ht]; rfl
 rw [et]
 by_cases h3 : t.state = 0
 ·rw [if_neg (by simpa using h3)]
  have d4 : decide (t.state = 0) = true := by simpa using h3
  clear hf et h3 h0
  refine aD [jX, aU] Tryz.func41 Tryz.ntmps41 Tryz.results41 ?_
  refine goR ?_
  refine fzB 3 ?_
  refine fzB 4 ?_
  (any_goals refine go lv41 0 ?_)
  repeat' (first | (refine Br.go (fun h h' => ?_) (fun h h' => ?_)) | (refine Br.mk (fun h => ?_) (fun h => ?_)))
  all_goals (try simp only [go_sem])
  rw [of_decide_eq_true d0]
 ·rw [if_pos h3]
  have d4 : decide (t.state = 0) = false := by simpa using h3
  clear hf et h3 h0
  refine aD [jX, aU] Tryz.func41 Tryz.ntmps41 Tryz.results41 ?_
  refine goR ?_
  refine fzB 3 ?_
  refine fzB 4 ?_
  (any_goals refine go lv41 0 ?_)
  repeat' (first | (refine Br.go (fun h h' => ?_) (fun h h' => ?_)) | (refine Br.mk (fun h => ?_) (fun h => ?_)))
  all_goals (try simp only [go_sem])
theorem aNr (s : aC) (th : Nat) (t : aP) (rg : Int) (v : Int × Int) (hm : Sml s) (ht : s.threads[th]? = some t)
  (hto : 0 ≤ rg → ∃ f, t.frames[t.frames.length - 1]? = some f ∧ rg < (f.regs.length : Int) ∧ f.regs.length ≤ 1000000000) :
  FC Cx 93 [aH s, Iv th, Iv rg, VV v.1 v.2] [] (aH (doneS s th t rg v)) [] := by
 have hk := (List.getElem?_eq_some_iff.1 ht).1
 obtain ⟨vk, vn⟩ := v
 dsimp only at *
 by_cases h0 : 0 ≤ rg
 case neg =>
  have d0 : decide (rg < 0) = true := by rw [decide_eq_true_eq]; omega
  have e : doneS s th t rg (vk, vn) = s := by
   have e1 : s.threads.set th { t with frames := intoF t.frames rg (vk, vn) } = s.threads := by
    unfold intoF
    rw [if_neg h0]
    apply List.ext_getElem?; intro j
    by_cases hj : th = j
    ·subst hj; rw [List.getElem?_set_self hk, ht]
    ·rw [List.getElem?_set_ne hj]
   unfold doneS
   rw [e1]
  rw [e]
  clear hto h0 e hm
  refine fE [] Tryz.func93 rfl Tryz.ntmps93 (by simp) Tryz.results93 rfl ?_
  refine rnst ?_
  refine goR ?_
  refine fzB 7 ?_
  (any_goals refine go lv93 0 ?_)
  repeat' (first | (refine Br.go (fun h h' => ?_) (fun h h' => ?_)) | (refine Br.mk (fun h => ?_) (fun h => ?_)))
  all_goals (try simp only [go_sem])
 have d0 : decide (rg < 0) = false := by rw [decide_eq_false_iff_not]; omega
 obtain ⟨f, hf, hr1, hr2⟩ := hto h0
 have hfk := (List.getElem?_eq_some_iff.1 hf).1
 have hl2 := (hm.thread t (List.mem_of_getElem? ht)).len
 have hl := hm.threads
 obtain ⟨k, hkn⟩ : ∃ k, t.frames.length = k + 1 := ⟨t.frames.length - 1, by omega⟩
 rw [hkn, Nat.add_sub_cancel] at hf
 have e : s.threads.set th { t with frames := intoF t.frames rg (vk, vn) } = s.threads.set th { t with frames := t.frames.set k { f with regs := f.regs.set rg.toNat (vk, vn) } } := by
  unfold intoF
  rw [if_pos h0, hkn, Nat.add_sub_cancel, hf]
 have eS : aH (doneS s th t rg (vk, vn)) = .agg [dO s.cells, aT s.shapes, bZ s.texts, cI (s.threads.set th { t with frames := t.frames.set k { f with regs := f.regs.set rg.toNat (vk, vn) } }), eY s.ends, aT s.said, Iv s.asked, Iv s.steps] := by rw [← e]; rfl
 rw [eS]
 have q2 : (s.threads.map aV)[th]? = some (aV t) := by rw [List.getElem?_map, ht]; rfl
 have q1 : (s.threads.map aV).length = s.threads.length := List.length_map ..
 have t1 : Int.toNat (th : Int) = th := by omega
 have q8 : (s.threads.set th { t with frames := t.frames.set k { f with regs := f.regs.set rg.toNat (vk, vn) } }).map aV = (s.threads.map aV).set th (aV { t with frames := t.frames.set k { f with regs := f.regs.set rg.toNat (vk, vn) } }) := List.map_set ..
 have lf0 : (t.frames.map frameA2).length = t.frames.length := List.length_map ..
 have e0 : ((k + 1 : Nat) : Int) - 1 = (k : Int) := by omega
 have w1 : IntKind.i64.wrap (k : Int) = (k : Int) := by rw [aN] <;> omega
 have t2 : Int.toNat (k : Int) = k := by omega
 have p2 : (t.frames.map frameA2)[k]? = some (frameA2 f) := by rw [List.getElem?_map, hf]; rfl
 have lr : (f.regs.map valC).length = f.regs.length := List.length_map ..
 obtain ⟨z, hz⟩ : ∃ z, f.regs[rg.toNat]? = some z := ⟨f.regs[rg.toNat]'(by omega), List.getElem?_eq_getElem _⟩
 have gz := aE valC hz ([] : List AV)
 have q0 := Mf s hm 300 301 rfl
 have en : aF Cx.P 87 := en87
 generalize hts : s.threads.set th { t with frames := t.frames.set k { f with regs := f.regs.set rg.toNat (vk, vn) } } = ts at *
 clear eS e hto hz hm
 refine fE [ctN 87 [(1004, 300), (1007, 301)] [aH s] (.agg [.os 1004 (1 + s.cells.length), aT s.shapes, bZ s.texts, .os 1007 (1 + s.threads.length), eY s.ends, aT s.said, Iv s.asked, Iv s.steps]) [ownC 1004 (1 + s.cells.length) s.cells, ownT 1007 (1 + s.threads.length) s.threads] en q0] Tryz.func93 rfl Tryz.ntmps93 (by simp) Tryz.results93 rfl ?_
 refine rnst ?_
 refine goR ?_
 refine fzB 7 ?_
 (any_goals refine go (eM 4 lv93) 0 ?_)
 repeat' (first | (refine Br.go (fun h h' => ?_) (fun h h' => ?_)) | (refine Br.mk (fun h => ?_) (fun h => ?_)))
 have p9 : (t.frames.map frameA2).set k (frameA2 { f with regs := f.regs.set rg.toNat (vk, vn) }) = ((t.frames.set k { f with regs := f.regs.set rg.toNat (vk, vn) }).map dW).map (List.map nvC) := by
  rw [dJ, List.map_set]
 have q7 : ∀ X Y, ((s.threads.map aV).set th X).set th Y = (s.threads.map aV).set th Y := fun X Y => List.set_set ..
 have q4 : ∀ X, ((s.threads.map aV).set th X).length = s.threads.length := fun X => by rw [List.length_set, q1]
 have q6 : ∀ X, ((s.threads.map aV).set th X).getD th [] = X := fun X => by rw [List.getD_eq_getElem?_getD, List.getElem?_set_self (by omega)]; rfl
 (apply gZ 301 th 0 201; (exact rfl); (exact q2); (exact rfl); (exact rfl); (exact rfl); (intro K0; (try simp only [go_sem, dJ]); exact ⟨id⟩))
 generalize hT0 : s.threads.map aV = T0 at *
 have p7 : ∀ X Y, ((t.frames.map frameA2).set k X).set k Y = (t.frames.map frameA2).set k Y := fun X Y => List.set_set ..
 have p8 : ∀ X, ((t.frames.map frameA2).set k X).length = t.frames.length := fun X => by rw [List.length_set, lf0]
 have p6 : ∀ X, ((t.frames.map frameA2).set k X).getD k [] = X := fun X => by rw [List.getD_eq_getElem?_getD, List.getElem?_set_self (by omega)]; rfl
 (apply gZ 201 k 6 202; (exact rfl); (exact p2); (exact rfl); (exact rfl); (exact rfl); (intro K0; (try simp only [go_sem, lT]); exact ⟨id⟩))
 generalize hR : t.frames.map frameA2 = R at *
 have k1 : (f.regs.map valC).set rg.toNat [Iv vk, Iv vn] = ((f.regs.set rg.toNat (vk, vn)).map valN).map (List.map nvC) := by rw [lT, List.map_set]
 clear hR hT0 p2 q2 hf ht
 obtain ⟨fn, pc, tov, gen, ⟨sk, sn⟩, regs, tries⟩ := f
 dsimp only at *
 (any_goals refine go (eM 6 lv93) 0 ?_)
 repeat' (first | (refine Br.go (fun h h' => ?_) (fun h h' => ?_)) | (refine Br.mk (fun h => ?_) (fun h => ?_)))
 all_goals (try simp only [go_sem])
 (apply dD 201 k 6 202 ((regs.set rg.toNat (vk, vn)).map valN); (exact rfl); (exact List.getElem?_set_self (by omega)); (exact rfl); (exact (by decide)); (exact rfl); (exact rfl); (intro K0; (try simp only [go_sem, p7]); exact ⟨id⟩))
 (apply dD 301 th 0 201 ((t.frames.set k ⟨fn, pc, tov, gen, (sk, sn), regs.set rg.toNat (vk, vn), tries⟩).map dW); (exact rfl); (exact List.getElem?_set_self (by omega)); (exact rfl); (exact (by decide)); (exact congrArg (fun z => (1, Res.sl 61 8 z)) p9); (exact rfl); (intro K0; (try simp only [go_sem, q7]); exact ⟨id⟩))
 clear p9 k1
 (apply lC 300 (s.cells.map aW); (exact rfl); (exact fG zY); (exact rfl); (intro K0; (try simp only [go_sem]); exact ⟨id⟩))
 (apply lC 301 (ts.map aJ); (exact rfl); (exact (by rw [← q8]; exact fG pP)); (exact rfl); (intro K0; (try simp only [go_sem]); exact ⟨id⟩))
 (any_goals refine go lv93 0 ?_)
 repeat' (first | (refine Br.go (fun h h' => ?_) (fun h h' => ?_)) | (refine Br.mk (fun h => ?_) (fun h => ?_)))
 all_goals (try simp only [go_sem])
theorem aAm {fs : List aR} {rg : Int} {v : Int × Int} (h : ∀ f ∈ fs, Gwf f) : (intoF fs rg v).length = fs.length ∧ ∀ f ∈ intoF fs rg v, Gwf f := by
 unfold intoF
 split
 ·split
  ·rename_i f hf
   refine ⟨List.length_set .., fun g hg => ?_⟩
   rcases List.mem_or_eq_of_mem_set hg with hg | rfl
   ·exact h g hg
   ·obtain ⟨a1, a2, a3⟩ := h f (List.mem_of_getElem? hf)
    exact ⟨by show (f.regs.set _ _).length ≤ _; rw [List.length_set]; exact a1, a2, a3⟩
  ·exact ⟨rfl, h⟩
 ·exact ⟨rfl, h⟩
theorem Yo {s : aC} {cs : List bJ} {ts : List aP} (hs : Swf s) (h1 : cs.length = s.cells.length) (h2 : ∀ c ∈ cs, c ∈ s.cells ∨ Cwf c) (h3 : ts.length = s.threads.length) (h4 : ∀ t ∈ ts, t ∈ s.threads ∨ t.frames.length ≤ 9223372036854775807 ∧ ∀ f ∈ t.frames, Gwf f) :
  Swf ⟨cs, s.shapes, s.texts, ts, s.ends, s.said, s.asked, s.steps⟩ := by
 obtain ⟨⟨a1, a2, a3, a4, a5, a6⟩, b, c, d⟩ := hs
 refine ⟨⟨by show cs.length ≤ _; omega, a2, a3, by show ts.length ≤ _; omega, a5, a6⟩, b, fun x hx => ?_, fun x hx => ?_⟩
 ·rcases h2 x hx with h | h
  ·exact c x h
  ·exact h
 ·rcases h4 x hx with h | h
  ·exact d x h
  ·exact h
theorem Dm (p : aI) (s : aC) (th : Nat) (t : aP) (c : bJ) (g : Nat) (rg : Int) (v : Int × Int) (e : gX) (hm : Sml s) (ht : s.threads[th]? = some t) (hc : s.cells[g]? = some c) (h2 : c.num = 2)
  (hto : 0 ≤ rg → ∃ f2, t.frames[t.frames.length - 1]? = some f2 ∧ rg < (f2.regs.length : Int) ∧ f2.regs.length ≤ 1000000000) :
  FC Cx 45 [bC p, aH s, Iv th, Iv g, VV v.1 v.2, Iv rg, cV e] [] (.tup [aH (doneS s th t rg (0, 0)), bI [], Bv true]) [] := by
 have hRC : ∀ y, y = [aH s, Iv th, Iv rg, VV 0 0] → aQ Cx 93 y (aH (doneS s th t rg (0, 0))) := fun y hy => by
  subst hy; exact aA (aNr s th t rg (0, 0) hm ht hto) en93 rfl rfl
 have hk := (List.getElem?_eq_some_iff.1 ht).1
 have hck := (List.getElem?_eq_some_iff.1 hc).1
 have hcl := hm.cells
 have em : ((g : Nat) : Int).toNat = g := by omega
 have gc := aE aW hc ([] : List RV)
 have lc : (s.cells.map aW).length = s.cells.length := List.length_map ..
 generalize doneS s th t rg (0, 0) = X at *
 obtain ⟨vk, vn⟩ := v
 obtain ⟨ck, cn, cv, cf⟩ := c
 dsimp only at *
 subst h2
 clear hto ht hc hm
 refine fE [ctE 93 [aH s, Iv th, Iv rg, VV 0 0] (aH X) hRC] Tryz.func45 rfl Tryz.ntmps45 (by simp) Tryz.results45 rfl ?_
 refine rnst ?_
 refine goR ?_
 refine fzB 7 ?_
 refine fzB 11 ?_
 refine fzB 13 ?_
 (any_goals refine go lv45 0 ?_)
 repeat' (first | (refine Br.go (fun h h' => ?_) (fun h h' => ?_)) | (refine Br.mk (fun h => ?_) (fun h => ?_)))
 all_goals (try simp only [go_sem])
 all_goals rfl
theorem Dy (p : aI) (s : aC) (th : Nat) (t : aP) (c : bJ) (g : Nat) (rg : Int) (v : Int × Int) (e : gX) (hm : Sml s) (ht : s.threads[th]? = some t) (hc : s.cells[g]? = some c) (h2 : c.num ≠ 2) (hl : t.frames.length = 30) :
  FC Cx 45 [bC p, aH s, Iv th, Iv g, VV v.1 v.2, Iv rg, cV e] [] (.tup [aH s, bI [], Bv false]) [] := by
 have hk := (List.getElem?_eq_some_iff.1 ht).1
 have hck := (List.getElem?_eq_some_iff.1 hc).1
 have hcl := hm.cells
 have htl := hm.threads
 have em : ((g : Nat) : Int).toNat = g := by omega
 have t1 : Int.toNat (th : Int) = th := by omega
 have gc := aE aW hc ([] : List RV)
 have lc : (s.cells.map aW).length = s.cells.length := List.length_map ..
 have l1 : (s.threads.map aJ).length = s.threads.length := List.length_map ..
 have hg := aE aJ ht ([] : List RV)
 have lf : (t.frames.map bA).length = t.frames.length := List.length_map ..
 have d0 : decide (c.num = 2) = false := by simpa using h2
 have d1 : decide ((t.frames.length : Int) = 30) = true := by rw [decide_eq_true_eq]; omega
 obtain ⟨vk, vn⟩ := v
 dsimp only at *
 clear ht hc hm h2 hl
 refine fE [] Tryz.func45 rfl Tryz.ntmps45 (by simp) Tryz.results45 rfl ?_
 refine rnst ?_
 refine goR ?_
 refine fzB 7 ?_
 refine fzB 11 ?_
 refine fzB 13 ?_
 (any_goals refine go lv45 0 ?_)
 repeat' (first | (refine Br.go (fun h h' => ?_) (fun h h' => ?_)) | (refine Br.mk (fun h => ?_) (fun h => ?_)))
 all_goals (try simp only [go_sem])
 all_goals rfl
abbrev rsE (e : gX) (g : Int) (v : Int × Int) : gX := ⟨16, e.step, e.thread, e.fn, e.pc, e.line, g, 0, v, (0, 0)⟩
theorem Vu (p : aI) (s : aC) (th : Nat) (t : aP) (c : bJ) (f : aR) (g : Nat) (rg : Int) (v : Int × Int) (e : gX) (hp : Pgo p) (hm : Sml s) (ht : s.threads[th]? = some t) (hc : s.cells[g]? = some c) (h2 : c.num ≠ 2) (hk5 : c.kind = 5) (hcv : c.vals = []) (hcf : c.frames = [f]) (hl : t.frames.length < 30) (hG : GenF p s f) :
  FC Cx 45 [bC p, aH s, Iv th, Iv g, VV v.1 v.2, Iv rg, cV e] [] (.tup [aH (goS p s th t c f g rg v), bI [rsE e g v], Bv true]) [] := by
 have hk := (List.getElem?_eq_some_iff.1 ht).1
 have hck := (List.getElem?_eq_some_iff.1 hc).1
 have hcl := hm.cells
 have htl := hm.threads
 have hrl : f.regs.length ≤ 1000000000 := by have := hG.regs; omega
 have hpc := hG.pc
 have em : ((g : Nat) : Int).toNat = g := by omega
 have t1 : Int.toNat (th : Int) = th := by omega
 have gcR := aE aW hc ([] : List RV)
 have lcR : (s.cells.map aW).length = s.cells.length := List.length_map ..
 have l1 : (s.threads.map aJ).length = s.threads.length := List.length_map ..
 have hgR := aE aJ ht ([] : List RV)
 have lf : (t.frames.map bA).length = t.frames.length := List.length_map ..
 have d0 : decide (c.num = 2) = false := by simpa using h2
 have d1 : decide ((t.frames.length : Int) = 30) = false := by rw [decide_eq_false_iff_not]; omega
 have q2 : (s.threads.map aV)[th]? = some (aV t) := by rw [List.getElem?_map, ht]; rfl
 have q1 : (s.threads.map aV).length = s.threads.length := List.length_map ..
 have r2 : (s.cells.map cK)[g]? = some (cK c) := by rw [List.getElem?_map, hc]; rfl
 have lc : (s.cells.map cK).length = s.cells.length := List.length_map ..
 have lf0 : (t.frames.map frameA2).length = t.frames.length := List.length_map ..
 have lr : (f.regs.map valC).length = f.regs.length := List.length_map ..
 have l0 : (p.fns.map fnR).length = p.fns.length := List.length_map ..
 obtain ⟨⟨g1, g2⟩, g3, g4⟩ := jC hG.frame
 obtain ⟨F, hF⟩ : ∃ F, p.fns[f.fn.toNat]? = some F := ⟨p.fns[f.fn.toNat]'(by omega), List.getElem?_eq_getElem _⟩
 have gF := aE fnR hF ([] : List RV)
 have eF : p.fns.getD f.fn.toNat fn0 = F := by rw [List.getD_eq_getElem?_getD, hF]; rfl
 rw [eF] at g4
 have l3 : (F.code.map insR).length = F.code.length := List.length_map ..
 have w1 : IntKind.i64.wrap (f.pc - 1) = f.pc - 1 := by
  have := (hp.cok F (List.mem_of_getElem? hF)).len
  rw [aN] <;> omega
 have q0 := Mf s hm 300 301 rfl
 have en : aF Cx.P 87 := en87
 have eC : (s.cells.set g (goC c)).map aW = (s.cells.map aW).set g [.v (.int .i64 5), .v (.int .i64 1), .rs 2 [], .rs 8 []] := by
  rw [List.map_set]
  congr 1
  show [_, _, _, _] = _
  rw [show (goC c).kind = 5 from hk5, show (goC c).vals = [] from hcv]; rfl
 obtain ⟨f', hf'⟩ : ∃ f', f' = goF0 f rg g (lQ p f).a v := ⟨_, rfl⟩
 have eT : (s.threads.set th { t with frames := t.frames ++ [f'] }).map aV = (s.threads.map aV).set th (aV { t with frames := t.frames ++ [f'] }) := List.map_set ..
 have eS : aH (goS p s th t c f g rg v) = .agg [dO (s.cells.set g (goC c)), aT s.shapes, bZ s.texts, cI (s.threads.set th { t with frames := t.frames ++ [f'] }), eY s.ends, aT s.said, Iv s.asked, Iv s.steps] := by rw [hf']; rfl
 rw [eS]
 generalize s.cells.set g (goC c) = CS at *
 generalize s.threads.set th { t with frames := t.frames ++ [f'] } = TS at *
 obtain ⟨vk, vn⟩ := v
 obtain ⟨ck, cn, cv, cf⟩ := c
 dsimp only at *
 subst hcf
 subst hcv
 subst hk5
 clear h2 hc ht hm eS hG
 refine fE [ctN 87 [(1004, 300), (1007, 301)] [aH s] (.agg [.os 1004 (1 + s.cells.length), aT s.shapes, bZ s.texts, .os 1007 (1 + s.threads.length), eY s.ends, aT s.said, Iv s.asked, Iv s.steps]) [ownC 1004 (1 + s.cells.length) s.cells, ownT 1007 (1 + s.threads.length) s.threads] en q0, aAv] Tryz.func45 rfl Tryz.ntmps45 (by simp) Tryz.results45 rfl ?_
 refine rnst ?_
 refine goR ?_
 refine fzB 7 ?_
 refine fzB 11 ?_
 refine fzB 13 ?_
 (any_goals refine go (eM 6 lv45) 0 ?_)
 repeat' (first | (refine Br.go (fun h h' => ?_) (fun h h' => ?_)) | (refine Br.mk (fun h => ?_) (fun h => ?_)))
 all_goals (try simp only [go_sem])
 clear gcR lcR l1 hgR lf
 (apply gZ 301 th 0 201; (exact rfl); (exact q2); (exact rfl); (exact rfl); (exact rfl); (intro K0; (try simp only [go_sem, dJ]); exact ⟨id⟩))
 (apply gZ 300 g 3 203; (exact rfl); (exact r2); (exact rfl); (exact rfl); (exact rfl); (intro K0; (try simp only [go_sem, dJ]); exact ⟨id⟩))
 (apply gZ 203 0 6 204; (exact rfl); (exact rfl); (exact rfl); (exact rfl); (exact rfl); (intro K0; (try simp only [go_sem, lT]); exact ⟨id⟩))
 have hEB : rF (s.cells.map cK) (s.cells.map aW) := fG zY
 generalize hT0 : s.threads.map aV = T0 at *
 have q4 : ∀ X, (T0.set th X).length = s.threads.length := fun X => by rw [List.length_set, q1]
 have q6 : ∀ X, (T0.set th X).getD th [] = X := fun X => by rw [List.getD_eq_getElem?_getD, List.getElem?_set_self (by omega)]; rfl
 have q7 : ∀ X Y, (T0.set th X).set th Y = T0.set th Y := fun X Y => List.set_set ..
 generalize hC0 : s.cells.map cK = C0 at *
 have r4 : ∀ X, (C0.set g X).length = s.cells.length := fun X => by rw [List.length_set, lc]
 have r6 : ∀ X, (C0.set g X).getD g [] = X := fun X => by rw [List.getD_eq_getElem?_getD, List.getElem?_set_self (by omega)]; rfl
 have r7 : ∀ X Y, (C0.set g X).set g Y = C0.set g Y := fun X Y => List.set_set ..
 by_cases hp0 : 0 < f.pc
 case pos =>
  obtain ⟨hA, hB⟩ := hpc hp0
  obtain ⟨I, hI⟩ : ∃ I, F.code[(f.pc - 1).toNat]? = some I := ⟨F.code[(f.pc - 1).toNat]'(by omega), List.getElem?_eq_getElem _⟩
  have gI := aE insR hI ([] : List RV)
  have eI : lQ p f = I := by unfold lQ; rw [eF, List.getD_eq_getElem?_getD, hI]; rfl
  have d2 : decide (0 < f.pc) = true := by simpa using hp0
  have b1 : 0 ≤ f.pc - 1 := by omega
  have b2 : f.pc - 1 < (F.code.length : Int) := by omega
  rw [eI] at hA hB hf'
  have eG : goF0 f rg g I.a (vk, vn) = ⟨f.fn, f.pc, rg, g, f.self, f.regs.set I.a.toNat (vk, vn), f.tries⟩ := by unfold goF0; rw [if_pos hp0]
  rw [eG] at hf'
  subst hf'
  clear eG eI eF hI hF hpc q2 r2
  obtain ⟨fn, pc, tov, gen, ⟨sk, sn⟩, regs, tries⟩ := f
  dsimp only at *
  obtain ⟨z, hz⟩ : ∃ z, regs[I.a.toNat]? = some z := ⟨regs[I.a.toNat]'(by omega), List.getElem?_eq_getElem _⟩
  have gz := aE valC hz ([] : List AV)
  clear hz
  (any_goals refine go (eM 12 lv45) 0 ?_)
  repeat' (first | (refine Br.go (fun h h' => ?_) (fun h h' => ?_)) | (refine Br.mk (fun h => ?_) (fun h => ?_)))
  all_goals (try simp only [go_sem])
  have qa : ∀ X : List AV, (t.frames.map frameA2 ++ [X])[t.frames.length]? = some X := fun X => by rw [List.getElem?_append_right (by omega), lf0, Nat.sub_self]; rfl
  have qs : ∀ X Y : List AV, (t.frames.map frameA2 ++ [X]).set t.frames.length Y = t.frames.map frameA2 ++ [Y] := fun X Y => by rw [List.set_append_right _ _ (by omega), lf0, Nat.sub_self]; rfl
  have p9 : t.frames.map frameA2 ++ [frameA2 ⟨fn, pc, rg, g, (sk, sn), regs.set I.a.toNat (vk, vn), tries⟩] = ((t.frames ++ [(⟨fn, pc, rg, g, (sk, sn), regs.set I.a.toNat (vk, vn), tries⟩ : aR)]).map dW).map (List.map nvC) := by rw [dJ, List.map_append]; rfl
  (apply dD 201 t.frames.length 6 204 ((regs.set I.a.toNat (vk, vn)).map valN); (exact rfl); (exact qa _); (exact rfl); (exact (by decide)); (exact congrArg (fun z => (1, Res.sl 50 2 z)) (by rw [lT, List.map_set])); (exact rfl); (intro K0; (try simp only [go_sem, qs]); exact ⟨id⟩))
  generalize t.frames.map frameA2 = R at *
  (apply dD 301 th 0 201 ((t.frames ++ [(⟨fn, pc, rg, g, (sk, sn), regs.set I.a.toNat (vk, vn), tries⟩ : aR)]).map dW); (exact rfl); (exact List.getElem?_set_self (by omega)); (exact rfl); (exact (by decide)); (exact congrArg (fun z => (2, Res.sl 61 8 z)) p9); (exact rfl); (intro K0; (try simp only [go_sem, q7]); exact ⟨id⟩))
  (apply tE 300 g 2 50 2; (exact rfl); (exact List.getElem?_set_self (by omega)); (exact rfl); (exact rfl); (intro K0; (try simp only [go_sem, r7]); exact ⟨id⟩))
  (apply tE 300 g 3 61 8; (exact rfl); (exact List.getElem?_set_self (by omega)); (exact rfl); (exact rfl); (intro K0; (try simp only [go_sem, r7]); exact ⟨id⟩))
  (apply lC 300 (CS.map aW); (exact rfl); (exact (by rw [eC]; exact uG hEB ⟨rfl, rfl, rfl, rfl, trivial⟩)); (exact rfl); (intro K0; (try simp only [go_sem]); exact ⟨id⟩))
  (apply lC 301 (TS.map aJ); (exact rfl); (exact (by have h := fG (l := TS) pP; rw [eT] at h; exact h)); (exact rfl); (intro K0; (try simp only [go_sem]); exact ⟨id⟩))
  clear p9 qa qs q4 q6 q7 r4 r6 r7 eC eT hEB hT0 hC0
  (any_goals refine goN lv45 0 ?_)
  repeat' (first | (refine Br.go (fun h h' => ?_) (fun h h' => ?_)) | (refine Br.mk (fun h => ?_) (fun h => ?_)))
  all_goals (try simp only [go_sem])
  (apply gU 98 [uY ⟨16, e.step, e.thread, e.fn, e.pc, e.line, g, 0, (vk, vn), (0, 0)⟩]; (exact rfl); (exact rfl); (exact rfl); (intro K0; (try simp only [go_sem]); exact ⟨id⟩))
  (any_goals refine go lv45 0 ?_)
  repeat' (first | (refine Br.go (fun h h' => ?_) (fun h h' => ?_)) | (refine Br.mk (fun h => ?_) (fun h => ?_)))
  all_goals (try simp only [go_sem])
  all_goals rfl
 have d2 : decide (0 < f.pc) = false := by simpa using hp0
 have eG : goF0 f rg g (lQ p f).a (vk, vn) = ⟨f.fn, f.pc, rg, g, f.self, f.regs, f.tries⟩ := by unfold goF0; rw [if_neg hp0]
 rw [eG] at hf'
 subst hf'
 clear eG eF hF hpc q2 r2
 obtain ⟨fn, pc, tov, gen, ⟨sk, sn⟩, regs, tries⟩ := f
 dsimp only at *
 (any_goals refine go (eM 12 lv45) 0 ?_)
 repeat' (first | (refine Br.go (fun h h' => ?_) (fun h h' => ?_)) | (refine Br.mk (fun h => ?_) (fun h => ?_)))
 all_goals (try simp only [go_sem])
 have qa : ∀ X : List AV, (t.frames.map frameA2 ++ [X])[t.frames.length]? = some X := fun X => by rw [List.getElem?_append_right (by omega), lf0, Nat.sub_self]; rfl
 have qs : ∀ X Y : List AV, (t.frames.map frameA2 ++ [X]).set t.frames.length Y = t.frames.map frameA2 ++ [Y] := fun X Y => by rw [List.set_append_right _ _ (by omega), lf0, Nat.sub_self]; rfl
 have p9 : t.frames.map frameA2 ++ [frameA2 ⟨fn, pc, rg, g, (sk, sn), regs, tries⟩] = ((t.frames ++ [(⟨fn, pc, rg, g, (sk, sn), regs, tries⟩ : aR)]).map dW).map (List.map nvC) := by rw [dJ, List.map_append]; rfl
 (apply dD 201 t.frames.length 6 204 ((regs).map valN); (exact rfl); (exact qa _); (exact rfl); (exact (by decide)); (exact congrArg (fun z => (1, Res.sl 50 2 z)) (lT regs).symm); (exact rfl); (intro K0; (try simp only [go_sem, qs]); exact ⟨id⟩))
 generalize t.frames.map frameA2 = R at *
 (apply dD 301 th 0 201 ((t.frames ++ [(⟨fn, pc, rg, g, (sk, sn), regs, tries⟩ : aR)]).map dW); (exact rfl); (exact List.getElem?_set_self (by omega)); (exact rfl); (exact (by decide)); (exact congrArg (fun z => (2, Res.sl 61 8 z)) p9); (exact rfl); (intro K0; (try simp only [go_sem, q7]); exact ⟨id⟩))
 (apply tE 300 g 2 50 2; (exact rfl); (exact List.getElem?_set_self (by omega)); (exact rfl); (exact rfl); (intro K0; (try simp only [go_sem, r7]); exact ⟨id⟩))
 (apply tE 300 g 3 61 8; (exact rfl); (exact List.getElem?_set_self (by omega)); (exact rfl); (exact rfl); (intro K0; (try simp only [go_sem, r7]); exact ⟨id⟩))
 (apply lC 300 (CS.map aW); (exact rfl); (exact (by rw [eC]; exact uG hEB ⟨rfl, rfl, rfl, rfl, trivial⟩)); (exact rfl); (intro K0; (try simp only [go_sem]); exact ⟨id⟩))
 (apply lC 301 (TS.map aJ); (exact rfl); (exact (by have h := fG (l := TS) pP; rw [eT] at h; exact h)); (exact rfl); (intro K0; (try simp only [go_sem]); exact ⟨id⟩))
 clear p9 qa qs q4 q6 q7 r4 r6 r7 eC eT hEB hT0 hC0
 (any_goals refine goN lv45 0 ?_)
 repeat' (first | (refine Br.go (fun h h' => ?_) (fun h h' => ?_)) | (refine Br.mk (fun h => ?_) (fun h => ?_)))
 all_goals (try simp only [go_sem])
 (apply gU 98 [uY ⟨16, e.step, e.thread, e.fn, e.pc, e.line, g, 0, (vk, vn), (0, 0)⟩]; (exact rfl); (exact rfl); (exact rfl); (intro K0; (try simp only [go_sem]); exact ⟨id⟩))
 (any_goals refine go lv45 0 ?_)
 repeat' (first | (refine Br.go (fun h h' => ?_) (fun h h' => ?_)) | (refine Br.mk (fun h => ?_) (fun h => ?_)))
 all_goals (try simp only [go_sem])
 all_goals rfl
theorem aCb {s : aC} {n : Nat} {t : aP} {rg : Int} {v : Int × Int} (hs : Swf s) (ht : s.threads[n]? = some t) : Swf (doneS s n t rg v) := by
 obtain ⟨d1, d2⟩ := hs.thread t (List.mem_of_getElem? ht)
 refine Yo hs rfl (fun x hx => .inl hx) (List.length_set ..) fun x hx => ?_
 rcases List.mem_or_eq_of_mem_set hx with hx | rfl
 ·exact .inl hx
 ·obtain ⟨b1, b2⟩ := aAm (rg := rg) (v := v) d2
  exact .inr ⟨by show (intoF _ _ _).length ≤ _; rw [b1]; exact d1, b2⟩
theorem aL2 {p : aI} {s : aC} {n : Nat} {t : aP} {c : bJ} {f : aR} {g : Nat} {rg : Int} {v : Int × Int} (hs : Swf s) (ht : s.threads[n]? = some t) (hc : s.cells[g]? = some c) (hcf : c.frames = [f]) (hl : t.frames.length < 30) : Swf (goS p s n t c f g rg v) := by
 obtain ⟨d1, d2⟩ := hs.thread t (List.mem_of_getElem? ht)
 obtain ⟨c1, c2, _, c4⟩ := hs.cell c (List.mem_of_getElem? hc)
 have hg := (List.getElem?_eq_some_iff.1 hc).1
 have hgl := hs.len.cells
 refine Yo hs (List.length_set ..) (fun x hx => ?_) (List.length_set ..) fun x hx => ?_
 ·rcases List.mem_or_eq_of_mem_set hx with hx | rfl
  ·exact .inl hx
  ·exact .inr ⟨c1, c2, by simp [goC], fun g hg => by simp [goC] at hg⟩
 ·rcases List.mem_or_eq_of_mem_set hx with hx | rfl
  ·exact .inl hx
  ·refine .inr ⟨by show (t.frames ++ [_]).length ≤ _; rw [List.length_append, List.length_singleton]; omega, fun x hx => ?_⟩
   rcases List.mem_append.1 hx with hx | hx
   ·exact d2 x hx
   ·simp at hx; subst hx
    obtain ⟨a1, a2, _⟩ := c4 f (by rw [hcf]; exact List.mem_singleton.2 rfl)
    refine ⟨?_, a2, by show WI (g : Int); exact aWn (by omega) (by omega)⟩
    show (if 0 < f.pc then f.regs.set _ _ else f.regs).length ≤ _
    split
    ·rw [List.length_set]; exact a1
    ·exact a1
theorem mN (sz : Nat) {C : Ctx} {f : Nat} {a r : AV} (h : aQ C f [a, .r (.rs sz [])] r) : aQ C f [a, NilS] r := by
 intro cur g w av vs hG hgs hav hp
 refine h cur g w av vs hG hgs hav ⟨hp.1, fun j y v hy hv => ?_⟩
 match j with
 | 0 => exact hp.2 0 y v hy hv
 | 1 => simp at hy; subst hy; exact Nj sz (hp.2 1 _ v rfl hv)
 | j + 2 => simp at hy
theorem Bk (p : aI) (s : aC) (th : Int) (gv v : Int × Int) (rg : Int) (hw : Pwf p) (hs : Swf s) (hrg : kG s) (h : askE p s th ≠ 0) : FC Cx 10 [bC p, aH s, Iv th, VV gv.1 gv.2, VV v.1 v.2, Iv rg] [] (Bv true) [] := by
 have hT : ∀ y, y = [bC p, aH s, Iv th, VV gv.1 gv.2, VV v.1 v.2, Iv rg] → aQ Cx 43 y (.tup [aH gT, bI [], Iv (askE p s th)]) := fun y hy => by
  subst hy; exact aA (Np p s th gv v rg hw hs h) en43 rfl rfl
 have hA : ∀ y, y = [bC p, aH s, Iv th] → aQ Cx 41 y (Iv (askE p s th)) := fun y hy => by
  subst hy; exact aA (Gm p s th hw hs hrg) en41 rfl rfl
 have hz : Ao gT ⟨[], [], [], [], [], [], 0, 0⟩ = true := lA _
 have wz : Swf gT := sK 0 0
 have hEv : ∀ y, y = [bI [], NilS] → aQ Cx 38 y (Bv true) := fun y hy => by
  subst hy; exact mN 12 (aA (pQ [] (by simp)) en38 rfl rfl)
 have d0 : decide (askE p s th = 0) = false := by simpa using h
 obtain ⟨vk, vn⟩ := v
 obtain ⟨gk, gn⟩ := gv
 dsimp only at *
 generalize gT = Z at *
 generalize askE p s th = E at *
 clear h
 refine aD [ctE 43 [bC p, aH s, Iv th, VV gk gn, VV vk vn, Iv rg] (.tup [aH Z, bI [], Iv E]) hT, ctE 41 [bC p, aH s, Iv th] (Iv E) hA, jS, ctE 38 [bI [], NilS] (Bv true) hEv] Tryz.func10 Tryz.ntmps10 Tryz.results10 ?_
 refine goR ?_
 refine fzB 6 ?_
 refine fzB 7 ?_
 refine fzB 9 ?_
 refine fzB 10 ?_
 (any_goals refine go lv10 0 ?_)
 repeat' (first | (refine Br.go (fun h h' => ?_) (fun h h' => ?_)) | (refine Br.mk (fun h => ?_) (fun h => ?_)))
 all_goals (try simp only [go_sem])
theorem Ea (p : aI) (s : aC) (th : Int) (n : Nat) (t : aP) (f : aR) (gv v : Int × Int) (rg : Int) (hw : Pwf p) (hs : Swf s) (hrg : kG s) (ha : askE p s th = 0) (h : yX p s th n t f) (hy : resE s t f gv v rg ≠ 0) : FC Cx 10 [bC p, aH s, Iv th, VV gv.1 gv.2, VV v.1 v.2, Iv rg] [] (Bv true) [] := by
 have hT : ∀ y, y = [bC p, aH s, Iv th, VV gv.1 gv.2, VV v.1 v.2, Iv rg] → aQ Cx 43 y (.tup [aH gT, bI [], Iv (resE s t f gv v rg)]) := fun y hy1 => by
  subst hy1; exact aA (Vg p s th n t f gv v rg hw hs ha h hy) en43 rfl rfl
 have hA : ∀ y, y = [bC p, aH s, Iv th] → aQ Cx 41 y (Iv 0) := fun y hy => by
  subst hy; rw [← ha]; exact aA (Gm p s th hw hs hrg) en41 rfl rfl
 have hz : Ao gT ⟨[], [], [], [], [], [], 0, 0⟩ = true := lA _
 have wz : Swf gT := sK 0 0
 have hEv : ∀ y, y = [bI [], NilS] → aQ Cx 38 y (Bv true) := fun y hy => by
  subst hy; exact mN 12 (aA (pQ [] (by simp)) en38 rfl rfl)
 have hF := kX hw h
 have h30 := hF.frames
 have h60 := hF.regs
 obtain ⟨rfl, _, ht, _, hf⟩ := h
 have l1 : (s.threads.map aJ).length = s.threads.length := List.length_map ..
 have lf : (t.frames.map bA).length = t.frames.length := List.length_map ..
 have hk := (List.getElem?_eq_some_iff.1 ht).1
 have hfk := (List.getElem?_eq_some_iff.1 hf).1
 have hg := aE aJ ht ([] : List RV)
 have hgf := aE bA hf ([] : List RV)
 have t1 : Int.toNat (n : Int) = n := by omega
 have t2 : Int.toNat ((t.frames.length : Int) - 1) = t.frames.length - 1 := by omega
 have w2 : IntKind.i64.wrap ((t.frames.length : Int) - 1) = (t.frames.length : Int) - 1 := by rw [aN] <;> omega
 have w3 : IntKind.i64.wrap ((f.regs.length : Int) - 1) = (f.regs.length : Int) - 1 := by rw [aN] <;> omega
 have hs4 := hs.len.cells
 obtain ⟨vk, vn⟩ := v
 obtain ⟨gk, gn⟩ := gv
 dsimp only at *
 generalize gT = Z at *
 have hE : resE s t f (gk, gn) (vk, vn) rg = if fitsF s (vk, vn) = false ∨ ¬ (-1 ≤ rg ∧ rg ≤ (f.regs.length : Int) - 1) then 1 else if refF s (gk, gn) 5 = false then 7 else if (s.cells.getD gn.toNat cZ).num = 1 then 8 else if (s.cells.getD gn.toNat cZ).num ≠ 2 ∧ 30 ≤ t.frames.length then 2 else 0 := rfl
 generalize resE s t f (gk, gn) (vk, vn) rg = E at *
 cases h1 : fitsF s (vk, vn) with
 | false =>
  rw [if_pos (.inl h1)] at hE
  subst hE
  clear hy hF ha hf ht
  obtain ⟨fn, pc, tov, gen, ⟨sk, sn⟩, regs, tries⟩ := f
  dsimp only at *
  have lr : (regs.map valR).length = regs.length := List.length_map ..
  refine aD [ctE 43 [bC p, aH s, Iv n, VV gk gn, VV vk vn, Iv rg] (.tup [aH Z, bI [], Iv 1]) hT, ctE 41 [bC p, aH s, Iv n] (Iv 0) hA, cY, aU, cD, jS, ctE 38 [bI [], NilS] (Bv true) hEv] Tryz.func10 Tryz.ntmps10 Tryz.results10 ?_
  refine goR ?_
  refine fzB 6 ?_
  refine fzB 7 ?_
  refine fzB 9 ?_
  refine fzB 10 ?_
  (any_goals refine go lv10 0 ?_)
  repeat' (first | (refine Br.go (fun h h' => ?_) (fun h h' => ?_)) | (refine Br.mk (fun h => ?_) (fun h => ?_)))
  all_goals (try simp only [go_sem])
 | true =>
 by_cases c1 : -1 ≤ rg ∧ rg ≤ (f.regs.length : Int) - 1
 case neg =>
  rw [if_pos (.inr c1)] at hE
  subst hE
  have d1 : decide (-1 ≤ rg ∧ rg ≤ (f.regs.length : Int) - 1) = false := by simpa using c1
  clear hy hF ha hf ht c1
  obtain ⟨fn, pc, tov, gen, ⟨sk, sn⟩, regs, tries⟩ := f
  dsimp only at *
  have lr : (regs.map valR).length = regs.length := List.length_map ..
  refine aD [ctE 43 [bC p, aH s, Iv n, VV gk gn, VV vk vn, Iv rg] (.tup [aH Z, bI [], Iv 1]) hT, ctE 41 [bC p, aH s, Iv n] (Iv 0) hA, cY, aU, cD, jS, ctE 38 [bI [], NilS] (Bv true) hEv] Tryz.func10 Tryz.ntmps10 Tryz.results10 ?_
  refine goR ?_
  refine fzB 6 ?_
  refine fzB 7 ?_
  refine fzB 9 ?_
  refine fzB 10 ?_
  (any_goals refine go lv10 0 ?_)
  repeat' (first | (refine Br.go (fun h h' => ?_) (fun h h' => ?_)) | (refine Br.mk (fun h => ?_) (fun h => ?_)))
  all_goals (try simp only [go_sem])
 have d1 : decide (-1 ≤ rg ∧ rg ≤ (f.regs.length : Int) - 1) = true := by simpa using c1
 rw [if_neg (by simp [h1]; omega)] at hE
 clear c1
 cases h3 : refF s (gk, gn) 5 with
 | false =>
  rw [if_pos h3] at hE
  subst hE
  clear hy hF ha hf ht
  obtain ⟨fn, pc, tov, gen, ⟨sk, sn⟩, regs, tries⟩ := f
  dsimp only at *
  have lr : (regs.map valR).length = regs.length := List.length_map ..
  refine aD [ctE 43 [bC p, aH s, Iv n, VV gk gn, VV vk vn, Iv rg] (.tup [aH Z, bI [], Iv 7]) hT, ctE 41 [bC p, aH s, Iv n] (Iv 0) hA, cY, aU, cD, jS, ctE 38 [bI [], NilS] (Bv true) hEv] Tryz.func10 Tryz.ntmps10 Tryz.results10 ?_
  refine goR ?_
  refine fzB 6 ?_
  refine fzB 7 ?_
  refine fzB 9 ?_
  refine fzB 10 ?_
  (any_goals refine go lv10 0 ?_)
  repeat' (first | (refine Br.go (fun h h' => ?_) (fun h h' => ?_)) | (refine Br.mk (fun h => ?_) (fun h => ?_)))
  all_goals (try simp only [go_sem])
 | true =>
 rw [if_neg (by simp [h3])] at hE
 have hg5 : gk = 5 := by have h5 := h3; unfold refF at h5; simp only [Bool.and_eq_true, decide_eq_true_eq] at h5; exact h5.1.1.1
 subst hg5
 obtain ⟨r1, r2, r3⟩ := Bb h3
 obtain ⟨m, rfl⟩ : ∃ m : Nat, gn = (m : Int) := ⟨gn.toNat, by omega⟩
 have em : ((m : Nat) : Int).toNat = m := by omega
 rw [em] at hE r3
 obtain ⟨c, hc⟩ : ∃ c, s.cells[m]? = some c := ⟨s.cells[m]'(by omega), List.getElem?_eq_getElem _⟩
 have gc := aE aW hc ([] : List RV)
 have lc : (s.cells.map aW).length = s.cells.length := List.length_map ..
 have ec : s.cells.getD m cZ = c := by rw [List.getD_eq_getElem?_getD, hc]; rfl
 rw [ec] at hE r3
 by_cases c5 : c.num = 1
 ·have d5 : decide (c.num = 1) = true := by simpa using c5
  rw [if_pos c5] at hE
  subst hE
  clear hy hF ha hf ht c5 hc ec r3
  obtain ⟨fn, pc, tov, gen, ⟨sk, sn⟩, regs, tries⟩ := f
  dsimp only at *
  have lr : (regs.map valR).length = regs.length := List.length_map ..
  refine aD [ctE 43 [bC p, aH s, Iv n, VV 5 m, VV vk vn, Iv rg] (.tup [aH Z, bI [], Iv 8]) hT, ctE 41 [bC p, aH s, Iv n] (Iv 0) hA, cY, aU, cD, jS, ctE 38 [bI [], NilS] (Bv true) hEv] Tryz.func10 Tryz.ntmps10 Tryz.results10 ?_
  refine goR ?_
  refine fzB 6 ?_
  refine fzB 7 ?_
  refine fzB 9 ?_
  refine fzB 10 ?_
  (any_goals refine go lv10 0 ?_)
  repeat' (first | (refine Br.go (fun h h' => ?_) (fun h h' => ?_)) | (refine Br.mk (fun h => ?_) (fun h => ?_)))
  all_goals (try simp only [go_sem])
 have d5 : decide (c.num = 1) = false := by simpa using c5
 rw [if_neg c5] at hE
 by_cases c6 : c.num ≠ 2 ∧ 30 ≤ t.frames.length
 case neg => rw [if_neg c6] at hE; exact absurd hE hy
 rw [if_pos c6] at hE
 subst hE
 have hAt : ∀ y, y = [bC p, aH s, Iv n] → aQ Cx 37 y (cV (atF p s n f)) := fun y hy => by
  subst hy; exact aA (uD p s n t f hF.go ht hf hF.frame (by omega)) en37 rfl rfl
 have hD : ∀ y, y = [bC p, aH s, Iv n, Iv m, VV vk vn, Iv rg, cV (atF p s n f)] → aQ Cx 45 y (.tup [aH s, bI [], Bv false]) := fun y hy => by
  subst hy; exact aA (Dy p s n t c m rg (vk, vn) (atF p s n f) hF.sml ht hc c6.1 (by omega)) en45 rfl rfl
 generalize atF p s n f = e0 at *
 clear hy hF ha hf ht c5 c6 hc ec r3
 obtain ⟨fn, pc, tov, gen, ⟨sk, sn⟩, regs, tries⟩ := f
 dsimp only at *
 have lr : (regs.map valR).length = regs.length := List.length_map ..
 refine aD [ctE 43 [bC p, aH s, Iv n, VV 5 m, VV vk vn, Iv rg] (.tup [aH Z, bI [], Iv 2]) hT, ctE 41 [bC p, aH s, Iv n] (Iv 0) hA, cY, aU, cD, jS, ctE 38 [bI [], NilS] (Bv true) hEv, ctE 37 [bC p, aH s, Iv n] (cV e0) hAt, ctE 45 [bC p, aH s, Iv n, Iv m, VV vk vn, Iv rg, cV e0] (.tup [aH s, bI [], Bv false]) hD] Tryz.func10 Tryz.ntmps10 Tryz.results10 ?_
 refine goR ?_
 refine fzB 6 ?_
 refine fzB 7 ?_
 refine fzB 9 ?_
 refine fzB 10 ?_
 (any_goals refine go lv10 0 ?_)
 repeat' (first | (refine Br.go (fun h h' => ?_) (fun h h' => ?_)) | (refine Br.mk (fun h => ?_) (fun h => ?_)))
 all_goals (try simp only [go_sem])
theorem zK (p : aI) (s : aC) (th : Int) (n : Nat) (t : aP) (f : aR) (m : Nat) (c : bJ) (v : Int × Int) (rg : Int) (hw : Pwf p) (hs : Swf s) (hrg : kG s) (ha : askE p s th = 0) (h : yX p s th n t f) (hR : ResF s t f v rg m c) (h2 : c.num = 2) : FC Cx 10 [bC p, aH s, Iv th, VV 5 m, VV v.1 v.2, Iv rg] [] (Bv true) [] := by
 have hT : ∀ y, y = [bC p, aH s, Iv th, VV 5 m, VV v.1 v.2, Iv rg] → aQ Cx 43 y (.tup [aH (doneS s n t rg (0, 0)), bI [], Iv 0]) := fun y hy1 => by
  subst hy1; exact aA (Lj p s th n t f m c v rg hw hs ha h hR h2) en43 rfl rfl
 have hA : ∀ y, y = [bC p, aH s, Iv th] → aQ Cx 41 y (Iv 0) := fun y hy => by
  subst hy; rw [← ha]; exact aA (Gm p s th hw hs hrg) en41 rfl rfl
 have hz : Ao gT ⟨[], [], [], [], [], [], 0, 0⟩ = true := lA _
 have wz : Swf gT := sK 0 0
 have hEv : ∀ y, y = [bI [], NilS] → aQ Cx 38 y (Bv true) := fun y hy => by
  subst hy; exact mN 12 (aA (pQ [] (by simp)) en38 rfl rfl)
 have hF := kX hw h
 have h30 := hF.frames
 have h60 := hF.regs
 obtain ⟨rfl, _, ht, _, hf⟩ := h
 have l1 : (s.threads.map aJ).length = s.threads.length := List.length_map ..
 have lf : (t.frames.map bA).length = t.frames.length := List.length_map ..
 have hk := (List.getElem?_eq_some_iff.1 ht).1
 have hfk := (List.getElem?_eq_some_iff.1 hf).1
 have hg := aE aJ ht ([] : List RV)
 have hgf := aE bA hf ([] : List RV)
 have t1 : Int.toNat (n : Int) = n := by omega
 have t2 : Int.toNat ((t.frames.length : Int) - 1) = t.frames.length - 1 := by omega
 have w2 : IntKind.i64.wrap ((t.frames.length : Int) - 1) = (t.frames.length : Int) - 1 := by rw [aN] <;> omega
 have w3 : IntKind.i64.wrap ((f.regs.length : Int) - 1) = (f.regs.length : Int) - 1 := by rw [aN] <;> omega
 have hc := hR.at'
 have hck := (List.getElem?_eq_some_iff.1 hc).1
 have hs4 := hs.len.cells
 have em : ((m : Nat) : Int).toNat = m := by omega
 have gc := aE aW hc ([] : List RV)
 have lc : (s.cells.map aW).length = s.cells.length := List.length_map ..
 have h1 := hR.fits
 have d1 : decide (-1 ≤ rg ∧ rg ≤ (f.regs.length : Int) - 1) = true := by have h5 := hR.lo; have h6 := hR.hi; rw [decide_eq_true_eq]; exact ⟨h5, h6⟩
 have h3 : refF s (5, (m : Int)) 5 = true := by
  have ec : s.cells.getD m cZ = c := by rw [List.getD_eq_getElem?_getD, hc]; rfl
  rw [vU s 5 m 5 (by decide), hR.gen, em, ec, hR.kind]; rfl
 have d5 : decide (c.num = 1) = false := by simpa using hR.num
 have hAt : ∀ y, y = [bC p, aH s, Iv n] → aQ Cx 37 y (cV (atF p s n f)) := fun y hy => by
  subst hy; exact aA (uD p s n t f hF.go ht hf hF.frame (by omega)) en37 rfl rfl
 have hD : ∀ y, y = [bC p, aH s, Iv n, Iv m, VV v.1 v.2, Iv rg, cV (atF p s n f)] → aQ Cx 45 y (.tup [aH (doneS s n t rg (0, 0)), bI [], Bv true]) := fun y hy => by
  subst hy; exact aA (Dm p s n t c m rg v (atF p s n f) hF.sml ht hc h2 (fun h0 => ⟨f, hf, by have := hR.hi; omega, by omega⟩)) en45 rfl rfl
 have hEv2 : ∀ y, y = [bI [], bI []] → aQ Cx 38 y (Bv true) := fun y hy => by
  subst hy; exact aA (pQ _ (by simp)) en38 rfl rfl
 have hX : Swf (doneS s n t rg (0, 0)) := aCb hs ht
 have hXX := lA (doneS s n t rg (0, 0))
 obtain ⟨vk, vn⟩ := v
 dsimp only at *
 clear hz wz hEv
 generalize doneS s n t rg (0, 0) = X at *
 generalize atF p s n f = e0 at *
 clear hF ha hR hf ht hc h2
 obtain ⟨fn, pc, tov, gen, ⟨sk, sn⟩, regs, tries⟩ := f
 dsimp only at *
 have lr : (regs.map valR).length = regs.length := List.length_map ..
 refine aD [ctE 43 [bC p, aH s, Iv n, VV 5 m, VV vk vn, Iv rg] (.tup [aH X, bI [], Iv 0]) hT, ctE 41 [bC p, aH s, Iv n] (Iv 0) hA, cY, aU, cD, jS, ctE 37 [bC p, aH s, Iv n] (cV e0) hAt, ctE 45 [bC p, aH s, Iv n, Iv m, VV vk vn, Iv rg, cV e0] (.tup [aH X, bI [], Bv true]) hD, ctE 38 [bI [], bI []] (Bv true) hEv2] Tryz.func10 Tryz.ntmps10 Tryz.results10 ?_
 refine goR ?_
 refine fzB 6 ?_
 refine fzB 7 ?_
 refine fzB 9 ?_
 refine fzB 10 ?_
 (any_goals refine go lv10 0 ?_)
 repeat' (first | (refine Br.go (fun h h' => ?_) (fun h h' => ?_)) | (refine Br.mk (fun h => ?_) (fun h => ?_)))
 all_goals (try simp only [go_sem])
theorem Dn (p : aI) (s : aC) (th : Int) (n : Nat) (t : aP) (f : aR) (m : Nat) (c : bJ) (f0 : aR) (v : Int × Int) (rg : Int) (hw : Pwf p) (hs : Swf s) (hrg : kG s) (ha : askE p s th = 0) (h : yX p s th n t f) (hR : ResF s t f v rg m c) (h2 : c.num ≠ 2) (hv : c.vals = []) (hcf : c.frames = [f0]) (hG : GenF p s f0) : FC Cx 10 [bC p, aH s, Iv th, VV 5 m, VV v.1 v.2, Iv rg] [] (Bv true) [] := by
 have hT : ∀ y, y = [bC p, aH s, Iv th, VV 5 m, VV v.1 v.2, Iv rg] → aQ Cx 43 y (.tup [aH (goS p s n t c f0 m rg v), bI [goE (atF p s n f) m v], Iv 0]) := fun y hy1 => by
  subst hy1; exact aA (Vo p s th n t f m c f0 v rg hw hs ha h hR h2 hcf hG) en43 rfl rfl
 have hA : ∀ y, y = [bC p, aH s, Iv th] → aQ Cx 41 y (Iv 0) := fun y hy => by
  subst hy; rw [← ha]; exact aA (Gm p s th hw hs hrg) en41 rfl rfl
 have hz : Ao gT ⟨[], [], [], [], [], [], 0, 0⟩ = true := lA _
 have wz : Swf gT := sK 0 0
 have hEv : ∀ y, y = [bI [], NilS] → aQ Cx 38 y (Bv true) := fun y hy => by
  subst hy; exact mN 12 (aA (pQ [] (by simp)) en38 rfl rfl)
 have hF := kX hw h
 have h30 := hF.frames
 have h60 := hF.regs
 obtain ⟨rfl, _, ht, _, hf⟩ := h
 have l1 : (s.threads.map aJ).length = s.threads.length := List.length_map ..
 have lf : (t.frames.map bA).length = t.frames.length := List.length_map ..
 have hk := (List.getElem?_eq_some_iff.1 ht).1
 have hfk := (List.getElem?_eq_some_iff.1 hf).1
 have hg := aE aJ ht ([] : List RV)
 have hgf := aE bA hf ([] : List RV)
 have t1 : Int.toNat (n : Int) = n := by omega
 have t2 : Int.toNat ((t.frames.length : Int) - 1) = t.frames.length - 1 := by omega
 have w2 : IntKind.i64.wrap ((t.frames.length : Int) - 1) = (t.frames.length : Int) - 1 := by rw [aN] <;> omega
 have w3 : IntKind.i64.wrap ((f.regs.length : Int) - 1) = (f.regs.length : Int) - 1 := by rw [aN] <;> omega
 have hc := hR.at'
 have hck := (List.getElem?_eq_some_iff.1 hc).1
 have hs4 := hs.len.cells
 have em : ((m : Nat) : Int).toNat = m := by omega
 have gc := aE aW hc ([] : List RV)
 have lc : (s.cells.map aW).length = s.cells.length := List.length_map ..
 have h1 := hR.fits
 have d1 : decide (-1 ≤ rg ∧ rg ≤ (f.regs.length : Int) - 1) = true := by have h5 := hR.lo; have h6 := hR.hi; rw [decide_eq_true_eq]; exact ⟨h5, h6⟩
 have h3 : refF s (5, (m : Int)) 5 = true := by
  have ec : s.cells.getD m cZ = c := by rw [List.getD_eq_getElem?_getD, hc]; rfl
  rw [vU s 5 m 5 (by decide), hR.gen, em, ec, hR.kind]; rfl
 have d5 : decide (c.num = 1) = false := by simpa using hR.num
 have hAt : ∀ y, y = [bC p, aH s, Iv n] → aQ Cx 37 y (cV (atF p s n f)) := fun y hy => by
  subst hy; exact aA (uD p s n t f hF.go ht hf hF.frame (by omega)) en37 rfl rfl
 have hD : ∀ y, y = [bC p, aH s, Iv n, Iv m, VV v.1 v.2, Iv rg, cV (atF p s n f)] → aQ Cx 45 y (.tup [aH (goS p s n t c f0 m rg v), bI [goE (atF p s n f) m v], Bv true]) := fun y hy => by
  subst hy; exact aA (Vu p s n t c f0 m rg v (atF p s n f) hF.go hF.sml ht hc h2 hR.kind hv hcf (hR.few h2) hG) en45 rfl rfl
 have hEv2 : ∀ y, y = [bI [goE (atF p s n f) m v], bI [goE (atF p s n f) m v]] → aQ Cx 38 y (Bv true) := fun y hy => by
  subst hy; exact aA (pQ _ (by simp)) en38 rfl rfl
 have hX : Swf (goS p s n t c f0 m rg v) := aL2 hs ht hc hcf (hR.few h2)
 have hXX := lA (goS p s n t c f0 m rg v)
 obtain ⟨vk, vn⟩ := v
 dsimp only at *
 clear hz wz hEv
 generalize goS p s n t c f0 m rg (vk, vn) = X at *
 generalize [goE (atF p s n f) m (vk, vn)] = L at *
 generalize atF p s n f = e0 at *
 clear hF ha hR hf ht hc h2 hcf hG hv
 obtain ⟨fn, pc, tov, gen, ⟨sk, sn⟩, regs, tries⟩ := f
 dsimp only at *
 have lr : (regs.map valR).length = regs.length := List.length_map ..
 refine aD [ctE 43 [bC p, aH s, Iv n, VV 5 m, VV vk vn, Iv rg] (.tup [aH X, bI L, Iv 0]) hT, ctE 41 [bC p, aH s, Iv n] (Iv 0) hA, cY, aU, cD, jS, ctE 37 [bC p, aH s, Iv n] (cV e0) hAt, ctE 45 [bC p, aH s, Iv n, Iv m, VV vk vn, Iv rg, cV e0] (.tup [aH X, bI L, Bv true]) hD, ctE 38 [bI L, bI L] (Bv true) hEv2] Tryz.func10 Tryz.ntmps10 Tryz.results10 ?_
 refine goR ?_
 refine fzB 6 ?_
 refine fzB 7 ?_
 refine fzB 9 ?_
 refine fzB 10 ?_
 (any_goals refine go lv10 0 ?_)
 repeat' (first | (refine Br.go (fun h h' => ?_) (fun h h' => ?_)) | (refine Br.mk (fun h => ?_) (fun h => ?_)))
 all_goals (try simp only [go_sem])
theorem Fy (p : aI) (s : aC) (th : Int) (gv v : Int × Int) (rg : Int) (hw : Pwf p) (hs : Swf s) (hrg : kG s) : FC Cx 10 [bC p, aH s, Iv th, VV gv.1 gv.2, VV v.1 v.2, Iv rg] [] (Bv true) [] := by
 by_cases ha : askE p s th = 0
 case neg => exact Bk p s th gv v rg hw hs hrg ha
 obtain ⟨n, t, f, h⟩ := aLw ha
 by_cases hy : resE s t f gv v rg = 0
 case neg => exact Ea p s th n t f gv v rg hw hs hrg ha h hy
 obtain ⟨m, c, rfl, hR⟩ := Vh hy
 by_cases h2 : c.num = 2
 ·exact zK p s th n t f m c v rg hw hs hrg ha h hR h2
 have hRt := (kX hw h).right
 obtain ⟨hv, hn, _, _⟩ := Jg hRt.heap (List.mem_of_getElem? hR.at') hR.kind
 have h0 : c.num = 0 := by have := hR.num; omega
 obtain ⟨f0, hcf, hG⟩ := Kv hw hRt (List.mem_of_getElem? hR.at') hR.kind h0
 exact Dn p s th n t f m c f0 v rg hw hs hrg ha h hR h2 hv hcf hG
end Go.Proofs.YtbhnmolmkembdaaGreatDoor
