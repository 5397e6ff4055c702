/- Throw: what it answers. No condition: the contract of the program's function. -/
import Derived.Test.YtbhnmolmkembdaaGreatDoorV7
namespace Go.Proofs.YtbhnmolmkembdaaGreatDoor
set_option linter.unusedVariables false
set_option linter.unusedSimpArgs false
set_option maxHeartbeats 10000000
open Go
set_option maxRecDepth 10000
noncomputable def throwE (p : ProgT) (s : StateT) (th : Int) (v : Int × Int) : Int :=
 if faultS p s ≠ 0 then faultS p s else if th < 0 ∨ (s.threads.length : Int) ≤ th then 5 else if (s.threads.getD th.toNat thread0).frames.length = 0 then 8 else if fitsF s v = false then 1 else 0
theorem throw_no (p : ProgT) (s : StateT) (th : Int) (v : Int × Int) (hw : Pwf p) (hs : Swf s) (h : throwE p s th v ≠ 0) : FC Cx 33 [progV p, stateV s, Iv th, VV v.1 v.2] [] (.tup [stateV emptyS, eventsV [], Iv (throwE p s th v)]) [] := by
 refine FC_nil3 1 (xs := [.v (.slice none 0 0), .v (.slice none 0 0), .v (.slice none 0 0), .v (.slice none 0 0), .v (.slice none 0 0), .v (.slice none 0 0), .v (.int .i64 0), .v (.int .i64 0)]) (ys := stateR emptyS) ?_ (by simp [rowB, nilB, nilX, emptyS])
 have l1 : (s.threads.map threadR).length = s.threads.length := List.length_map ..
 obtain ⟨vk, vn⟩ := v
 dsimp only
 unfold throwE at h ⊢
 by_cases hf : faultS p s = 0
 case neg =>
  rw [if_pos hf]
  have d0 : decide (faultS p s = 0) = false := by simpa using hf
  clear hf h
  refine FCf_of [ct_stFault', ct_Fits'] Tryz.func33 rfl Tryz.ntmps33 (by simp) Tryz.results33 rfl ?_
  refine rnst ?_
  refine goR ?_
  refine fzB 4 ?_
  refine fzB 7 ?_
  (any_goals refine go lv33 0 ?_)
  all_goals (try simp only [go_sem])
 rw [if_neg (by simpa using hf)] at h ⊢
 have d0 : decide (faultS p s = 0) = true := by simpa using hf
 by_cases h0 : th < 0 ∨ (s.threads.length : Int) ≤ th
 ·rw [if_pos h0]
  have d1 : (decide (th < 0) || decide ((s.threads.length : Int) ≤ th)) = true := by simpa using h0
  by_cases h1 : th < 0
  ·have d2 : decide (th < 0) = true := by simpa using h1
   clear hf h h0 h1 d1
   refine FCf_of [ct_stFault', ct_Fits'] Tryz.func33 rfl Tryz.ntmps33 (by simp) Tryz.results33 rfl ?_
   refine rnst ?_
   refine goR ?_
   refine fzB 4 ?_
   refine fzB 7 ?_
   (any_goals refine go lv33 0 ?_)
   all_goals (try simp only [go_sem])
  ·have d2 : decide (th < 0) = false := by simpa using h1
   have d3 : decide ((s.threads.length : Int) ≤ th) = true := by rw [decide_eq_true_eq]; omega
   clear hf h h0 h1 d1
   refine FCf_of [ct_stFault', ct_Fits'] Tryz.func33 rfl Tryz.ntmps33 (by simp) Tryz.results33 rfl ?_
   refine rnst ?_
   refine goR ?_
   refine fzB 4 ?_
   refine fzB 7 ?_
   (any_goals refine go lv33 0 ?_)
   all_goals (try simp only [go_sem])
 rw [if_neg h0] at h ⊢
 have d2 : decide (th < 0) = false := by rw [decide_eq_false_iff_not]; omega
 have d3 : decide ((s.threads.length : Int) ≤ th) = false := by rw [decide_eq_false_iff_not]; omega
 have h00 : 0 ≤ th := by omega
 have h01 : th < (s.threads.length : Int) := by omega
 obtain ⟨t, ht⟩ : ∃ t, s.threads[th.toNat]? = some t := ⟨s.threads[th.toNat]'(by omega), List.getElem?_eq_getElem _⟩
 have hg := getD_map threadR ht ([] : List RV)
 have et : s.threads.getD th.toNat thread0 = t := by rw [List.getD_eq_getElem?_getD, ht]; rfl
 have lf : (t.frames.map frameR).length = t.frames.length := List.length_map ..
 rw [et] at h ⊢
 by_cases h2 : t.frames.length = 0
 ·rw [if_pos h2]
  have d4 : decide ((t.frames.length : Int) = 0) = true := by rw [decide_eq_true_eq]; omega
  clear hf h h0 h2 et
  refine FCf_of [ct_stFault', ct_Fits'] Tryz.func33 rfl Tryz.ntmps33 (by simp) Tryz.results33 rfl ?_
  refine rnst ?_
  refine goR ?_
  refine fzB 4 ?_
  refine fzB 7 ?_
  (any_goals refine go lv33 0 ?_)
  all_goals (try simp only [go_sem])
 rw [if_neg h2] at h ⊢
 have d4 : decide ((t.frames.length : Int) = 0) = false := by rw [decide_eq_false_iff_not]; omega
 by_cases h3 : fitsF s (vk, vn) = false
 ·rw [if_pos h3]
  clear hf h h0 h2 et
  refine FCf_of [ct_stFault', ct_Fits'] Tryz.func33 rfl Tryz.ntmps33 (by simp) Tryz.results33 rfl ?_
  refine rnst ?_
  refine goR ?_
  refine fzB 4 ?_
  refine fzB 7 ?_
  (any_goals refine go lv33 0 ?_)
  all_goals (try simp only [go_sem])
 ·rw [if_neg h3] at h; exact absurd rfl h
theorem throw_yes (p : ProgT) (s : StateT) (th : Nat) (t : ThreadT) (f : FrameT) (v : Int × Int) (hw : Pwf p) (hs : Swf s) (hf : faultS p s = 0) (ht : s.threads[th]? = some t) (hfr : t.frames[t.frames.length - 1]? = some f) (hv : fitsF s v = true) :
  FC Cx 33 [progV p, stateV s, Iv th, VV v.1 v.2] [] (.tup [stateV (thrS s th t v), eventsV (thrE p s th t f v), Iv 0]) [] := by
 have hR := rightS_iff.1 hf
 obtain ⟨hm, hth⟩ := right_small hw hR
 obtain ⟨h30, hfs⟩ := hth t (List.mem_of_getElem? ht)
 have hk := (List.getElem?_eq_some_iff.1 ht).1
 have hfk := (List.getElem?_eq_some_iff.1 hfr).1
 have l1 : (s.threads.map threadR).length = s.threads.length := List.length_map ..
 have lf : (t.frames.map frameR).length = t.frames.length := List.length_map ..
 have hg := getD_map threadR ht ([] : List RV)
 have d0 : decide (faultS p s = 0) = true := by simpa using hf
 have d2 : decide ((th : Int) < 0) = false := by rw [decide_eq_false_iff_not]; omega
 have d3 : decide ((s.threads.length : Int) ≤ (th : Int)) = false := by rw [decide_eq_false_iff_not]; omega
 have d4 : decide ((t.frames.length : Int) = 0) = false := by rw [decide_eq_false_iff_not]; omega
 have t1 : Int.toNat (th : Int) = th := by omega
 have hgo := check_go hw hR.prog
 have hfF : frameF p s f = true := by
  obtain ⟨low, ho, _⟩ := stackR_at (hR.threads t (List.mem_of_getElem? ht)).2 hfr
  exact on_frame ho
 have hA : ∀ y, y = [.r (.rp (progR p)), stateP s, Iv th] → CallOk Cx 86 y (eventA (atF p s th f)) := fun y hy => by
  subst hy; exact CallOk_of (uAt_c p s th t f hgo ht hfr hfF (by omega)) en86 rfl rfl
 have q1 := copy_Q s hm 300 301 rfl
 have q2 := do_Q s th t v (atF p s th f) ht (by omega) hm.cells hfs 5 300 301 1 1 1 rfl
 have en1 : Enters Cx.P 84 := en84
 have en2 : Enters Cx.P 85 := en85
 have hE : thrE p s th t f v = [{ atF p s th f with kind := 7, val := v }, { atF p s th f with kind := if (unwF v t.frames t.frames.length s.cells).2.2 = true then 8 else 17, val := v }] := rfl
 rw [← hE] at q2
 have eS : stateV (thrS s th t v) = .agg [cellsV (thrS s th t v).cells, valsV s.shapes, strsV s.texts, threadsV (thrS s th t v).threads, endsV s.ends, valsV s.said, Iv s.asked, Iv s.steps] := rfl
 rw [eS]
 generalize thrE p s th t f v = L at *
 generalize (thrS s th t v).cells = cs at *
 generalize (thrS s th t v).threads = ts at *
 obtain ⟨vk, vn⟩ := v
 dsimp only at *
 clear hE eS hfs hfF hR hth hfr hm hgo hf
 generalize atF p s th f = e0 at *
 refine FCf_of [ct_stFault', ct_Fits', ctN 84 [(7, 300), (16, 301)] [stateV s] (.agg [.os 7 1, valsV s.shapes, strsV s.texts, .os 16 1, endsV s.ends, valsV s.said, Iv s.asked, Iv s.steps]) [ownC 7 1 s.cells, ownT 16 1 s.threads] en1 q1, ctE 86 [.r (.rp (progR p)), stateP s, Iv th] (eventA e0) hA, ctQ 85 [(0, 5, 1), (1, 300, 1), (2, 301, 1)] [.os 0 0, Iv th, VV vk vn, eventA e0] [boxS s 0 0 1 0 2 0, ownC 1 0 s.cells, ownT 2 0 s.threads] (eventsV L) [boxS s 0 0 1 0 2 0, ownC 1 0 cs, ownT 2 0 ts] en2 q2] Tryz.func33 rfl Tryz.ntmps33 (by simp) Tryz.results33 rfl ?_
 refine rnst ?_
 refine goR ?_
 refine fzB 4 ?_
 refine fzB 7 ?_
 (any_goals refine goN lv33 0 ?_)
 (apply Rn_frzX 300 (cs.map cellR); (exact rfl); (exact rowsEB_map cellEB2); (exact rfl); (intro K0; (try simp only [go_sem]); exact ⟨id⟩))
 (apply Rn_frzX 301 (ts.map threadR); (exact rfl); (exact rowsEB_map threadEB2); (exact rfl); (intro K0; (try simp only [go_sem]); exact ⟨id⟩))
 (any_goals refine go lv33 0 ?_)
 all_goals (try simp only [go_sem])
theorem threadRight_c (p : ProgT) (s : StateT) (t : ThreadT) (hp : Pgo p) (hfs : ∀ f ∈ t.frames, Gwf f) (hl : t.frames.length ≤ 30) (hl2 : s.threads.length ≤ 9223372036854775807) (hsl : s.cells.length ≤ 9223372036854775807) :
  FC Cx 82 [progV p, stateV s, threadA t] [] (Bv (threadD p s t)) [] := by
 have l0 : (t.frames.map frameR).length = t.frames.length := List.length_map ..
 have l1 : (s.threads.map threadR).length = s.threads.length := List.length_map ..
 have l2 : (p.fns.map fnR).length = p.fns.length := List.length_map ..
 have lc : (s.cells.map cellR).length = s.cells.length := List.length_map ..
 unfold threadD
 obtain ⟨fs, state, on, ⟨vk, vn⟩⟩ := t
 dsimp only at *
 have w1 : IntKind.i64.wrap ((s.threads.length : Int) - 1) = (s.threads.length : Int) - 1 := by rw [wrap_id] <;> omega
 have hlen : decide ((0 : Int) < (fs.length : Int)) = !decide ((fs.length : Int) = 0) := by
  rw [← decide_not, decide_eq_decide]; omega
 rw [headF_eq]
 obtain ⟨o3, r1⟩ : ∃ c, decide (state = 3) = c := ⟨_, rfl⟩
 obtain ⟨o4, r2⟩ : ∃ c, decide (state = 4) = c := ⟨_, rfl⟩
 obtain ⟨e, r3⟩ : ∃ c, decide ((fs.length : Int) = 0) = c := ⟨_, rfl⟩
 obtain ⟨v1, r4⟩ : ∃ c, decide (vk = 0) = c := ⟨_, rfl⟩
 obtain ⟨v2, r5⟩ : ∃ c, decide (vn = 0) = c := ⟨_, rfl⟩
 obtain ⟨ff, r6⟩ : ∃ c, fitsF s (vk, vn) = c := ⟨_, rfl⟩
 obtain ⟨w, r7⟩ : ∃ c, decide (0 ≤ state ∧ state ≤ 4) = c := ⟨_, rfl⟩
 obtain ⟨sw, r8⟩ : ∃ c, (if state = 1 then refF s (5, on) 6 else if state = 2 then decide (0 ≤ on ∧ on ≤ (s.threads.length : Int) - 1) else decide (on = 0)) = c := ⟨_, rfl⟩
 by_cases hno : (((o3 || o4) == e) && ((o3 || o4) || (v1 && v2)) && ff && w) = false
 ·have := threadRight_no p s ⟨fs, state, on, (vk, vn)⟩ hp hfs hl hl2 hsl (by dsimp only; rw [r1, r2, r3, r4, r5, r6, r7]; exact hno)
  rw [r1, r2, r3, r4, r5, r6, r7, hno]
  exact this
 rw [r3] at hlen
 rw [Bool.not_eq_false] at hno
 rw [r1, r2, r3, r4, r5, r6, r7, r8, hno]
 simp only [Bool.and_eq_true] at hno
 obtain ⟨⟨⟨hoe, hov⟩, rfl⟩, rfl⟩ := hno
 rw [Bool.true_and]
 refine FCp_st [ct_rBetween, ct_rkind', ct_rfits', ct_frameRight'] Tryz.func82 Tryz.ntmps82 Tryz.results82 ?_
 refine goR ?_
 refine fzB 3 ?_
 refine fzB 4 ?_
 refine fzB 5 ?_
 refine Rn_seq ?_
 refine Rn_cutX (st' := ⟨137, [(3, .r (.rp (progR p))), (4, stateP s), (5, .r (.rp (threadR ⟨fs, state, on, (vk, vn)⟩))), (7, Bv (o3 || o4))], [(3, 2, .gone), (4, 2, .gone), (5, 2, .gone)]⟩) True rfl ?_ fun _ => ?_
 ·cases o3 <;> cases o4
  all_goals
   (any_goals refine go lv82 0 ?_)
   all_goals (try simp only [go_sem])
   exact Lx.le Le_subA
 refine Rn_seq ?_
 refine Rn_cutX (st' := ⟨137, [(3, .r (.rp (progR p))), (4, stateP s), (5, .r (.rp (threadR ⟨fs, state, on, (vk, vn)⟩))), (48, Bv false)], [(3, 2, .gone), (4, 2, .gone), (5, 2, .gone)]⟩) True rfl ?_ fun _ => ?_
 ·cases o3 <;> cases o4 <;> cases e <;> first | cases hoe | skip
  all_goals cases v1 <;> cases v2 <;> first | cases hov | skip
  all_goals
   (any_goals refine go lv82 0 ?_)
   all_goals (try simp only [go_sem])
   exact Lx.le Le_subA
 clear hoe hov r1 r2 r3 r4 r5 r6 hlen
 refine Rn_seq ?_
 refine Rn_cutX (st' := ⟨137, [(3, .r (.rp (progR p))), (4, stateP s), (5, .r (.rp (threadR ⟨fs, state, on, (vk, vn)⟩)))], [(3, 2, .gone), (4, 2, .gone), (5, 2, .gone)]⟩) (sw = true) rfl ?_ fun hsw => ?_
 ·by_cases s1 : state = 1
  ·subst s1
   rw [if_pos rfl] at r8
   cases sw with
   | false =>
    rw [Bool.false_and]
    (any_goals refine go lv82 0 ?_)
    all_goals (try simp only [go_sem])
   | true =>
    (any_goals refine go lv82 0 ?_)
    all_goals (try simp only [go_sem])
    exact Lx.le Le_subA
  rw [if_neg s1] at r8
  have d1 : decide (state = 1) = false := by simpa using s1
  by_cases s2 : state = 2
  ·subst s2
   rw [if_pos rfl] at r8
   cases sw with
   | false =>
    rw [Bool.false_and]
    (any_goals refine go lv82 0 ?_)
    all_goals (try simp only [go_sem])
   | true =>
    (any_goals refine go lv82 0 ?_)
    all_goals (try simp only [go_sem])
    exact Lx.le Le_subA
  rw [if_neg s2] at r8
  have d2 : decide (state = 2) = false := by simpa using s2
  cases sw with
  | false =>
   rw [Bool.false_and]
   (any_goals refine go lv82 0 ?_)
   all_goals (try simp only [go_sem])
  | true =>
   (any_goals refine go lv82 0 ?_)
   all_goals (try simp only [go_sem])
   exact Lx.le Le_subA
 subst hsw
 rw [Bool.true_and]
 clear r8 r7
 (any_goals refine go lv82 0 ?_)
 have h60 := hp.fns
 refine Rn_loopS (fun x : Nat × Nat => x.1 ≤ fs.length ∧ stackD p s 0 0 fs = stackD p s x.1 (lowAt fs x.1) (fs.drop x.1)) (fun x => ⟨137, [(3, .r (.rp (progR p))), (4, stateP s), (5, .r (.rp (threadR ⟨fs, state, on, (vk, vn)⟩))), (73, framesV fs), (74, Iv fs.length), (75, Iv x.1)], [(3, 2, .gone), (4, 2, .gone), (5, 2, .gone), (9, x.2, .gone)]⟩) (fun x => fs.length - x.1) (0, 0) ⟨Nat.zero_le _, rfl⟩ ?_
 rintro ⟨i, u⟩ ⟨hi, hG⟩
 dsimp only at hi hG ⊢
 by_cases hlt : i < fs.length
 case neg =>
  obtain rfl : i = fs.length := by omega
  have e1 := each_end fs
  rw [List.drop_length] at hG
  have hG' : stackD p s 0 0 fs = true := hG
  rw [hG']
  clear hG hG'
  (any_goals refine go lv82 0 ?_)
  all_goals (try simp only [go_sem])
 obtain ⟨f, hx, hg, h1, h2, hw⟩ := each_at frameR fs hlt (by omega)
 have hwf := hfs f (List.mem_of_getElem? hx)
 have hd : fs.drop i = f :: fs.drop (i + 1) := by rw [← List.getElem_cons_drop hlt]; congr 1; exact (List.getElem?_eq_some_iff.1 hx).2
 have hnx : lowAt fs (i + 1) = f.regs.length := by
  unfold lowAt
  rw [if_neg (by omega), Nat.add_sub_cancel, List.getD_eq_getElem?_getD, hx]; rfl
 rw [hd] at hG
 have hst : stackD p s i (lowAt fs i) (f :: fs.drop (i + 1)) = (frameF p s f && decide (-1 ≤ f.tov ∧ f.tov ≤ lowAt fs i - 1) && ((p.fns.getD f.fn.toNat fn0).gen == !decide (f.gen = -1)) && (!(p.fns.getD f.fn.toNat fn0).gen || goesF s i f) && stackD p s (i + 1) f.regs.length (fs.drop (i + 1))) := rfl
 rw [hst] at hG
 clear hst hd
 obtain ⟨fn, pc, tov, gen, ⟨sk, sn⟩, regs, tries⟩ := f
 dsimp only at hG hnx
 have lr : (regs.map valR).length = regs.length := List.length_map ..
 have eR : Int.toNat ((i : Int) - 1) = i - 1 := by omega
 cases hfr : frameF p s ⟨fn, pc, tov, gen, (sk, sn), regs, tries⟩ with
 | false =>
  rw [hfr] at hG
  simp only [Bool.false_and] at hG
  rw [hG]
  clear hG hnx
  (any_goals refine go lv82 0 ?_)
  all_goals (try simp only [go_sem])
 | true =>
 obtain ⟨⟨f1, f2⟩, _, _⟩ := frame_fn hfr
 dsimp only at f1 f2
 obtain ⟨F, hF⟩ : ∃ F, p.fns[fn.toNat]? = some F := ⟨p.fns[fn.toNat]'(by omega), List.getElem?_eq_getElem _⟩
 have gF := getD_map fnR hF ([] : List RV)
 have eF : p.fns.getD fn.toNat fn0 = F := by rw [List.getD_eq_getElem?_getD, hF]; rfl
 obtain ⟨b4, h4⟩ : ∃ b, F.gen = b := ⟨_, rfl⟩
 obtain ⟨b1, k1⟩ : ∃ b, decide (-1 ≤ tov ∧ tov ≤ lowAt fs i - 1) = b := ⟨_, rfl⟩
 obtain ⟨b2, k2⟩ : ∃ b, decide (gen = -1) = b := ⟨_, rfl⟩
 rw [hfr, k1, eF, h4, k2] at hG
 simp only [Bool.true_and] at hG
 clear eF
 by_cases i0 : i = 0
 ·have e0 : decide ((0 : Int) < (i : Int)) = false := by rw [decide_eq_false_iff_not]; omega
  have e2 : decide ((i : Int) = 0) = true := by rw [decide_eq_true_eq]; omega
  have hgo : goesF s i ⟨fn, pc, tov, gen, (sk, sn), regs, tries⟩ = false := by unfold goesF; rw [decide_eq_true i0]; rfl
  have k1' : decide (-1 ≤ tov ∧ tov ≤ -1) = b1 := by rw [← k1]; unfold lowAt; rw [if_pos i0]; rfl
  clear i0 k1
  cases b1 with
  | false =>
   simp only [Bool.false_and] at hG
   rw [hG]
   clear hG hnx
   (any_goals refine go lv82 0 ?_)
   all_goals (try simp only [go_sem])
  | true =>
  cases b4 <;> cases b2
  ·replace hG := hG.trans (show _ = false by simp)
   rw [hG]
   clear hG hnx
   (any_goals refine go lv82 0 ?_)
   all_goals (try simp only [go_sem])
  ·simp only [Bool.true_and, Bool.not_false, Bool.not_true, Bool.true_or, beq_self_eq_true] at hG
   (any_goals refine go lv82 0 ?_)
   refine ⟨(i + 1, u + 9), ⟨by dsimp only; omega, by dsimp only; rw [hG, hnx]⟩, by dsimp only; omega, ?_⟩
   dsimp only
   exact Le_subA
  ·rw [hgo] at hG
   simp only [Bool.true_and, Bool.not_false, Bool.not_true, Bool.or_self, Bool.false_and, beq_self_eq_true] at hG
   clear hgo
   rw [hG]
   clear hG hnx
   (any_goals refine go lv82 0 ?_)
   all_goals (try simp only [go_sem])
  ·replace hG := hG.trans (show _ = false by simp)
   rw [hG]
   clear hG hnx
   (any_goals refine go lv82 0 ?_)
   all_goals (try simp only [go_sem])
 ·have e0 : decide ((0 : Int) < (i : Int)) = true := by rw [decide_eq_true_eq]; omega
  have e2 : decide ((i : Int) = 0) = false := by rw [decide_eq_false_iff_not]; omega
  have w2 : IntKind.i64.wrap ((i : Int) - 1) = (i : Int) - 1 := by rw [wrap_id] <;> omega
  obtain ⟨f0, hf0⟩ : ∃ v, fs[i - 1]? = some v := ⟨fs[i - 1], List.getElem?_eq_getElem (by omega)⟩
  have hg0 := getD_map frameR hf0 ([] : List RV)
  have lr0 : (f0.regs.map valR).length = f0.regs.length := List.length_map ..
  have hwf0 := (hfs f0 (List.mem_of_getElem? hf0)).regs
  have w3 : IntKind.i64.wrap ((f0.regs.length : Int) - 1) = (f0.regs.length : Int) - 1 := by rw [wrap_id] <;> omega
  have i1 : 1 ≤ i := by omega
  have hgo : goesF s i ⟨fn, pc, tov, gen, (sk, sn), regs, tries⟩ = (refF s (5, gen) 5 && decide ((s.cells.getD gen.toNat cell0).num = 1)) := by unfold goesF; rw [decide_eq_false i0]; rfl
  have k1' : decide (-1 ≤ tov ∧ tov ≤ (f0.regs.length : Int) - 1) = b1 := by rw [← k1]; unfold lowAt; rw [if_neg i0, List.getD_eq_getElem?_getD, hf0]; rfl
  clear i0 k1
  cases b1 with
  | false =>
   simp only [Bool.false_and] at hG
   rw [hG]
   clear hG hnx
   (any_goals refine go lv82 0 ?_)
   all_goals (try simp only [go_sem])
  | true =>
  cases b4 <;> cases b2
  ·replace hG := hG.trans (show _ = false by simp)
   rw [hG]
   clear hG hnx
   (any_goals refine go lv82 0 ?_)
   all_goals (try simp only [go_sem])
  ·simp only [Bool.true_and, Bool.not_false, Bool.not_true, Bool.true_or, beq_self_eq_true] at hG
   (any_goals refine go lv82 0 ?_)
   refine ⟨(i + 1, u + 9), ⟨by dsimp only; omega, by dsimp only; rw [hG, hnx]⟩, by dsimp only; omega, ?_⟩
   dsimp only
   exact Le_subA
  ·simp only [Bool.true_and, Bool.not_false, Bool.not_true, Bool.false_or, beq_self_eq_true] at hG
   rw [hgo] at hG
   clear hgo
   cases hr : refF s (5, gen) 5 with
   | false =>
    rw [hr] at hG
    simp only [Bool.false_and] at hG
    rw [hG]
    clear hG hnx
    (any_goals refine go lv82 0 ?_)
    all_goals (try simp only [go_sem])
   | true =>
   have hr2 := ref_on hr
   obtain ⟨n0, n1, _⟩ := hr2
   obtain ⟨c, hc⟩ : ∃ c, s.cells[gen.toNat]? = some c := ⟨s.cells[gen.toNat]'(by omega), List.getElem?_eq_getElem _⟩
   have gC := getD_map cellR hc ([] : List RV)
   rw [hr, kind_at hc] at hG
   cases hnum : decide (c.num = 1) with
   | false =>
    rw [hnum] at hG
    simp only [Bool.and_false, Bool.false_and] at hG
    rw [hG]
    clear hG hnx
    (any_goals refine go lv82 0 ?_)
    all_goals (try simp only [go_sem])
   | true =>
    rw [hnum] at hG
    simp only [Bool.true_and] at hG
    (any_goals refine go lv82 0 ?_)
    refine ⟨(i + 1, u + 9), ⟨by dsimp only; omega, by dsimp only; rw [hG, hnx]⟩, by dsimp only; omega, ?_⟩
    dsimp only
    exact Le_subA
  ·replace hG := hG.trans (show _ = false by simp)
   rw [hG]
   clear hG hnx
   (any_goals refine go lv82 0 ?_)
   all_goals (try simp only [go_sem])
theorem nodup_succ {l : List Int} {k : Nat} {g : Int} (h : l[k]? = some g) : decide (l.take (k + 1)).Nodup = (decide (l.take k).Nodup && (l.take k).all fun u => !decide (g = u)) := by
 rw [List.take_add_one, h, Bool.eq_iff_iff]
 simp only [Option.toList, Bool.and_eq_true, decide_eq_true_eq, List.all_eq_true, Bool.not_eq_true', decide_eq_false_iff_not, List.nodup_append]
 constructor
 ·rintro ⟨h1, _, h3⟩
  exact ⟨h1, fun u hu he => h3 u hu g (by simp) he.symm⟩
 ·rintro ⟨h1, h2⟩
  refine ⟨h1, by simp, fun a ha b hb => ?_⟩
  simp at hb; subst hb
  exact fun he => h2 a ha he.symm
theorem take_succ_eq {l m : List ByteArray} {k : Nat} {x y : ByteArray} (hx : l[k]? = some x) (hy : m[k]? = some y) : decide (l.take (k + 1) = m.take (k + 1)) = (decide (l.take k = m.take k) && decide (x = y)) := by
 rw [List.take_add_one, hx, List.take_add_one, hy, Bool.eq_iff_iff, Bool.and_eq_true]
 simp only [Option.toList]
 have e : (l.take k).length = (m.take k).length := by
  have h1 := (List.getElem?_eq_some_iff.1 hx).1
  have h2 := (List.getElem?_eq_some_iff.1 hy).1
  rw [List.length_take, List.length_take]; omega
 constructor
 ·intro h
  have := List.append_inj (of_decide_eq_true h) e
  exact ⟨decide_eq_true this.1, decide_eq_true (by simpa using this.2)⟩
 ·rintro ⟨h1, h2⟩
  refine decide_eq_true ?_
  rw [of_decide_eq_true h1, of_decide_eq_true h2]
theorem heap_cells {s : StateT} (h : checkS s = 0) {c : CellT} (hc : c ∈ s.cells) : (c.kind = 4 → 0 ≤ c.num) ∧ (c.kind = 5 → c.num = 0 → c.frames.length = 1) := by
 have := (checkS_iff.1 h).cells c hc
 unfold cellF at this
 simp only [Bool.and_eq_true, decide_eq_true_eq] at this
 obtain ⟨⟨⟨⟨⟨_, a2⟩, _⟩, a4⟩, _⟩, _⟩ := this
 refine ⟨fun k4 => ?_, fun k5 n0 => ?_⟩
 ·unfold numF at a2
  rw [if_neg (by rw [k4]; decide), if_pos k4] at a2
  simpa using a2
 ·have : framesN c = 1 := if_pos ⟨k5, n0⟩
  rw [this] at a4; omega
theorem stateFault_no (p : ProgT) (s : StateT) (hw : Pwf p) (hs : Swf s) (hrg : RegsOk s) (h : checkF p ≠ 0 ∨ checkS s ≠ 0) : FC Cx 31 [progV p, stateV s] [] (Iv (faultS p s)) [] := by
 rw [faultS_D]
 by_cases hp : checkF p = 0
 case neg =>
  rw [if_pos hp]
  have d0 : decide (checkF p = 0) = false := by simpa using hp
  clear hp h
  refine FCp_st [ct_fault', ct_heapFault'] Tryz.func31 Tryz.ntmps31 Tryz.results31 ?_
  refine goR ?_
  refine fzB 2 ?_
  refine fzB 3 ?_
  (any_goals refine go lv31 0 ?_)
  all_goals (try simp only [go_sem])
 have hh : checkS s ≠ 0 := h.resolve_left (by simpa using hp)
 rw [if_neg (by simpa using hp), if_pos hh]
 have d0 : decide (checkF p = 0) = true := by simpa using hp
 have d1 : decide (checkS s = 0) = false := by simpa using hh
 clear hp hh h
 refine FCp_st [ct_fault', ct_heapFault'] Tryz.func31 Tryz.ntmps31 Tryz.results31 ?_
 refine goR ?_
 refine fzB 2 ?_
 refine fzB 3 ?_
 (any_goals refine go lv31 0 ?_)
 all_goals (try simp only [go_sem])
theorem stateFault_c (p : ProgT) (s : StateT) (hw : Pwf p) (hs : Swf s) (hrg : RegsOk s) : FC Cx 31 [progV p, stateV s] [] (Iv (faultS p s)) [] := by
 by_cases hp : checkF p = 0
 case neg => exact stateFault_no p s hw hs hrg (.inl hp)
 by_cases hh : checkS s = 0
 case neg => exact stateFault_no p s hw hs hrg (.inr hh)
 have hgo := check_go hw hp
 have hcs := fun (c : CellT) (hc : c ∈ s.cells) => heap_cells hh hc
 obtain ⟨s1, s2, s3, s4, s5, s6⟩ := hs.len
 have p3 := hw.sz.texts
 have h60 := hgo.fns
 have l1 : (s.cells.map cellR).length = s.cells.length := List.length_map ..
 have l2 : (s.texts.map strR).length = s.texts.length := List.length_map ..
 have l3 : (s.threads.map threadR).length = s.threads.length := List.length_map ..
 have l4 : (p.texts.map strR).length = p.texts.length := List.length_map ..
 have l5 : (p.fns.map fnR).length = p.fns.length := List.length_map ..
 rw [faultS_D, if_neg (by simpa using hp), if_neg (by simpa using hh)]
 have d0 : decide (checkF p = 0) = true := by simpa using hp
 have d1 : decide (checkS s = 0) = true := by simpa using hh
 refine FCp_st [ct_fault', ct_heapFault', ct_rBetween] Tryz.func31 Tryz.ntmps31 Tryz.results31 ?_
 refine goR ?_
 refine fzB 2 ?_
 refine fzB 3 ?_
 (any_goals refine go lv31 0 ?_)
 clear d0 d1
 -- threads that are too large
 generalize hA0 : decide ((5 : Int) < (s.threads.length : Int)) = A0
 refine Rn_loopA [2, 3, 7, 38, 39, 40] (fun x : Nat × Nat => x.1 ≤ s.threads.length) (fun x => let k := x.1; let u := x.2; ⟨245, [(2, .r (.rp (progR p))), (3, stateP s), (7, Bv (A0 || (s.threads.take k).any fun t => decide ((30 : Int) < (t.frames.length : Int)))), (38, threadsV s.threads), (39, Iv s.threads.length), (40, Iv k)], [(2, 2, .gone), (3, 2, .gone), (9, u, .gone), (19, u, .gone), (20, u, .gone), (22, u, .gone)]⟩) (fun x => s.threads.length - x.1) (0, 0) (Nat.zero_le _) ?_ rfl (by simp [trimT, memN, hA0])
 rintro ⟨k, u⟩ hk
 dsimp only at hk ⊢
 by_cases hlt : k < s.threads.length
 case pos =>
  obtain ⟨t, hx, hg, h1, h2, hw'⟩ := each_at threadR s.threads hlt (by omega)
  have lf : (t.frames.map frameR).length = t.frames.length := List.length_map ..
  have eb := any_take (q := fun t : ThreadT => decide ((30 : Int) < (t.frames.length : Int))) hx
  generalize (s.threads.take k).any (fun t => decide ((30 : Int) < (t.frames.length : Int))) = T at *
  (any_goals refine go lv31 0 ?_)
  refine ⟨(k + 1, u + 9), by dsimp only; omega, by dsimp only; omega, ?_⟩
  dsimp only
  rw [eb, ← Bool.or_assoc]
  exact Le_keepA [2, 3, 7, 38, 39, 40]
 obtain rfl : k = s.threads.length := by omega
 have e1 := each_end s.threads
 have c2 : (A0 || s.threads.any fun t => decide ((30 : Int) < (t.frames.length : Int))) = manyS s := by rw [← hA0]; rfl
 rw [List.take_length, c2]
 clear hlt hk c2 hA0
 cases hL : manyS s with
 | true =>
  rw [if_pos rfl]
  (any_goals refine go lv31 0 ?_)
  all_goals (try simp only [go_sem])
 | false =>
 rw [if_neg (by simp)]
 have hfew : s.threads.length ≤ 5 ∧ ∀ t ∈ s.threads, t.frames.length ≤ 30 := by
  simp only [manyS, Bool.or_eq_false_iff, decide_eq_false_iff_not, List.any_eq_false, decide_eq_true_eq] at hL
  exact ⟨by omega, fun t ht => by have := hL.2 t ht; omega⟩
 clear hL
 (any_goals refine go lv31 0 ?_)
 clear e1
 -- its texts begin with the program's
 generalize hB0 : (decide ((0 : Int) < (s.threads.length : Int)) && decide ((p.texts.length : Int) ≤ (s.texts.length : Int)) && decide (0 ≤ s.steps ∧ s.steps ≤ 1000000000) && decide (0 ≤ s.asked ∧ s.asked ≤ 1000000000)) = B0
 refine Rn_loopA [2, 3, 10, 77, 78, 79] (fun k : Nat => k ≤ p.texts.length) (fun k => ⟨245, [(2, .r (.rp (progR p))), (3, stateP s), (10, Bv (B0 && decide (s.texts.take k = p.texts.take k))), (77, strsV p.texts), (78, Iv p.texts.length), (79, Iv k)], [(2, 2, .gone), (3, 2, .gone), (9, u, .gone), (19, u, .gone), (20, u, .gone), (22, u, .gone)]⟩) (fun k => p.texts.length - k) 0 (Nat.zero_le _) ?_ rfl (by simp [trimT, memN, hB0])
 intro k hk
 by_cases hlt : k < p.texts.length
 case pos =>
  obtain ⟨t, hx, hg, h1, h2, hw'⟩ := each_at strR p.texts hlt (by omega)
  cases hq : (B0 && decide (s.texts.take k = p.texts.take k)) with
  | false =>
   have hn : (B0 && decide (s.texts.take (k + 1) = p.texts.take (k + 1))) = false := by
    rw [Bool.eq_false_iff] at hq ⊢
    intro h
    rw [Bool.and_eq_true] at h
    have h2 := of_decide_eq_true h.2
    refine hq ?_
    rw [Bool.and_eq_true]
    refine ⟨h.1, decide_eq_true ?_⟩
    have := congrArg (List.take k) h2
    rwa [List.take_take, List.take_take, Nat.min_eq_left (by omega)] at this
   clear hq
   (any_goals refine go lv31 0 ?_)
   refine ⟨k + 1, by omega, by omega, ?_⟩
   rw [hn]
   exact Le_keepA [2, 3, 10, 77, 78, 79]
  | true =>
   rw [Bool.and_eq_true] at hq
   have hle : p.texts.length ≤ s.texts.length := by
    have h := hq.1
    rw [← hB0] at h
    simp only [Bool.and_eq_true, decide_eq_true_eq] at h
    omega
   obtain ⟨y, hy⟩ : ∃ y, s.texts[k]? = some y := ⟨s.texts[k]'(by omega), List.getElem?_eq_getElem _⟩
   have hgy := getD_map strR hy ([] : List RV)
   have hn : (B0 && decide (s.texts.take (k + 1) = p.texts.take (k + 1))) = decide (y = t) := by rw [take_succ_eq hy hx, hq.1, hq.2]; rfl
   clear hq
   (any_goals refine go lv31 0 ?_)
   refine ⟨k + 1, by omega, by omega, ?_⟩
   rw [hn]
   exact Le_keepA [2, 3, 10, 77, 78, 79]
 obtain rfl : k = p.texts.length := by omega
 have e1 := each_end p.texts
 have hP : (B0 && decide (s.texts.take p.texts.length = p.texts.take p.texts.length)) = preD p s := by
  rw [List.take_length, ← hB0]
  unfold preD
  have a1 : decide ((0 : Int) < (s.threads.length : Int)) = decide (0 < s.threads.length) := by rw [decide_eq_decide]; omega
  have a2 : decide ((p.texts.length : Int) ≤ (s.texts.length : Int)) = decide (p.texts.length ≤ s.texts.length) := by rw [decide_eq_decide]; omega
  rw [a1, a2]
 rw [hP]
 clear hlt hk hP hB0
 unfold rightD
 cases preD p s with
 | false =>
  simp only [Bool.false_and]
  (any_goals refine go lv31 0 ?_)
  all_goals (try simp only [go_sem])
 | true =>
 rw [Bool.true_and]
 obtain ⟨hf5, hf30⟩ := hfew
 have hgl := gensD_len hf30
 have hA : ∀ y, y = [stateV s] → CallOk Cx 79 y (intsV (gensD s.threads)) := fun y hy => by
  subst hy; exact CallOk_of (gensOf_c s hf5 hf30) en79 rfl rfl
 have lG : ((gensD s.threads).map intR).length = (gensD s.threads).length := List.length_map ..
 have hG150 : (gensD s.threads).length ≤ 150 := by omega
 have hT : ∀ t ∈ s.threads, ∀ y, y = [progV p, stateV s, threadA t] → CallOk Cx 82 y (Bv (threadD p s t)) := fun t ht y hy => by
  subst hy; exact CallOk_of (threadRight_c p s t hgo (hs.thread t ht).2 (hf30 t ht) (by omega) (by omega)) en82 rfl rfl
 have hD : ∀ x, cellD p s x = (heapF p s x.1 && (!(decide (x.1.kind = 5) && decide (x.1.num = 1)) || decide ((x.2 : Int) ∈ gensD s.threads))) := fun x => rfl
 generalize gensD s.threads = G at *
 refine Rn_T [ctE 79 [stateV s] (intsV G) hA] ?_
 (any_goals refine go lv31 0 ?_)
 clear e1
 -- no generator goes on twice
 refine Rn_loopA [2, 3, 10, 13, 99, 100, 101] (fun k : Nat => k ≤ G.length) (fun k => ⟨245, [(2, .r (.rp (progR p))), (3, stateP s), (10, Bv (decide (G.take k).Nodup)), (13, intsV G), (99, intsV G), (100, Iv G.length), (101, Iv k)], [(2, 2, .gone), (3, 2, .gone), (9, u, .gone), (19, u, .gone), (20, u, .gone), (22, u, .gone)]⟩) (fun k => G.length - k) 0 (Nat.zero_le _) ?_ rfl (by simp [trimT, memN])
 intro k hk
 by_cases hlt : k < G.length
 case pos =>
  obtain ⟨g, hx, hg, h1, h2, hw'⟩ := each_at intR G hlt (by omega)
  have hm : List.drop 0 (List.take k (G.map intR)) = (G.take k).map intR := by rw [List.map_take]; rfl
  have lm : ((G.take k).map intR).length = k := by simp; omega
  have hn := nodup_succ hx
  generalize decide (G.take k).Nodup = X at *
  (any_goals refine go lv31 0 ?_)
  refine Rn_loopA [2, 3, 10, 13, 99, 100, 101, 15, 108, 109, 110] (fun i : Nat => i ≤ k) (fun i => ⟨245, [(2, .r (.rp (progR p))), (3, stateP s), (10, Bv (X && ((G.take k).take i).all fun u => !decide (g = u))), (13, intsV G), (99, intsV G), (100, Iv G.length), (101, Iv k), (15, Iv g), (108, intsV (G.take k)), (109, Iv k), (110, Iv i)], [(2, 2, .gone), (3, 2, .gone), (9, u, .gone), (19, u, .gone), (20, u, .gone), (22, u, .gone)]⟩) (fun i => k - i) 0 (Nat.zero_le _) ?_ rfl (by simp [trimT, memN])
  intro i hi
  by_cases hik : i < k
  case pos =>
   have c2 : decide ((i : Int) < (k : Int)) = true := by rw [decide_eq_true_eq]; omega
   have t2 : Int.toNat (i : Int) = i := by omega
   have w2 : IntKind.i64.wrap ((i : Int) + 1) = ((i + 1 : Nat) : Int) := by rw [wrap_id] <;> omega
   obtain ⟨y, hy⟩ : ∃ y, (G.take k)[i]? = some y := ⟨(G.take k)[i]'(by simp; omega), List.getElem?_eq_getElem _⟩
   have hgy := getD_map intR hy ([] : List RV)
   clear hn
   (any_goals refine go lv31 0 ?_)
   refine ⟨i + 1, by omega, by omega, ?_⟩
   rw [all_take hy, ← Bool.and_assoc]
   exact Le_keepA [2, 3, 10, 13, 99, 100, 101, 15, 108, 109, 110]
  obtain rfl : i = k := by omega
  have c2 : decide ((i : Int) < (i : Int)) = false := by rw [decide_eq_false_iff_not]; omega
  rw [List.take_of_length_le (l := G.take i) (by simp; omega), ← hn]
  clear hn
  (any_goals refine go lv31 0 ?_)
  refine ⟨i + 1, by omega, by omega, ?_⟩
  exact Le_keepA [2, 3, 10, 13, 99, 100, 101]
 obtain rfl : k = G.length := by omega
 have e1 := each_end G
 rw [List.take_length]
 clear hlt hk
 generalize hB1 : decide G.Nodup = B1
 (any_goals refine go lv31 0 ?_)
 clear e1
 -- cells
 have lz : s.cells.zipIdx.length = s.cells.length := List.length_zipIdx
 refine Rn_loopA [2, 3, 10, 13, 123, 124, 125] (fun x : Nat × Nat => x.1 ≤ s.cells.length) (fun x => let k := x.1; let u := x.2; ⟨245, [(2, .r (.rp (progR p))), (3, stateP s), (10, Bv (B1 && (s.cells.zipIdx.take k).all (cellD p s))), (13, intsV G), (123, cellsV s.cells), (124, Iv s.cells.length), (125, Iv k)], [(2, 2, .gone), (3, 2, .gone), (9, u, .gone), (19, u, .gone), (20, u, .gone), (22, u, .gone)]⟩) (fun x => s.cells.length - x.1) (0, u) (Nat.zero_le _) ?_ rfl (by simp [trimT, memN])
 clear u
 rintro ⟨k, u⟩ hk
 dsimp only at hk ⊢
 by_cases hlt : k < s.cells.length
 case pos =>
  obtain ⟨c, hx, hg, h1, h2, hw'⟩ := each_at cellR s.cells hlt (by omega)
  have hz : s.cells.zipIdx[k]? = some (c, k) := by rw [List.getElem?_zipIdx, hx]; simp
  have eb := all_take (q := cellD p s) hz
  rw [hD (c, k)] at eb
  have hcw := hs.cell c (List.mem_of_getElem? hx)
  obtain ⟨hc4, hc5⟩ := hcs c (List.mem_of_getElem? hx)
  generalize hT' : (s.cells.zipIdx.take (k + 1)).all (cellD p s) = T' at *
  generalize (s.cells.zipIdx.take k).all (cellD p s) = T at *
  clear hx hz hD hT
  have lv : (c.vals.map valR).length = c.vals.length := List.length_map ..
  have lf : (c.frames.map frameR).length = c.frames.length := List.length_map ..
  have ww : IntKind.i64.wrap ((p.fns.length : Int) - 1) = (p.fns.length : Int) - 1 := by rw [wrap_id] <;> omega
  obtain ⟨kind, num, vals, frames⟩ := c
  dsimp only at *
  (any_goals refine go (dropL 36 lv31) 0 ?_)
  refine goR1 lv31 0 ?_
  refine Rn_cutX (st' := ⟨245, [(2, .r (.rp (progR p))), (3, stateP s), (10, Bv (B1 && T')), (13, intsV G), (123, cellsV s.cells), (124, Iv s.cells.length), (125, Iv k)], [(2, 2, .gone), (3, 2, .gone), (9, u + 9, .gone), (19, u + 9, .gone), (20, u + 9, .gone), (22, u + 9, .gone)]⟩) True rfl ?_ fun _ => ?_
  ·clear hT' hk hlt h1 h2 hw' lz hp hh hcs hf30 hgl hf5 s2 s3 s4 s5 s6 hs hrg hw
   have no : (B1 && T) = false → (B1 && T') = false := fun h => by rw [eb, ← Bool.and_assoc, h]; rfl
   by_cases k4 : kind = 4
   ·subst k4
    have n0 := hc4 rfl
    have eH : heapF p s ⟨4, num, vals, frames⟩ = (decide (num < (p.fns.length : Int)) && decide ((vals.length : Int) = ((p.fns.getD num.toNat fn0).caught.length : Int))) := by unfold heapF; rw [if_pos rfl]
    rw [eH, show decide ((4 : Int) = 5) = false from rfl, Bool.false_and, Bool.not_false, Bool.true_or, Bool.and_true] at eb
    cases hb : (B1 && T) with
    | false =>
     rw [no hb]
     clear no eb eH hc4 hc5 hcw n0
     (any_goals refine go lv31 0 ?_)
     all_goals (try simp only [go_sem])
     exact Lx.le (Le_keepA [2, 3, 10, 13, 123, 124, 125])
    | true =>
     have e : (B1 && T') = (decide (num < (p.fns.length : Int)) && decide ((vals.length : Int) = ((p.fns.getD num.toNat fn0).caught.length : Int))) := by rw [eb, ← Bool.and_assoc, hb, Bool.true_and]
     rw [e]
     clear no eb eH hc4 hc5 hcw e
     by_cases hn : num < (p.fns.length : Int)
     ·have dn : decide (num < (p.fns.length : Int)) = true := by simpa using hn
      have hmin : (if (p.fns.length : Int) - 1 < num then (p.fns.length : Int) - 1 else num) = num := if_neg (by omega)
      obtain ⟨F, hF⟩ : ∃ F, p.fns[num.toNat]? = some F := ⟨p.fns[num.toNat]'(by omega), List.getElem?_eq_getElem _⟩
      have gF := getD_map fnR hF ([] : List RV)
      have eF : p.fns.getD num.toNat fn0 = F := by simp [List.getD, hF]
      have lc : (F.caught.map intR).length = F.caught.length := List.length_map ..
      rw [eF, dn, Bool.true_and]
      clear eF hF
      (any_goals refine go lv31 0 ?_)
      all_goals (try simp only [go_sem])
      exact Lx.le (Le_keepA [2, 3, 10, 13, 123, 124, 125])
     ·have dn : decide (num < (p.fns.length : Int)) = false := by simpa using hn
      rw [dn, Bool.false_and]
      clear hn
      (any_goals refine go lv31 0 ?_)
      all_goals (try simp only [go_sem])
      exact Lx.le (Le_keepA [2, 3, 10, 13, 123, 124, 125])
   have d4 : decide (kind = 4) = false := by simpa using k4
   by_cases k5 : kind = 5
   case neg =>
    have d5 : decide (kind = 5) = false := by simpa using k5
    have eH : heapF p s ⟨kind, num, vals, frames⟩ = true := by unfold heapF; rw [if_neg k4, if_neg k5]
    rw [eH, d5, Bool.false_and, Bool.not_false, Bool.true_or, Bool.and_true, Bool.and_true] at eb
    rw [eb]
    clear no eb eH hc4 hc5 hcw k4 k5
    (any_goals refine go lv31 0 ?_)
    all_goals (try simp only [go_sem])
    exact Lx.le (Le_keepA [2, 3, 10, 13, 123, 124, 125])
   subst k5
   rw [show decide ((5 : Int) = 5) = true from rfl, Bool.true_and] at eb
   clear hc4 k4 d4
   by_cases n0 : num = 0
   ·subst n0
    obtain ⟨f, rfl⟩ := List.length_eq_one_iff.1 (hc5 rfl rfl)
    have hfw := hcw.frame f (List.mem_singleton.2 rfl)
    have eH : heapF p s ⟨5, 0, vals, [f]⟩ = savedF p s f := by unfold heapF; rw [if_neg (show ¬ (5 : Int) = 4 from by decide), if_pos rfl]; rfl
    rw [eH, show decide ((0 : Int) = 1) = false from rfl, Bool.not_false, Bool.true_or, Bool.and_true] at eb
    clear hc5 hcw eH
    refine Rn_T [ct_frameRight'] ?_
    cases hb : (B1 && T) with
    | false =>
     rw [no hb]
     clear no eb hfw
     obtain ⟨fn, pc, tov, gen, ⟨sk, sn⟩, regs, tries⟩ := f
     (any_goals refine go lv31 0 ?_)
     all_goals (try simp only [go_sem])
     exact Lx.le (Le_keepA [2, 3, 10, 13, 123, 124, 125])
    | true =>
    have e : (B1 && T') = savedF p s f := by rw [eb, ← Bool.and_assoc, hb, Bool.true_and]
    rw [e]
    clear no eb e
    obtain ⟨fn, pc, tov, gen, ⟨sk, sn⟩, regs, tries⟩ := f
    cases hfr : frameF p s ⟨fn, pc, tov, gen, (sk, sn), regs, tries⟩ with
    | false =>
     have e : savedF p s ⟨fn, pc, tov, gen, (sk, sn), regs, tries⟩ = false := by unfold savedF; rw [hfr]; rfl
     rw [e]
     clear e
     (any_goals refine go lv31 0 ?_)
     all_goals (try simp only [go_sem])
     exact Lx.le (Le_keepA [2, 3, 10, 13, 123, 124, 125])
    | true =>
    obtain ⟨⟨g1, g2⟩, g3, g4⟩ := frame_fn hfr
    dsimp only at g1 g2 g3 g4
    obtain ⟨F, hF⟩ : ∃ F, p.fns[fn.toNat]? = some F := ⟨p.fns[fn.toNat]'(by omega), List.getElem?_eq_getElem _⟩
    have gF := getD_map fnR hF ([] : List RV)
    have gF2 : p.fns.getD fn.toNat fn0 = F := by simp [List.getD, hF]
    have lc : (F.code.map insR).length = F.code.length := List.length_map ..
    rw [gF2] at g4
    have e : savedF p s ⟨fn, pc, tov, gen, (sk, sn), regs, tries⟩ = (decide (tov = -1) && decide (gen = -1) && F.gen && (decide (pc = 0) || decide ((F.code.getD (pc - 1).toNat ins0).op = 32))) := by
     unfold savedF; rw [hfr, Bool.true_and]; dsimp only; rw [gF2]
    rw [e]
    clear gF2 e
    by_cases hp0 : pc = 0
    ·have d0 : decide (pc = 0) = true := by simpa using hp0
     clear hp0
     rw [d0]
     cases t1 : decide (tov = -1) <;> cases t2 : decide (gen = -1) <;> cases t3 : F.gen
     all_goals
      (any_goals refine go lv31 0 ?_)
      all_goals (try simp only [go_sem])
      exact Lx.le (Le_keepA [2, 3, 10, 13, 123, 124, 125])
    ·have d0 : decide (pc = 0) = false := by simpa using hp0
     have w1 : IntKind.i64.wrap (pc - 1) = pc - 1 := by have := hgo.fns; have := (hgo.cok F (List.mem_of_getElem? hF)).len; rw [wrap_id] <;> omega
     obtain ⟨I, hI⟩ : ∃ I, F.code[(pc - 1).toNat]? = some I := ⟨F.code[(pc - 1).toNat]'(by omega), List.getElem?_eq_getElem _⟩
     have gI := getD_map insR hI ([] : List RV)
     have gI2 : F.code.getD (pc - 1).toNat ins0 = I := by rw [List.getD_eq_getElem?_getD, hI]; rfl
     have hp1 : 1 ≤ pc := by omega
     rw [d0, gI2]
     clear gI2 hp0
     cases t1 : decide (tov = -1) <;> cases t2 : decide (gen = -1) <;> cases t3 : F.gen
     all_goals
      (any_goals refine go lv31 0 ?_)
      all_goals (try simp only [go_sem])
      exact Lx.le (Le_keepA [2, 3, 10, 13, 123, 124, 125])
   have dn0 : decide (num = 0) = false := by simpa using n0
   have eH : heapF p s ⟨5, num, vals, frames⟩ = true := by unfold heapF; rw [if_neg (show ¬ (5 : Int) = 4 from by decide), if_pos rfl]; dsimp only; rw [dn0]; rfl
   rw [eH, Bool.true_and] at eb
   clear hc5 hcw eH
   by_cases n1 : num = 1
   ·subst n1
    rw [show decide ((1 : Int) = 1) = true from rfl, Bool.not_true, Bool.false_or] at eb
    refine Rn_T [Sh.ct_hasI] ?_
    cases hb : (B1 && T) with
    | false =>
     rw [no hb]
     clear no eb
     (any_goals refine go lv31 0 ?_)
     all_goals (try simp only [go_sem])
     exact Lx.le (Le_keepA [2, 3, 10, 13, 123, 124, 125])
    | true =>
     have e : (B1 && T') = decide ((k : Int) ∈ G) := by rw [eb, ← Bool.and_assoc, hb, Bool.true_and]
     rw [e]
     clear no eb e
     (any_goals refine go lv31 0 ?_)
     all_goals (try simp only [go_sem])
     exact Lx.le (Le_keepA [2, 3, 10, 13, 123, 124, 125])
   ·have dn1 : decide (num = 1) = false := by simpa using n1
    rw [dn1, Bool.not_false, Bool.true_or, Bool.and_true] at eb
    rw [eb]
    clear no eb n0 n1
    (any_goals refine go lv31 0 ?_)
    all_goals (try simp only [go_sem])
    exact Lx.le (Le_keepA [2, 3, 10, 13, 123, 124, 125])
  clear eb hc4 hc5 hcw
  (any_goals refine go lv31 0 ?_)
  refine ⟨(k + 1, u + 9), by dsimp only; omega, by dsimp only; omega, ?_⟩
  dsimp only
  rw [hT']
  exact Le_keepA [2, 3, 10, 13, 123, 124, 125]
 obtain rfl : k = s.cells.length := by omega
 have e1 := each_end s.cells
 rw [List.take_of_length_le (by omega)]
 clear hlt hk lz
 generalize hB2 : (B1 && s.cells.zipIdx.all (cellD p s)) = B2
 (any_goals refine go lv31 0 ?_)
 clear e1
 -- threads
 refine Rn_loopA [2, 3, 10, 229, 230, 231] (fun x : Nat × Nat => x.1 ≤ s.threads.length) (fun x => let k := x.1; let u := x.2; ⟨245, [(2, .r (.rp (progR p))), (3, stateP s), (10, Bv (B2 && (s.threads.take k).all (threadD p s))), (229, threadsV s.threads), (230, Iv s.threads.length), (231, Iv k)], [(2, 2, .gone), (3, 2, .gone), (9, u, .gone), (19, u, .gone), (20, u, .gone), (22, u, .gone)]⟩) (fun x => s.threads.length - x.1) (0, u) (Nat.zero_le _) ?_ rfl (by simp [trimT, memN])
 clear u
 rintro ⟨k, u⟩ hk
 dsimp only at hk ⊢
 by_cases hlt : k < s.threads.length
 case pos =>
  obtain ⟨t, hx, hg, h1, h2, hw'⟩ := each_at threadR s.threads hlt (by omega)
  have eb := all_take (q := threadD p s) hx
  have hTt := hT t (List.mem_of_getElem? hx)
  generalize (s.threads.take k).all (threadD p s) = T at *
  generalize threadD p s t = D at *
  obtain ⟨fs, st, on, ⟨vk, vn⟩⟩ := t
  refine Rn_T [ctE 82 [progV p, stateV s, threadA ⟨fs, st, on, (vk, vn)⟩] (Bv D) hTt] ?_
  clear hT hcs hf30 hD
  (any_goals refine go lv31 0 ?_)
  refine ⟨(k + 1, u + 9), by dsimp only; omega, by dsimp only; omega, ?_⟩
  dsimp only
  rw [eb, ← Bool.and_assoc]
  exact Le_keepA [2, 3, 10, 229, 230, 231]
 obtain rfl : k = s.threads.length := by omega
 have e1 := each_end s.threads
 rw [List.take_length]
 clear hlt hk hB2 hB1
 cases hB3 : (B2 && s.threads.all (threadD p s))
 all_goals
  (any_goals refine go lv31 0 ?_)
  all_goals (try simp only [go_sem])
theorem CallOk_nil2 (n : Nat) {C : Ctx} {f : Nat} {a r : AV} {xs ys : List RV} (h : CallOk C f [a, .agg (ys.map .r)] r) (hn : rowB (nilB n) xs ys) : CallOk C f [a, .agg (xs.map .r)] r := by
 intro cur g w av vs hG hgs hav hp
 refine h cur g w av vs hG hgs hav ⟨hp.1, fun j y v hy hv => ?_⟩
 match j with
 | 0 => exact hp.2 0 y v hy hv
 | 1 =>
  simp at hy; subst hy
  exact AR.nilD (rowB_len hn) (fun j x y hx hy => nilB_ok n x y (rowB_at hn hx hy)) (hp.2 1 _ v rfl hv)
 | j + 2 => simp at hy
theorem stateFault'_c (xs ys zs : List (List RV)) (ca sh tx th en sd : List (List RV)) (aq sq : Int) (h : ((xs = (fnsOf xs).map fnR ∧ ys = (valsOf ys).map valR ∧ zs = (strsOf zs).map strR) ∧ ca = (cellsOf ca).map cellR ∧ sh = (valsOf sh).map valR ∧ tx = (strsOf tx).map strR ∧ th = (threadsOf th).map threadR ∧ en = (endsOf en).map endR ∧ sd = (valsOf sd).map valR) ∧ Pwf ⟨fnsOf xs, valsOf ys, strsOf zs⟩ ∧ Swf ⟨cellsOf ca, valsOf sh, strsOf tx, threadsOf th, endsOf en, valsOf sd, aq, sq⟩ ∧ RegsOk ⟨cellsOf ca, valsOf sh, strsOf tx, threadsOf th, endsOf en, valsOf sd, aq, sq⟩) : FC Cx 31 [.agg [.r (.rs 5 xs), .r (.rs 2 ys), .r (.rs 1 zs)], .agg [.r (.rs 4 ca), .r (.rs 2 sh), .r (.rs 1 tx), .r (.rs 5 th), .r (.rs 3 en), .r (.rs 2 sd), Iv aq, Iv sq]] [] (Iv (faultS ⟨fnsOf xs, valsOf ys, strsOf zs⟩ ⟨cellsOf ca, valsOf sh, strsOf tx, threadsOf th, endsOf en, valsOf sd, aq, sq⟩)) [] := by
 have := stateFault_c ⟨fnsOf xs, valsOf ys, strsOf zs⟩ ⟨cellsOf ca, valsOf sh, strsOf tx, threadsOf th, endsOf en, valsOf sd, aq, sq⟩ h.2.1 h.2.2.1 h.2.2.2
 rwa [prog_at h.1.1, state_at _ _ _ _ _ _ _ _ h.1.2] at this
def sp_stateFault' (args : List AV) (K : AV → Prop) : Prop := match args with
 | [.agg [.r (.rs 5 xs), .r (.rs 2 ys), .r (.rs 1 zs)], .agg [.r (.rs 4 ca), .r (.rs 2 sh), .r (.rs 1 tx), .r (.rs 5 th), .r (.rs 3 en), .r (.rs 2 sd), .r (.v (.int .i64 aq)), .r (.v (.int .i64 sq))]] => (((xs = (fnsOf xs).map fnR ∧ ys = (valsOf ys).map valR ∧ zs = (strsOf zs).map strR) ∧ ca = (cellsOf ca).map cellR ∧ sh = (valsOf sh).map valR ∧ tx = (strsOf tx).map strR ∧ th = (threadsOf th).map threadR ∧ en = (endsOf en).map endR ∧ sd = (valsOf sd).map valR) ∧ Pwf ⟨fnsOf xs, valsOf ys, strsOf zs⟩ ∧ Swf ⟨cellsOf ca, valsOf sh, strsOf tx, threadsOf th, endsOf en, valsOf sd, aq, sq⟩ ∧ RegsOk ⟨cellsOf ca, valsOf sh, strsOf tx, threadsOf th, endsOf en, valsOf sd, aq, sq⟩) ∧ K (Iv (faultS ⟨fnsOf xs, valsOf ys, strsOf zs⟩ ⟨cellsOf ca, valsOf sh, strsOf tx, threadsOf th, endsOf en, valsOf sd, aq, sq⟩))
 | _ => False
noncomputable abbrev ct_stateFault' : Ct Cx := .pure 31 sp_stateFault' fun args K h => by
 unfold sp_stateFault' at h; split at h; exact ⟨_, CallOk_of (stateFault'_c _ _ _ _ _ _ _ _ _ _ _ h.1) en31 rfl rfl, h.2⟩; exact h.elim
@[go_sem] theorem sp_stateFault'_eq : type_of% @sp_stateFault'.eq_def := @sp_stateFault'.eq_def
def sameB (a b : StateT) : Bool := decide (a = b)
theorem sameB_self (a : StateT) : sameB a a = true := decide_eq_true rfl
def sp_rsameB (args : List AV) (K : AV → Prop) : Prop := match args with
 | [.agg [.r (.rs 4 ca), .r (.rs 2 sh), .r (.rs 1 tx), .r (.rs 5 th), .r (.rs 3 en), .r (.rs 2 sd), .r (.v (.int .i64 aq)), .r (.v (.int .i64 sq))], .agg [.r (.rs 4 ca'), .r (.rs 2 sh'), .r (.rs 1 tx'), .r (.rs 5 th'), .r (.rs 3 en'), .r (.rs 2 sd'), .r (.v (.int .i64 aq')), .r (.v (.int .i64 sq'))]] => (((ca = (cellsOf ca).map cellR ∧ sh = (valsOf sh).map valR ∧ tx = (strsOf tx).map strR ∧ th = (threadsOf th).map threadR ∧ en = (endsOf en).map endR ∧ sd = (valsOf sd).map valR) ∧ (ca' = (cellsOf ca').map cellR ∧ sh' = (valsOf sh').map valR ∧ tx' = (strsOf tx').map strR ∧ th' = (threadsOf th').map threadR ∧ en' = (endsOf en').map endR ∧ sd' = (valsOf sd').map valR)) ∧ Swf ⟨cellsOf ca, valsOf sh, strsOf tx, threadsOf th, endsOf en, valsOf sd, aq, sq⟩ ∧ Swf ⟨cellsOf ca', valsOf sh', strsOf tx', threadsOf th', endsOf en', valsOf sd', aq', sq'⟩) ∧ K (Bv (sameB ⟨cellsOf ca, valsOf sh, strsOf tx, threadsOf th, endsOf en, valsOf sd, aq, sq⟩ ⟨cellsOf ca', valsOf sh', strsOf tx', threadsOf th', endsOf en', valsOf sd', aq', sq'⟩))
 | [.agg [.r (.rs 4 ca), .r (.rs 2 sh), .r (.rs 1 tx), .r (.rs 5 th), .r (.rs 3 en), .r (.rs 2 sd), .r (.v (.int .i64 aq)), .r (.v (.int .i64 sq))], .agg [.r (.v (.slice none 0 0)), .r (.v (.slice none 0 0)), .r (.v (.slice none 0 0)), .r (.v (.slice none 0 0)), .r (.v (.slice none 0 0)), .r (.v (.slice none 0 0)), .r (.v (.int .i64 aq')), .r (.v (.int .i64 sq'))]] => ((ca = (cellsOf ca).map cellR ∧ sh = (valsOf sh).map valR ∧ tx = (strsOf tx).map strR ∧ th = (threadsOf th).map threadR ∧ en = (endsOf en).map endR ∧ sd = (valsOf sd).map valR) ∧ Swf ⟨cellsOf ca, valsOf sh, strsOf tx, threadsOf th, endsOf en, valsOf sd, aq, sq⟩) ∧ K (Bv (sameB ⟨cellsOf ca, valsOf sh, strsOf tx, threadsOf th, endsOf en, valsOf sd, aq, sq⟩ ⟨[], [], [], [], [], [], aq', sq'⟩))
 | _ => False
theorem empty_wf (aq sq : Int) : Swf ⟨[], [], [], [], [], [], aq, sq⟩ := by
 refine ⟨⟨by simp, by simp, by simp, by simp, by simp, by simp⟩, ?_, fun c hc => by simp at hc, fun t ht => by simp at ht⟩
 intro q hq
 simp at hq
theorem sp_rsameB_ok (args : List AV) (K : AV → Prop) (h : sp_rsameB args K) : ∃ r, CallOk Cx 30 args r ∧ K r := by
 unfold sp_rsameB at h
 split at h
 ·rename_i ca sh tx th en sd aq sq ca' sh' tx' th' en' sd' aq' sq'
  have := sameStates_c ⟨cellsOf ca, valsOf sh, strsOf tx, threadsOf th, endsOf en, valsOf sd, aq, sq⟩ ⟨cellsOf ca', valsOf sh', strsOf tx', threadsOf th', endsOf en', valsOf sd', aq', sq'⟩ h.1.2.1 h.1.2.2
  rw [state_at _ _ _ _ _ _ _ _ h.1.1.1, state_at _ _ _ _ _ _ _ _ h.1.1.2] at this
  exact ⟨_, CallOk_of this en30 rfl rfl, h.2⟩
 ·rename_i ca sh tx th en sd aq sq aq' sq'
  have := sameStates_c ⟨cellsOf ca, valsOf sh, strsOf tx, threadsOf th, endsOf en, valsOf sd, aq, sq⟩ ⟨[], [], [], [], [], [], aq', sq'⟩ h.1.2 (empty_wf aq' sq')
  rw [state_at _ _ _ _ _ _ _ _ h.1.1] at this
  exact ⟨_, CallOk_nil2 1 (xs := [.v (.slice none 0 0), .v (.slice none 0 0), .v (.slice none 0 0), .v (.slice none 0 0), .v (.slice none 0 0), .v (.slice none 0 0), .v (.int .i64 aq'), .v (.int .i64 sq')]) (ys := stateR ⟨[], [], [], [], [], [], aq', sq'⟩) (CallOk_of this en30 rfl rfl) (by simp [rowB, nilB, nilX]), h.2⟩
 ·exact h.elim
noncomputable abbrev ct_rsameB : Ct Cx := .pure 30 sp_rsameB sp_rsameB_ok
attribute [go_sem] sp_rsameB
section
variable {C : Ctx} {T : List (Ct C)} {r : List It} {st st' : St} {K : Exit → St → Prop}
end
theorem sameEv_c (l : List EventT) (hl : l.length ≤ 1000000000) : FC Cx 38 [eventsV l, eventsV l] [] (Bv true) [] := by
 have l1 : (l.map eventR).length = l.length := List.length_map ..
 refine FCp_st [] Tryz.func38 Tryz.ntmps38 Tryz.results38 ?_
 (any_goals refine go lv38 0 ?_)
 refine Rn_loopS (fun i : Nat => i ≤ l.length) (fun i => ⟨26, [(0, eventsV l), (1, eventsV l), (12, Iv l.length), (13, Iv i)], []⟩) (fun i => l.length - i) 0 (Nat.zero_le _) ?_
 rintro i hi
 by_cases hlt : i < l.length
 case pos =>
  obtain ⟨e, hx, hg, h1, h2, hw⟩ := each_at eventR l hlt (by omega)
  obtain ⟨e1, e2, e3, e4, e5, e6, e7, e8, ⟨e9, f1⟩, ⟨f2, f3⟩⟩ := e
  (any_goals refine go lv38 0 ?_)
  exact ⟨i + 1, by omega, by omega, Le_subA⟩
 obtain rfl : i = l.length := by omega
 have e1 := each_end l
 (any_goals refine go lv38 0 ?_)
 all_goals (try simp only [go_sem])
theorem killC_wf {f : FrameT} {cs : List CellT} (h : ∀ c ∈ cs, Cwf c) : ∀ c ∈ killC f cs, Cwf c := by
 unfold killC
 split
 ·split
  ·rename_i c hc
   intro d hd
   rcases List.mem_or_eq_of_mem_set hd with hd | rfl
   ·exact h d hd
   ·obtain ⟨a1, a2, a3, a4⟩ := h c (List.mem_of_getElem? hc)
    exact ⟨a1, a2, a3, a4⟩
  ·exact h
 ·exact h
theorem unwF_wf {v : Int × Int} {fs : List FrameT} (hf : ∀ f ∈ fs, Gwf f) (hl : fs.length ≤ 9223372036854775807) : ∀ (m : Nat) (cs : List CellT), m ≤ fs.length → (∀ c ∈ cs, Cwf c) → (unwF v fs m cs).1.length = cs.length ∧ (∀ c ∈ (unwF v fs m cs).1, Cwf c) ∧ (unwF v fs m cs).2.1.length ≤ 9223372036854775807 ∧ ∀ f ∈ (unwF v fs m cs).2.1, Gwf f
 | 0, cs, _, hc => ⟨rfl, hc, by simp [unwF], fun f h => by simp [unwF] at h⟩
 | m + 1, cs, hm, hc => by
  obtain ⟨f, hfm⟩ : ∃ f, fs[m]? = some f := ⟨fs[m]'(by omega), List.getElem?_eq_getElem _⟩
  have hg := hf f (List.mem_of_getElem? hfm)
  unfold unwF
  rw [hfm]
  dsimp only
  cases hy : f.tries[f.tries.length - 1]? with
  | none =>
   have := unwF_wf (v := v) hf hl m (killC f cs) (by omega) (killC_wf hc)
   rw [killC_len] at this
   exact this
  | some y =>
   refine ⟨rfl, hc, by simp only [List.length_append, List.length_take, List.length_singleton]; omega, fun g hgm => ?_⟩
   rcases List.mem_append.1 hgm with h | h
   ·exact hf g (List.mem_of_mem_take h)
   ·simp at h; subst h
    exact ⟨by show (f.regs.set _ _).length ≤ _; rw [List.length_set]; exact hg.regs, by show (f.tries.take _).length ≤ _; rw [List.length_take]; have := hg.tries; omega, hg.gen⟩
theorem thrS_wf {s : StateT} {th : Nat} {t : ThreadT} {v : Int × Int} (hs : Swf s) (ht : s.threads[th]? = some t) : Swf (thrS s th t v) := by
 obtain ⟨⟨a1, a2, a3, a4, a5, a6⟩, b, c, d⟩ := hs
 obtain ⟨d1, d2⟩ := d t (List.mem_of_getElem? ht)
 obtain ⟨u1, u2, u3, u4⟩ := unwF_wf (v := v) d2 d1 t.frames.length s.cells (Nat.le_refl _) c
 refine ⟨⟨by show (unwF _ _ _ _).1.length ≤ _; rw [u1]; exact a1, a2, a3, by show (s.threads.set th _).length ≤ _; rw [List.length_set]; exact a4, a5, a6⟩, b, u2, fun x hx => ?_⟩
 rcases List.mem_or_eq_of_mem_set hx with hx | rfl
 ·exact d x hx
 ·unfold thrT
  split
  ·exact ⟨u3, u4⟩
  ·exact ⟨u3, u4⟩
theorem unwindSays_no (p : ProgT) (s : StateT) (th : Int) (v : Int × Int) (hw : Pwf p) (hs : Swf s) (hrg : RegsOk s) (h : throwE p s th v ≠ 0) : FC Cx 7 [progV p, stateV s, Iv th, VV v.1 v.2] [] (Bv true) [] := by
 have hT : ∀ y, y = [progV p, stateV s, Iv th, VV v.1 v.2] → CallOk Cx 33 y (.tup [stateV emptyS, eventsV [], Iv (throwE p s th v)]) := fun y hy => by
  subst hy; exact CallOk_of (throw_no p s th v hw hs h) en33 rfl rfl
 have hz : sameB emptyS ⟨[], [], [], [], [], [], 0, 0⟩ = true := sameB_self _
 have wz : Swf emptyS := empty_wf 0 0
 have l1 : (s.threads.map threadR).length = s.threads.length := List.length_map ..
 have hlt := hs.len.threads
 have w1 : IntKind.i64.wrap ((s.threads.length : Int) - 1) = (s.threads.length : Int) - 1 := by rw [wrap_id] <;> omega
 obtain ⟨vk, vn⟩ := v
 dsimp only at *
 generalize emptyS = Z at *
 have hE : throwE p s th (vk, vn) = if faultS p s ≠ 0 then faultS p s else if th < 0 ∨ (s.threads.length : Int) ≤ th then 5 else if (s.threads.getD th.toNat thread0).frames.length = 0 then 8 else if fitsF s (vk, vn) = false then 1 else 0 := rfl
 generalize throwE p s th (vk, vn) = E at *
 by_cases hf : faultS p s = 0
 case neg =>
  rw [if_pos hf] at hE
  have d0 : decide (faultS p s = 0) = false := by simpa using hf
  subst hE
  clear h hf
  refine FCp_st [ctE 33 [progV p, stateV s, Iv th, VV vk vn] (.tup [stateV Z, eventsV [], Iv (faultS p s)]) hT, ct_stateFault', ct_rBetween, ct_rfits', ct_rsameB] Tryz.func7 Tryz.ntmps7 Tryz.results7 ?_
  refine goR ?_
  refine fzB 4 ?_
  refine fzB 5 ?_
  refine fzB 7 ?_
  (any_goals refine go lv7 0 ?_)
  all_goals (try simp only [go_sem])
 rw [if_neg (by simpa using hf)] at hE
 have d0 : decide (faultS p s = 0) = true := by simpa using hf
 by_cases h0 : th < 0 ∨ (s.threads.length : Int) ≤ th
 ·rw [if_pos h0] at hE
  subst hE
  have d1 : decide (0 ≤ th ∧ th ≤ (s.threads.length : Int) - 1) = false := by rw [decide_eq_false_iff_not]; omega
  clear hf h h0
  refine FCp_st [ctE 33 [progV p, stateV s, Iv th, VV vk vn] (.tup [stateV Z, eventsV [], Iv 5]) hT, ct_stateFault', ct_rBetween, ct_rfits', ct_rsameB] Tryz.func7 Tryz.ntmps7 Tryz.results7 ?_
  refine goR ?_
  refine fzB 4 ?_
  refine fzB 5 ?_
  refine fzB 7 ?_
  (any_goals refine go lv7 0 ?_)
  all_goals (try simp only [go_sem])
 rw [if_neg h0] at hE
 have d1 : decide (0 ≤ th ∧ th ≤ (s.threads.length : Int) - 1) = true := by rw [decide_eq_true_eq]; omega
 have h00 : 0 ≤ th := by omega
 have h01 : th < (s.threads.length : Int) := by omega
 have d1b : decide (th ≤ (s.threads.length : Int) - 1) = true := by rw [decide_eq_true_eq]; omega
 obtain ⟨t, ht⟩ : ∃ t, s.threads[th.toNat]? = some t := ⟨s.threads[th.toNat]'(by omega), List.getElem?_eq_getElem _⟩
 have hg := getD_map threadR ht ([] : List RV)
 have et : s.threads.getD th.toNat thread0 = t := by rw [List.getD_eq_getElem?_getD, ht]; rfl
 have lf : (t.frames.map frameR).length = t.frames.length := List.length_map ..
 rw [et] at hE
 by_cases h2 : t.frames.length = 0
 ·rw [if_pos h2] at hE
  subst hE
  have d4 : decide ((t.frames.length : Int) = 0) = true := by rw [decide_eq_true_eq]; omega
  clear hf h h0 h2 et
  refine FCp_st [ctE 33 [progV p, stateV s, Iv th, VV vk vn] (.tup [stateV Z, eventsV [], Iv 8]) hT, ct_stateFault', ct_rBetween, ct_rfits', ct_rsameB] Tryz.func7 Tryz.ntmps7 Tryz.results7 ?_
  refine goR ?_
  refine fzB 4 ?_
  refine fzB 5 ?_
  refine fzB 7 ?_
  (any_goals refine go lv7 0 ?_)
  all_goals (try simp only [go_sem])
 rw [if_neg h2] at hE
 have d4 : decide ((t.frames.length : Int) = 0) = false := by rw [decide_eq_false_iff_not]; omega
 by_cases h3 : fitsF s (vk, vn) = false
 ·rw [if_pos h3] at hE
  subst hE
  clear hf h h0 h2 et
  refine FCp_st [ctE 33 [progV p, stateV s, Iv th, VV vk vn] (.tup [stateV Z, eventsV [], Iv 1]) hT, ct_stateFault', ct_rBetween, ct_rfits', ct_rsameB] Tryz.func7 Tryz.ntmps7 Tryz.results7 ?_
  refine goR ?_
  refine fzB 4 ?_
  refine fzB 5 ?_
  refine fzB 7 ?_
  (any_goals refine go lv7 0 ?_)
  all_goals (try simp only [go_sem])
 ·rw [if_neg h3] at hE; exact absurd hE h
theorem unwindSays_yes (p : ProgT) (s : StateT) (th : Nat) (t : ThreadT) (f : FrameT) (v : Int × Int) (hw : Pwf p) (hs : Swf s) (hrg : RegsOk s) (hf : faultS p s = 0) (ht : s.threads[th]? = some t) (hfr : t.frames[t.frames.length - 1]? = some f) (hv : fitsF s v = true) :
  FC Cx 7 [progV p, stateV s, Iv th, VV v.1 v.2] [] (Bv true) [] := by
 have hT : ∀ y, y = [progV p, stateV s, Iv th, VV v.1 v.2] → CallOk Cx 33 y (.tup [stateV (thrS s th t v), eventsV (thrE p s th t f v), Iv 0]) := fun y hy => by
  subst hy; exact CallOk_of (throw_yes p s th t f v hw hs hf ht hfr hv) en33 rfl rfl
 have hR := rightS_iff.1 hf
 obtain ⟨hm, hth⟩ := right_small hw hR
 obtain ⟨h30, hfs⟩ := hth t (List.mem_of_getElem? ht)
 have hgo := check_go hw hR.prog
 have hfF : frameF p s f = true := by
  obtain ⟨low, ho, _⟩ := stackR_at (hR.threads t (List.mem_of_getElem? ht)).2 hfr
  exact on_frame ho
 have hA : ∀ y, y = [progV p, stateV s, Iv th] → CallOk Cx 37 y (eventA (atF p s th f)) := fun y hy => by
  subst hy; exact CallOk_of (rEventAt_c p s th t f hgo ht hfr hfF (by omega)) en37 rfl rfl
 have hU : ∀ y, y = [stateV s, Iv th, VV v.1 v.2, eventA (atF p s th f)] → CallOk Cx 36 y (.tup [stateV (thrS s th t v), eventsV (thrE p s th t f v)]) := fun y hy => by
  subst hy; exact CallOk_of (thrown_c s th t v (atF p s th f) hm ht (by omega) hfs) en36 rfl rfl
 have hEv : ∀ y, y = [eventsV (thrE p s th t f v), eventsV (thrE p s th t f v)] → CallOk Cx 38 y (Bv true) := fun y hy => by
  subst hy; exact CallOk_of (sameEv_c _ (by simp [thrE])) en38 rfl rfl
 have hX := thrS_wf (v := v) hs ht
 have hXX := sameB_self (thrS s th t v)
 have hk := (List.getElem?_eq_some_iff.1 ht).1
 have hfk := (List.getElem?_eq_some_iff.1 hfr).1
 have l1 : (s.threads.map threadR).length = s.threads.length := List.length_map ..
 have lf : (t.frames.map frameR).length = t.frames.length := List.length_map ..
 have hg := getD_map threadR ht ([] : List RV)
 have hlt := hs.len.threads
 have w1 : IntKind.i64.wrap ((s.threads.length : Int) - 1) = (s.threads.length : Int) - 1 := by rw [wrap_id] <;> omega
 have d0 : decide (faultS p s = 0) = true := by simpa using hf
 have d1 : decide (0 ≤ (th : Int) ∧ (th : Int) ≤ (s.threads.length : Int) - 1) = true := by rw [decide_eq_true_eq]; omega
 have d4 : decide ((t.frames.length : Int) = 0) = false := by rw [decide_eq_false_iff_not]; omega
 have t1 : Int.toNat (th : Int) = th := by omega
 obtain ⟨vk, vn⟩ := v
 dsimp only at *
 clear hfs hfF hR hth hfr hm hgo hf
 generalize atF p s th f = e0 at *
 generalize thrE p s th t f (vk, vn) = L at *
 generalize thrS s th t (vk, vn) = X at *
 refine FCp_st [ctE 33 [progV p, stateV s, Iv th, VV vk vn] (.tup [stateV X, eventsV L, Iv 0]) hT, ct_stateFault', ct_rBetween, ct_rfits', ct_rsameB, ctE 37 [progV p, stateV s, Iv th] (eventA e0) hA, ctE 36 [stateV s, Iv th, VV vk vn, eventA e0] (.tup [stateV X, eventsV L]) hU, ctE 38 [eventsV L, eventsV L] (Bv true) hEv] Tryz.func7 Tryz.ntmps7 Tryz.results7 ?_
 refine goR ?_
 refine fzB 4 ?_
 refine fzB 5 ?_
 refine fzB 7 ?_
 (any_goals refine go lv7 0 ?_)
 all_goals (try simp only [go_sem])
theorem unwindSays_c (p : ProgT) (s : StateT) (th : Int) (v : Int × Int) (hw : Pwf p) (hs : Swf s) (hrg : RegsOk s) : FC Cx 7 [progV p, stateV s, Iv th, VV v.1 v.2] [] (Bv true) [] := by
 by_cases h : throwE p s th v = 0
 case neg => exact unwindSays_no p s th v hw hs hrg h
 have hE : throwE p s th v = if faultS p s ≠ 0 then faultS p s else if th < 0 ∨ (s.threads.length : Int) ≤ th then 5 else if (s.threads.getD th.toNat thread0).frames.length = 0 then 8 else if fitsF s v = false then 1 else 0 := rfl
 rw [h] at hE
 by_cases hf : faultS p s = 0
 case neg => rw [if_pos hf] at hE; exact absurd hE.symm hf
 rw [if_neg (by simpa using hf)] at hE
 by_cases h0 : th < 0 ∨ (s.threads.length : Int) ≤ th
 ·rw [if_pos h0] at hE; cases hE
 rw [if_neg h0] at hE
 obtain ⟨t, ht⟩ : ∃ t, s.threads[th.toNat]? = some t := ⟨s.threads[th.toNat]'(by omega), List.getElem?_eq_getElem _⟩
 have et : s.threads.getD th.toNat thread0 = t := by rw [List.getD_eq_getElem?_getD, ht]; rfl
 rw [et] at hE
 by_cases h2 : t.frames.length = 0
 ·rw [if_pos h2] at hE; cases hE
 rw [if_neg h2] at hE
 by_cases h3 : fitsF s v = false
 ·rw [if_pos h3] at hE; cases hE
 obtain ⟨f, hfr⟩ : ∃ f, t.frames[t.frames.length - 1]? = some f := ⟨t.frames[t.frames.length - 1]'(by omega), List.getElem?_eq_getElem _⟩
 have := unwindSays_yes p s th.toNat t f v hw hs hrg hf ht hfr (by simpa using h3)
 rwa [show ((th.toNat : Nat) : Int) = th by omega] at this
end Go.Proofs.YtbhnmolmkembdaaGreatDoor
