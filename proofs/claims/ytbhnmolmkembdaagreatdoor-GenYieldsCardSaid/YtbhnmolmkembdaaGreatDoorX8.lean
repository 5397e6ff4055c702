/- The document's copy of a state. No condition: contracts of the document's functions. -/
import Derived.Test.YtbhnmolmkembdaaGreatDoorX7
namespace Go.Proofs.YtbhnmolmkembdaaGreatDoor
set_option linter.unusedVariables false
set_option linter.unusedSimpArgs false
set_option maxHeartbeats 10000000
open Go
set_option maxRecDepth 10000
theorem Ul (fs : List aR) (hl : fs.length ≤ 1000000000) (hr : ∀ f ∈ fs, f.regs.length ≤ 1000000000 ∧ f.tries.length ≤ 1000000000) : FC Cx 143 [bL fs] [] (.os 0 1) [(0, 1, .sl 61 8 (fs.map frameA2))] := by
 have l1 : (fs.map bA).length = fs.length := List.length_map ..
 refine iG [] (i := 0) [.os 0 1] Tryz.func143 rfl Tryz.ntmps143 (by simp) Tryz.results143 (qG _) ?_
 refine rnst ?_
 (any_goals refine go La 0 ?_)
 (apply kQ 3 1003 61 8; (exact rfl); (exact rfl); (intro K0; (try simp only [go_sem]); exact ⟨id⟩))
 refine bX (fun x : Nat × Nat => x.1 ≤ fs.length) (fun x => ⟨28, [(3, .os 1003 (1 + x.1)), (6, bL fs), (7, Iv fs.length), (8, Iv x.1)], [(1003, 1 + x.1, .sl 61 8 ((fs.take x.1).map frameA2)), (5, x.2, .gone), (12, x.2, .gone), (16, x.2, .gone), (24, x.2, .gone)]⟩) (fun x => fs.length - x.1) (0, 0) (Nat.zero_le _) ?_
 rintro ⟨i, u⟩ hi
 dsimp only at hi ⊢
 by_cases hlt : i < fs.length
 case neg =>
  obtain rfl : i = fs.length := by omega
  have e1 := bR fs
  rw [List.take_length]
  (any_goals refine go La 0 ?_)
  all_goals (try simp only [go_sem])
 obtain ⟨f, hx, hg, h1, h2, hw⟩ := cC bA fs hlt (by omega)
 obtain ⟨r1, r2⟩ := hr f (List.mem_of_getElem? hx)
 have l3 : (f.regs.map valR).length = f.regs.length := List.length_map ..
 have l4 : (f.tries.map tryR).length = f.tries.length := List.length_map ..
 have l5 : (f.regs.map valC).length = f.regs.length := List.length_map ..
 have l6 : (f.tries.map tryC).length = f.tries.length := List.length_map ..
 have hnx : (fs.take (i + 1)).map frameA2 = (fs.take i).map frameA2 ++ [frameA2 f] := by rw [List.take_add_one, hx, List.map_append]; rfl
 have hL : ((fs.take i).map frameA2).length = i := by rw [List.length_map, List.length_take]; omega
 generalize (fs.take i).map frameA2 = L at *
 (any_goals refine go (eM 6 La) 0 ?_)
 (apply jD 16 (f.tries.map tryR); (exact rfl); (exact (Fn f.tries).symm); (exact rfl); (intro K0; (try simp only [go_sem]); exact ⟨id⟩))
 have qa : ∀ X : List AV, (L ++ [X])[i]? = some X := fun X => by rw [List.getElem?_append_right (by omega), hL, Nat.sub_self]; rfl
 have qs : ∀ X Y : List AV, (L ++ [X]).set i Y = L ++ [Y] := fun X Y => by rw [List.set_append_right _ _ (by omega), hL, Nat.sub_self]; rfl
 (any_goals refine go (eM 7 La) 0 ?_)
 (apply dM 1003 i 6 12 (f.regs.map valN); (exact rfl); (exact qa _); (exact rfl); (exact (by decide)); (exact congrArg (fun z => (u + 1 + 1, Res.sl 50 2 z)) (pA f.regs).symm); (exact rfl); (intro K0; (try simp only [go_sem, qs]); exact ⟨id⟩))
 clear qa qs
 (any_goals refine go La 0 ?_)
 refine ⟨(i + 1, u + 9), by dsimp only; omega, by dsimp only; omega, ?_⟩
 dsimp only
 rw [hnx]
 exact bE
theorem Nj (xs : List (List RV)) (h : xs = (framesOf xs).map bA ∧ (framesOf xs).length ≤ 1000000000 ∧ ∀ f ∈ framesOf xs, f.regs.length ≤ 1000000000 ∧ f.tries.length ≤ 1000000000) : FC Cx 143 [.r (.rs 8 xs)] [] (.os 0 1) [(0, 1, .sl 61 8 ((framesOf xs).map frameA2))] := by
 have := Ul (framesOf xs) h.2.1 h.2.2
 rwa [show bL (framesOf xs) = .r (.rs 8 xs) from by show AV.r (RV.rs 8 ((framesOf xs).map bA)) = _; rw [← h.1]] at this
theorem Db (xs : List (List RV)) : ∀ row ∈ (framesOf xs).map frameA2, aW bO row = true := qG _
def jL (st : St) (d : Nat) (args : List AV) (K : AV → List Loc → List (Loc × Cont) → Prop) : Prop := match args with
 | [.r (.rs 8 xs)] => (xs = (framesOf xs).map bA ∧ (framesOf xs).length ≤ 1000000000 ∧ ∀ f ∈ framesOf xs, f.regs.length ≤ 1000000000 ∧ f.tries.length ≤ 1000000000) ∧ K (ren (fun _ => d) (fun _ => st.cur d) (.os 0 1)) [.R d] [(.R d, .s (1 + st.cur d) (.sl 61 8 ((framesOf xs).map frameA2)))]
 | _ => False
theorem Av (st : St) (d : Nat) (args : List AV) (K : AV → List Loc → List (Loc × Cont) → Prop) (h : jL st d args K) : ∃ r ls outs, dC Cx 143 st args r ls outs ∧ K r ls outs := by
 unfold jL at h
 split at h
 ·exact ⟨_, _, _, dC.own (Nj _ h.1) rfl (Db _) rfl d, h.2⟩
 ·exact h.elim
noncomputable def rY : Ct Cx := .res 143 jL aT9 Av
@[go_sem] theorem aCv : rY.g = 143 := rfl
@[go_sem] theorem Vn (c : Call) (fop : Operand) (caps : List AV) (o : Oper) (st : St) (K : List Loc → List (Loc × Cont) → Prop) : rY.run c fop caps o st K = kH jL c fop caps o st K := rfl
@[go_sem] theorem Xr : type_of% @jL.eq_def := @jL.eq_def
theorem Mu (a b : Nat) (cs : List bM) (ts : List aP) (k : Nat) : bN (domR [ownC 1004 a cs, ownT 1007 b ts]) (aB k [ownC 1004 a cs, ownT 1007 b ts]).2 := by
 have e : aB k [ownC 1004 a cs, ownT 1007 b ts] = if k = 1004 then (a, .sl 48 4 (cs.map cV)) else if k = 1007 then (b, .sl 56 5 (ts.map aU)) else (0, .gone) := rfl
 rw [e]
 split
 ·exact fun row h => by obtain ⟨x, _, rfl⟩ := List.mem_map.1 h; rfl
 ·split
  ·exact fun row h => by obtain ⟨x, _, rfl⟩ := List.mem_map.1 h; rfl
  ·trivial
theorem Vu (s : aC) (hm : Sml s) : FC Cx 87 [aO s] [] (.agg [.os 1004 (1 + s.cells.length), aS s.shapes, bZ s.texts, .os 1007 (1 + s.threads.length), fP s.ends, aS s.said, Iv s.asked, Iv s.steps]) [ownC 1004 (1 + s.cells.length) s.cells, ownT 1007 (1 + s.threads.length) s.threads] := by
 obtain ⟨m1, m2, m3, m4, m5, m6, m7, m8, m9⟩ := hm
 have l1 : (s.cells.map aX).length = s.cells.length := List.length_map ..
 have l2 : (s.shapes.map valC).length = s.shapes.length := List.length_map ..
 have l3 : (s.texts.map strC).length = s.texts.length := List.length_map ..
 have l4 : (s.threads.map aJ).length = s.threads.length := List.length_map ..
 have l5 : (s.ends.map endC).length = s.ends.length := List.length_map ..
 have l6 : (s.said.map valC).length = s.said.length := List.length_map ..
 refine jR [rY]  Tryz.func87 rfl Tryz.ntmps87 (by simp) Tryz.results87 rfl (Mu _ _ _ _) ?_
 refine rnst ?_
 (any_goals refine go lv87 0 ?_)
 (apply kQ 4 1004 48 4; (exact rfl); (exact rfl); (intro K0; (try simp only [go_sem]); exact ⟨id⟩))
 refine bX (fun x : Nat × Nat => x.1 ≤ s.cells.length) (fun x => ⟨74, [(1, .os 1 1), (2, .os 2 1), (3, .r (.fn 143 [])), (4, .os 1004 (1 + x.1)), (11, dG s.cells), (12, Iv s.cells.length), (13, Iv x.1)], [(1, 1, .bx [dG s.cells, aS s.shapes, bZ s.texts, cF s.threads, fP s.ends, aS s.said, Iv s.asked, Iv s.steps]), (2, 1, .bx [NilS, NilS, NilS, NilS, NilS, NilS, Iv 0, Iv 0]), (1004, 1 + x.1, .sl 48 4 ((s.cells.take x.1).map cV)), (6, x.2, .gone), (17, x.2, .gone), (24, x.2, .gone), (29, x.2, .gone)]⟩) (fun x => s.cells.length - x.1) (0, 0) (Nat.zero_le _) ?_
 rintro ⟨i, u⟩ hi
 dsimp only at hi ⊢
 by_cases hlt : i < s.cells.length
 case pos =>
  obtain ⟨c, hx, hg, h1, h2, hw⟩ := cC aX s.cells hlt (by omega)
  have r1 := m7 c (List.mem_of_getElem? hx)
  obtain ⟨r2, r3⟩ := m8 c (List.mem_of_getElem? hx)
  have l9 : (c.vals.map valC).length = c.vals.length := List.length_map ..
  have l10 : (c.frames.map bA).length = c.frames.length := List.length_map ..
  have hnx : (s.cells.take (i + 1)).map cV = (s.cells.take i).map cV ++ [cV c] := by rw [List.take_add_one, hx, List.map_append]; rfl
  have hL : ((s.cells.take i).map cV).length = i := by rw [List.length_map, List.length_take]; omega
  generalize (s.cells.take i).map cV = L at *
  have qa : ∀ X : List AV, (L ++ [X])[i]? = some X := fun X => by rw [List.getElem?_append_right (by omega), hL, Nat.sub_self]; rfl
  have qs : ∀ X Y : List AV, (L ++ [X]).set i Y = L ++ [Y] := fun X Y => by rw [List.set_append_right _ _ (by omega), hL, Nat.sub_self]; rfl
  clear m7 m8 m9
  (any_goals refine go (eM 7 lv87) 0 ?_)
  (apply jD 17 (c.vals.map valR); (exact rfl); (exact (Cp c.vals).symm); (exact rfl); (intro K0; (try simp only [go_sem]); exact ⟨id⟩))
  (any_goals refine go (eM 8 lv87) 0 ?_)
  (apply dM 1004 i 3 24 (c.frames.map fZ); (exact rfl); (exact qa _); (exact rfl); (exact (by decide)); (exact congrArg (fun z => (1 + u, Res.sl 61 8 z)) (gD c.frames).symm); (exact rfl); (intro K0; (try simp only [go_sem, qs]); exact ⟨id⟩))
  clear qa qs
  (any_goals refine go lv87 0 ?_)
  refine ⟨(i + 1, u + 9), by dsimp only; omega, by dsimp only; omega, ?_⟩
  dsimp only
  rw [hnx]
  exact bE
 obtain rfl : i = s.cells.length := by omega
 have e1 := bR s.cells
 rw [List.take_length]
 clear hi hlt
 (any_goals refine go lv87 0 ?_)
 clear e1
 (apply kQ 7 1007 56 5; (exact rfl); (exact rfl); (intro K0; (try simp only [go_sem]); exact ⟨id⟩))
 refine bX (fun x : Nat × Nat => x.1 ≤ s.threads.length) (fun x => ⟨74, [(1, .os 1 1), (2, .os 2 1), (3, .r (.fn 143 [])), (4, .os 1004 (1 + s.cells.length)), (7, .os 1007 (1 + x.1)), (33, cF s.threads), (34, Iv s.threads.length), (35, Iv x.1)], [(1, 1, .bx [dG s.cells, aS s.shapes, bZ s.texts, cF s.threads, fP s.ends, aS s.said, Iv s.asked, Iv s.steps]), (2, 1, .bx [NilS, NilS, NilS, NilS, NilS, NilS, Iv 0, Iv 0]), (1004, 1 + s.cells.length, .sl 48 4 (s.cells.map cV)), (6, u, .gone), (17, u, .gone), (24, u, .gone), (29, u, .gone), (1007, 1 + x.1, .sl 56 5 ((s.threads.take x.1).map aU)), (9, x.2, .gone), (42, x.2, .gone), (46, x.2, .gone)]⟩) (fun x => s.threads.length - x.1) (0, 0) (Nat.zero_le _) ?_
 rintro ⟨i, w⟩ hi
 dsimp only at hi ⊢
 by_cases hlt : i < s.threads.length
 case pos =>
  obtain ⟨t, hx, hg, h1, h2, hw⟩ := cC aJ s.threads hlt (by omega)
  obtain ⟨r2, r3⟩ := m9 t (List.mem_of_getElem? hx)
  have l10 : (t.frames.map bA).length = t.frames.length := List.length_map ..
  have hnx : (s.threads.take (i + 1)).map aU = (s.threads.take i).map aU ++ [aU t] := by rw [List.take_add_one, hx, List.map_append]; rfl
  have hL : ((s.threads.take i).map aU).length = i := by rw [List.length_map, List.length_take]; omega
  generalize (s.threads.take i).map aU = L at *
  have qa : ∀ X : List AV, (L ++ [X])[i]? = some X := fun X => by rw [List.getElem?_append_right (by omega), hL, Nat.sub_self]; rfl
  have qs : ∀ X Y : List AV, (L ++ [X]).set i Y = L ++ [Y] := fun X Y => by rw [List.set_append_right _ _ (by omega), hL, Nat.sub_self]; rfl
  clear m7 m8 m9
  (any_goals refine go (eM 15 lv87) 0 ?_)
  (apply dM 1007 i 0 42 (t.frames.map fZ); (exact rfl); (exact qa _); (exact rfl); (exact (by decide)); (exact congrArg (fun z => (1 + w, Res.sl 61 8 z)) (gD t.frames).symm); (exact rfl); (intro K0; (try simp only [go_sem, qs]); exact ⟨id⟩))
  clear qa qs
  (any_goals refine go lv87 0 ?_)
  refine ⟨(i + 1, w + 9), by dsimp only; omega, by dsimp only; omega, ?_⟩
  dsimp only
  rw [hnx]
  exact bE
 obtain rfl : i = s.threads.length := by omega
 have e1 := bR s.threads
 rw [List.take_length]
 clear hi hlt
 (any_goals refine go (eM 19 lv87) 0 ?_)
 (apply jD 53 (s.shapes.map valR); (exact rfl); (exact (Cp s.shapes).symm); (exact rfl); (intro K0; (try simp only [go_sem]); exact ⟨id⟩))
 (apply jD 57 (s.texts.map strR); (exact rfl); (exact (Xq s.texts).symm); (exact rfl); (intro K0; (try simp only [go_sem]); exact ⟨id⟩))
 (apply jD 63 (s.ends.map endR); (exact rfl); (exact (Yz s.ends).symm); (exact rfl); (intro K0; (try simp only [go_sem]); exact ⟨id⟩))
 (apply jD 67 (s.said.map valR); (exact rfl); (exact (Cp s.said).symm); (exact rfl); (intro K0; (try simp only [go_sem]); exact ⟨id⟩))
 (any_goals refine go lv87 0 ?_)
 all_goals (try simp only [go_sem])
theorem Jd (s : aC) (hm : Sml s) (a b : Nat) (hab : (a == b) = false) : NOk (C := Cx) 87 [(1004, a), (1007, b)] [aO s] (.agg [.os 1004 (1 + s.cells.length), aS s.shapes, bZ s.texts, .os 1007 (1 + s.threads.length), fP s.ends, aS s.said, Iv s.asked, Iv s.steps]) [ownC 1004 (1 + s.cells.length) s.cells, ownT 1007 (1 + s.threads.length) s.threads] :=
 ⟨Vu s hm, rfl, by simp [ndB, memN, show a ≠ b by simpa using hab], rfl, rfl, fun _ _ => rfl, rfl, fun p hp => by
  rcases List.mem_cons.1 hp with rfl | hp
  ·exact Mu _ _ s.cells s.threads 1004
  ·rcases List.mem_cons.1 hp with rfl | hp
   ·exact Mu _ _ s.cells s.threads 1007
   ·simp at hp, fun q hq => by
  rcases List.mem_cons.1 hq with rfl | hq
  ·exact ⟨rfl, Nat.le_add_right ..⟩
  ·rcases List.mem_cons.1 hq with rfl | hq
   ·exact ⟨rfl, Nat.le_add_right ..⟩
   ·simp at hq⟩
theorem aFh (e1 e2 e3 e4 e5 e6 e7 e8 e9 f1 f2 f3 k a b v1 v2 o1 o2 : Int) : FC Cx 88 [.agg [Iv e1, Iv e2, Iv e3, Iv e4, Iv e5, Iv e6, Iv e7, Iv e8, Iv e9, Iv f1, Iv f2, Iv f3], Iv k, Iv a, Iv b, VV v1 v2, VV o1 o2] [] (.agg [Iv k, Iv e2, Iv e3, Iv e4, Iv e5, Iv e6, Iv a, Iv b, Iv v1, Iv v2, Iv o1, Iv o2]) [] :=
 aD4 ⟨e1, e2, e3, e4, e5, e6, e7, e8, (e9, f1), (f2, f3)⟩ k a b (v1, v2) (o1, o2)
def vU (args : List AV) (K : AV → Prop) : Prop := match args with
 | [.agg [.r (.v (.int .i64 e1)), .r (.v (.int .i64 e2)), .r (.v (.int .i64 e3)), .r (.v (.int .i64 e4)), .r (.v (.int .i64 e5)), .r (.v (.int .i64 e6)), .r (.v (.int .i64 e7)), .r (.v (.int .i64 e8)), .r (.v (.int .i64 e9)), .r (.v (.int .i64 f1)), .r (.v (.int .i64 f2)), .r (.v (.int .i64 f3))], .r (.v (.int .i64 k)), .r (.v (.int .i64 a)), .r (.v (.int .i64 b)), .agg [.r (.v (.int .i64 v1)), .r (.v (.int .i64 v2))], .agg [.r (.v (.int .i64 o1)), .r (.v (.int .i64 o2))]] => K (.agg [Iv k, Iv e2, Iv e3, Iv e4, Iv e5, Iv e6, Iv a, Iv b, Iv v1, Iv v2, Iv o1, Iv o2])
 | _ => False
noncomputable abbrev Zb : Ct Cx := .pure 88 vU fun args K h => by
 unfold vU at h; split at h; exact ⟨_, aA (aFh _ _ _ _ _ _ _ _ _ _ _ _ _ _ _ _ _ _ _) en88 rfl rfl, h⟩; exact h.elim
@[go_sem] theorem aI4 : type_of% @vU.eq_def := @vU.eq_def
theorem Dl (p : aH) (s : aC) (t : aP) (hp : Pgo p) (hfs : ∀ f ∈ t.frames, Gwf f) (hl : t.frames.length ≤ 30) (hl2 : s.threads.length ≤ 9223372036854775807) (hsl : s.cells.length ≤ 9223372036854775807) :
  FC Cx 82 [bQ p, aO s, dT t] [] (Bv (kE p s t)) [] := by
 have l0 : (t.frames.map bA).length = t.frames.length := List.length_map ..
 have l1 : (s.threads.map aJ).length = s.threads.length := List.length_map ..
 have l2 : (p.fns.map fnR).length = p.fns.length := List.length_map ..
 have lc : (s.cells.map aX).length = s.cells.length := List.length_map ..
 unfold kE
 obtain ⟨fs, state, on, ⟨vk, vn⟩⟩ := t
 dsimp only at *
 have w1 : IntKind.i64.wrap ((s.threads.length : Int) - 1) = (s.threads.length : Int) - 1 := by rw [aL] <;> omega
 have hlen : decide ((0 : Int) < (fs.length : Int)) = !decide ((fs.length : Int) = 0) := by
  rw [← decide_not, decide_eq_decide]; omega
 rw [Aj]
 obtain ⟨o3, r1⟩ : ∃ c, decide (state = 3) = c := ⟨_, rfl⟩
 obtain ⟨o4, r2⟩ : ∃ c, decide (state = 4) = c := ⟨_, rfl⟩
 obtain ⟨e, r3⟩ : ∃ c, decide ((fs.length : Int) = 0) = c := ⟨_, rfl⟩
 obtain ⟨v1, r4⟩ : ∃ c, decide (vk = 0) = c := ⟨_, rfl⟩
 obtain ⟨v2, r5⟩ : ∃ c, decide (vn = 0) = c := ⟨_, rfl⟩
 obtain ⟨ff, r6⟩ : ∃ c, fitsF s (vk, vn) = c := ⟨_, rfl⟩
 obtain ⟨w, r7⟩ : ∃ c, decide (0 ≤ state ∧ state ≤ 4) = c := ⟨_, rfl⟩
 obtain ⟨sw, r8⟩ : ∃ c, (if state = 1 then refF s (5, on) 6 else if state = 2 then decide (0 ≤ on ∧ on ≤ (s.threads.length : Int) - 1) else decide (on = 0)) = c := ⟨_, rfl⟩
 by_cases hno : (((o3 || o4) == e) && ((o3 || o4) || (v1 && v2)) && ff && w) = false
 ·have := Am p s ⟨fs, state, on, (vk, vn)⟩ hp hfs hl hl2 hsl (by dsimp only; rw [r1, r2, r3, r4, r5, r6, r7]; exact hno)
  rw [r1, r2, r3, r4, r5, r6, r7, hno]
  exact this
 rw [r3] at hlen
 rw [Bool.not_eq_false] at hno
 rw [r1, r2, r3, r4, r5, r6, r7, r8, hno]
 simp only [Bool.and_eq_true] at hno
 obtain ⟨⟨⟨hoe, hov⟩, rfl⟩, rfl⟩ := hno
 rw [Bool.true_and]
 refine aD [aV, cR, cZ, fA] Tryz.func82 Tryz.ntmps82 Tryz.results82 ?_
 refine goR ?_
 refine fzB 3 ?_
 refine fzB 4 ?_
 refine fzB 5 ?_
 refine jX ?_
 refine mJ (st' := ⟨137, [(3, .r (.rp (dQ p))), (4, bW s), (5, .r (.rp (aJ ⟨fs, state, on, (vk, vn)⟩))), (7, Bv (o3 || o4))], [(3, 2, .gone), (4, 2, .gone), (5, 2, .gone)]⟩) True rfl ?_ fun _ => ?_
 ·cases o3 <;> cases o4
  all_goals
   (any_goals refine go lv82 0 ?_)
   all_goals (try simp only [go_sem])
   exact Lx.le bE
 refine jX ?_
 refine mJ (st' := ⟨137, [(3, .r (.rp (dQ p))), (4, bW s), (5, .r (.rp (aJ ⟨fs, state, on, (vk, vn)⟩))), (48, Bv false)], [(3, 2, .gone), (4, 2, .gone), (5, 2, .gone)]⟩) True rfl ?_ fun _ => ?_
 ·cases o3 <;> cases o4 <;> cases e <;> first | cases hoe | skip
  all_goals cases v1 <;> cases v2 <;> first | cases hov | skip
  all_goals
   (any_goals refine go lv82 0 ?_)
   all_goals (try simp only [go_sem])
   exact Lx.le bE
 clear hoe hov r1 r2 r3 r4 r5 r6 hlen
 refine jX ?_
 refine mJ (st' := ⟨137, [(3, .r (.rp (dQ p))), (4, bW s), (5, .r (.rp (aJ ⟨fs, state, on, (vk, vn)⟩)))], [(3, 2, .gone), (4, 2, .gone), (5, 2, .gone)]⟩) (sw = true) rfl ?_ fun hsw => ?_
 ·by_cases s1 : state = 1
  ·subst s1
   rw [if_pos rfl] at r8
   cases sw with
   | false =>
    rw [Bool.false_and]
    (any_goals refine go lv82 0 ?_)
    all_goals (try simp only [go_sem])
   | true =>
    (any_goals refine go lv82 0 ?_)
    all_goals (try simp only [go_sem])
    exact Lx.le bE
  rw [if_neg s1] at r8
  have d1 : decide (state = 1) = false := by simpa using s1
  by_cases s2 : state = 2
  ·subst s2
   rw [if_pos rfl] at r8
   cases sw with
   | false =>
    rw [Bool.false_and]
    (any_goals refine go lv82 0 ?_)
    all_goals (try simp only [go_sem])
   | true =>
    (any_goals refine go lv82 0 ?_)
    all_goals (try simp only [go_sem])
    exact Lx.le bE
  rw [if_neg s2] at r8
  have d2 : decide (state = 2) = false := by simpa using s2
  cases sw with
  | false =>
   rw [Bool.false_and]
   (any_goals refine go lv82 0 ?_)
   all_goals (try simp only [go_sem])
  | true =>
   (any_goals refine go lv82 0 ?_)
   all_goals (try simp only [go_sem])
   exact Lx.le bE
 subst hsw
 rw [Bool.true_and]
 clear r8 r7
 (any_goals refine go lv82 0 ?_)
 have h60 := hp.fns
 refine bX (fun x : Nat × Nat => x.1 ≤ fs.length ∧ oX p s 0 0 fs = oX p s x.1 (kI fs x.1) (fs.drop x.1)) (fun x => ⟨137, [(3, .r (.rp (dQ p))), (4, bW s), (5, .r (.rp (aJ ⟨fs, state, on, (vk, vn)⟩))), (73, bL fs), (74, Iv fs.length), (75, Iv x.1)], [(3, 2, .gone), (4, 2, .gone), (5, 2, .gone), (9, x.2, .gone)]⟩) (fun x => fs.length - x.1) (0, 0) ⟨Nat.zero_le _, rfl⟩ ?_
 rintro ⟨i, u⟩ ⟨hi, hG⟩
 dsimp only at hi hG ⊢
 by_cases hlt : i < fs.length
 case neg =>
  obtain rfl : i = fs.length := by omega
  have e1 := bR fs
  rw [List.drop_length] at hG
  have hG' : oX p s 0 0 fs = true := hG
  rw [hG']
  clear hG hG'
  (any_goals refine go lv82 0 ?_)
  all_goals (try simp only [go_sem])
 obtain ⟨f, hx, hg, h1, h2, hw⟩ := cC bA fs hlt (by omega)
 have hwf := hfs f (List.mem_of_getElem? hx)
 have hd : fs.drop i = f :: fs.drop (i + 1) := by rw [← List.getElem_cons_drop hlt]; congr 1; exact (List.getElem?_eq_some_iff.1 hx).2
 have hnx : kI fs (i + 1) = f.regs.length := by
  unfold kI
  rw [if_neg (by omega), Nat.add_sub_cancel, List.getD_eq_getElem?_getD, hx]; rfl
 rw [hd] at hG
 have hst : oX p s i (kI fs i) (f :: fs.drop (i + 1)) = (cU p s f && decide (-1 ≤ f.tov ∧ f.tov ≤ kI fs i - 1) && ((p.fns.getD f.fn.toNat fn0).gen == !decide (f.gen = -1)) && (!(p.fns.getD f.fn.toNat fn0).gen || iP s i f) && oX p s (i + 1) f.regs.length (fs.drop (i + 1))) := rfl
 rw [hst] at hG
 clear hst hd
 obtain ⟨fn, pc, tov, gen, ⟨sk, sn⟩, regs, tries⟩ := f
 dsimp only at hG hnx
 have lr : (regs.map valR).length = regs.length := List.length_map ..
 have eR : Int.toNat ((i : Int) - 1) = i - 1 := by omega
 cases hfr : cU p s ⟨fn, pc, tov, gen, (sk, sn), regs, tries⟩ with
 | false =>
  rw [hfr] at hG
  simp only [Bool.false_and] at hG
  rw [hG]
  clear hG hnx
  (any_goals refine go lv82 0 ?_)
  all_goals (try simp only [go_sem])
 | true =>
 obtain ⟨⟨f1, f2⟩, _, _⟩ := iI hfr
 dsimp only at f1 f2
 obtain ⟨F, hF⟩ : ∃ F, p.fns[fn.toNat]? = some F := ⟨p.fns[fn.toNat]'(by omega), List.getElem?_eq_getElem _⟩
 have gF := aE fnR hF ([] : List RV)
 have eF : p.fns.getD fn.toNat fn0 = F := by rw [List.getD_eq_getElem?_getD, hF]; rfl
 obtain ⟨b4, h4⟩ : ∃ b, F.gen = b := ⟨_, rfl⟩
 obtain ⟨b1, k1⟩ : ∃ b, decide (-1 ≤ tov ∧ tov ≤ kI fs i - 1) = b := ⟨_, rfl⟩
 obtain ⟨b2, k2⟩ : ∃ b, decide (gen = -1) = b := ⟨_, rfl⟩
 rw [hfr, k1, eF, h4, k2] at hG
 simp only [Bool.true_and] at hG
 clear eF
 by_cases i0 : i = 0
 ·have e0 : decide ((0 : Int) < (i : Int)) = false := by rw [decide_eq_false_iff_not]; omega
  have e2 : decide ((i : Int) = 0) = true := by rw [decide_eq_true_eq]; omega
  have hgo : iP s i ⟨fn, pc, tov, gen, (sk, sn), regs, tries⟩ = false := by unfold iP; rw [decide_eq_true i0]; rfl
  have k1' : decide (-1 ≤ tov ∧ tov ≤ -1) = b1 := by rw [← k1]; unfold kI; rw [if_pos i0]; rfl
  clear i0 k1
  cases b1 with
  | false =>
   simp only [Bool.false_and] at hG
   rw [hG]
   clear hG hnx
   (any_goals refine go lv82 0 ?_)
   all_goals (try simp only [go_sem])
  | true =>
  cases b4 <;> cases b2
  ·replace hG := hG.trans (show _ = false by simp)
   rw [hG]
   clear hG hnx
   (any_goals refine go lv82 0 ?_)
   all_goals (try simp only [go_sem])
  ·simp only [Bool.true_and, Bool.not_false, Bool.not_true, Bool.true_or, beq_self_eq_true] at hG
   (any_goals refine go lv82 0 ?_)
   refine ⟨(i + 1, u + 9), ⟨by dsimp only; omega, by dsimp only; rw [hG, hnx]⟩, by dsimp only; omega, ?_⟩
   dsimp only
   exact bE
  ·rw [hgo] at hG
   simp only [Bool.true_and, Bool.not_false, Bool.not_true, Bool.or_self, Bool.false_and, beq_self_eq_true] at hG
   clear hgo
   rw [hG]
   clear hG hnx
   (any_goals refine go lv82 0 ?_)
   all_goals (try simp only [go_sem])
  ·replace hG := hG.trans (show _ = false by simp)
   rw [hG]
   clear hG hnx
   (any_goals refine go lv82 0 ?_)
   all_goals (try simp only [go_sem])
 ·have e0 : decide ((0 : Int) < (i : Int)) = true := by rw [decide_eq_true_eq]; omega
  have e2 : decide ((i : Int) = 0) = false := by rw [decide_eq_false_iff_not]; omega
  have w2 : IntKind.i64.wrap ((i : Int) - 1) = (i : Int) - 1 := by rw [aL] <;> omega
  obtain ⟨f0, hf0⟩ : ∃ v, fs[i - 1]? = some v := ⟨fs[i - 1], List.getElem?_eq_getElem (by omega)⟩
  have hg0 := aE bA hf0 ([] : List RV)
  have lr0 : (f0.regs.map valR).length = f0.regs.length := List.length_map ..
  have hwf0 := (hfs f0 (List.mem_of_getElem? hf0)).regs
  have w3 : IntKind.i64.wrap ((f0.regs.length : Int) - 1) = (f0.regs.length : Int) - 1 := by rw [aL] <;> omega
  have i1 : 1 ≤ i := by omega
  have hgo : iP s i ⟨fn, pc, tov, gen, (sk, sn), regs, tries⟩ = (refF s (5, gen) 5 && decide ((s.cells.getD gen.toNat dZ).num = 1)) := by unfold iP; rw [decide_eq_false i0]; rfl
  have k1' : decide (-1 ≤ tov ∧ tov ≤ (f0.regs.length : Int) - 1) = b1 := by rw [← k1]; unfold kI; rw [if_neg i0, List.getD_eq_getElem?_getD, hf0]; rfl
  clear i0 k1
  cases b1 with
  | false =>
   simp only [Bool.false_and] at hG
   rw [hG]
   clear hG hnx
   (any_goals refine go lv82 0 ?_)
   all_goals (try simp only [go_sem])
  | true =>
  cases b4 <;> cases b2
  ·replace hG := hG.trans (show _ = false by simp)
   rw [hG]
   clear hG hnx
   (any_goals refine go lv82 0 ?_)
   all_goals (try simp only [go_sem])
  ·simp only [Bool.true_and, Bool.not_false, Bool.not_true, Bool.true_or, beq_self_eq_true] at hG
   (any_goals refine go lv82 0 ?_)
   refine ⟨(i + 1, u + 9), ⟨by dsimp only; omega, by dsimp only; rw [hG, hnx]⟩, by dsimp only; omega, ?_⟩
   dsimp only
   exact bE
  ·simp only [Bool.true_and, Bool.not_false, Bool.not_true, Bool.false_or, beq_self_eq_true] at hG
   rw [hgo] at hG
   clear hgo
   cases hr : refF s (5, gen) 5 with
   | false =>
    rw [hr] at hG
    simp only [Bool.false_and] at hG
    rw [hG]
    clear hG hnx
    (any_goals refine go lv82 0 ?_)
    all_goals (try simp only [go_sem])
   | true =>
   have hr2 := Hl hr
   obtain ⟨n0, n1, _⟩ := hr2
   obtain ⟨c, hc⟩ : ∃ c, s.cells[gen.toNat]? = some c := ⟨s.cells[gen.toNat]'(by omega), List.getElem?_eq_getElem _⟩
   have gC := aE aX hc ([] : List RV)
   rw [hr, mE hc] at hG
   cases hnum : decide (c.num = 1) with
   | false =>
    rw [hnum] at hG
    simp only [Bool.and_false, Bool.false_and] at hG
    rw [hG]
    clear hG hnx
    (any_goals refine go lv82 0 ?_)
    all_goals (try simp only [go_sem])
   | true =>
    rw [hnum] at hG
    simp only [Bool.true_and] at hG
    (any_goals refine go lv82 0 ?_)
    refine ⟨(i + 1, u + 9), ⟨by dsimp only; omega, by dsimp only; rw [hG, hnx]⟩, by dsimp only; omega, ?_⟩
    dsimp only
    exact bE
  ·replace hG := hG.trans (show _ = false by simp)
   rw [hG]
   clear hG hnx
   (any_goals refine go lv82 0 ?_)
   all_goals (try simp only [go_sem])
theorem Nw {l : List Int} {k : Nat} {g : Int} (h : l[k]? = some g) : decide (l.take (k + 1)).Nodup = (decide (l.take k).Nodup && (l.take k).all fun u => !decide (g = u)) := by
 rw [List.take_add_one, h, Bool.eq_iff_iff]
 simp only [Option.toList, Bool.and_eq_true, decide_eq_true_eq, List.all_eq_true, Bool.not_eq_true', decide_eq_false_iff_not, List.nodup_append]
 constructor
 ·rintro ⟨h1, _, h3⟩
  exact ⟨h1, fun u hu he => h3 u hu g (by simp) he.symm⟩
 ·rintro ⟨h1, h2⟩
  refine ⟨h1, by simp, fun a ha b hb => ?_⟩
  simp at hb; subst hb
  exact fun he => h2 a ha he.symm
theorem Fo {l m : List ByteArray} {k : Nat} {x y : ByteArray} (hx : l[k]? = some x) (hy : m[k]? = some y) : decide (l.take (k + 1) = m.take (k + 1)) = (decide (l.take k = m.take k) && decide (x = y)) := by
 rw [List.take_add_one, hx, List.take_add_one, hy, Bool.eq_iff_iff, Bool.and_eq_true]
 simp only [Option.toList]
 have e : (l.take k).length = (m.take k).length := by
  have h1 := (List.getElem?_eq_some_iff.1 hx).1
  have h2 := (List.getElem?_eq_some_iff.1 hy).1
  rw [List.length_take, List.length_take]; omega
 constructor
 ·intro h
  have := List.append_inj (of_decide_eq_true h) e
  exact ⟨decide_eq_true this.1, decide_eq_true (by simpa using this.2)⟩
 ·rintro ⟨h1, h2⟩
  refine decide_eq_true ?_
  rw [of_decide_eq_true h1, of_decide_eq_true h2]
theorem Nb {s : aC} (h : cW s = 0) {c : bM} (hc : c ∈ s.cells) : (c.kind = 4 → 0 ≤ c.num) ∧ (c.kind = 5 → c.num = 0 → c.frames.length = 1) := by
 have := (qC.1 h).cells c hc
 unfold eB at this
 simp only [Bool.and_eq_true, decide_eq_true_eq] at this
 obtain ⟨⟨⟨⟨⟨_, a2⟩, _⟩, a4⟩, _⟩, _⟩ := this
 refine ⟨fun k4 => ?_, fun k5 n0 => ?_⟩
 ·unfold numF at a2
  rw [if_neg (by rw [k4]; decide), if_pos k4] at a2
  simpa using a2
 ·have : dE c = 1 := if_pos ⟨k5, n0⟩
  rw [this] at a4; omega
theorem tP (p : aH) (s : aC) (hw : Pwf p) (hs : Swf s) (hrg : kP s) (h : checkF p ≠ 0 ∨ cW s ≠ 0) : FC Cx 31 [bQ p, aO s] [] (Iv (eO p s)) [] := by
 rw [Kp]
 by_cases hp : checkF p = 0
 case neg =>
  rw [if_pos hp]
  have d0 : decide (checkF p = 0) = false := by simpa using hp
  clear hp h
  refine aD [xU, oY] Tryz.func31 Tryz.ntmps31 Tryz.results31 ?_
  refine goR ?_
  refine fzB 2 ?_
  refine fzB 3 ?_
  (any_goals refine go lv31 0 ?_)
  all_goals (try simp only [go_sem])
 have hh : cW s ≠ 0 := h.resolve_left (by simpa using hp)
 rw [if_neg (by simpa using hp), if_pos hh]
 have d0 : decide (checkF p = 0) = true := by simpa using hp
 have d1 : decide (cW s = 0) = false := by simpa using hh
 clear hp hh h
 refine aD [xU, oY] Tryz.func31 Tryz.ntmps31 Tryz.results31 ?_
 refine goR ?_
 refine fzB 2 ?_
 refine fzB 3 ?_
 (any_goals refine go lv31 0 ?_)
 all_goals (try simp only [go_sem])
theorem Ib (p : aH) (s : aC) (hw : Pwf p) (hs : Swf s) (hrg : kP s) : FC Cx 31 [bQ p, aO s] [] (Iv (eO p s)) [] := by
 by_cases hp : checkF p = 0
 case neg => exact tP p s hw hs hrg (.inl hp)
 by_cases hh : cW s = 0
 case neg => exact tP p s hw hs hrg (.inr hh)
 have hgo := Co hw hp
 have hcs := fun (c : bM) (hc : c ∈ s.cells) => Nb hh hc
 obtain ⟨s1, s2, s3, s4, s5, s6⟩ := hs.len
 have p3 := hw.sz.texts
 have h60 := hgo.fns
 have l1 : (s.cells.map aX).length = s.cells.length := List.length_map ..
 have l2 : (s.texts.map strR).length = s.texts.length := List.length_map ..
 have l3 : (s.threads.map aJ).length = s.threads.length := List.length_map ..
 have l4 : (p.texts.map strR).length = p.texts.length := List.length_map ..
 have l5 : (p.fns.map fnR).length = p.fns.length := List.length_map ..
 rw [Kp, if_neg (by simpa using hp), if_neg (by simpa using hh)]
 have d0 : decide (checkF p = 0) = true := by simpa using hp
 have d1 : decide (cW s = 0) = true := by simpa using hh
 refine aD [xU, oY, aV] Tryz.func31 Tryz.ntmps31 Tryz.results31 ?_
 refine goR ?_
 refine fzB 2 ?_
 refine fzB 3 ?_
 (any_goals refine go lv31 0 ?_)
 clear d0 d1
 -- threads that are too large
 generalize hA0 : decide ((5 : Int) < (s.threads.length : Int)) = A0
 refine cI [2, 3, 7, 38, 39, 40] (fun x : Nat × Nat => x.1 ≤ s.threads.length) (fun x => let k := x.1; let u := x.2; ⟨245, [(2, .r (.rp (dQ p))), (3, bW s), (7, Bv (A0 || (s.threads.take k).any fun t => decide ((30 : Int) < (t.frames.length : Int)))), (38, cF s.threads), (39, Iv s.threads.length), (40, Iv k)], [(2, 2, .gone), (3, 2, .gone), (9, u, .gone), (19, u, .gone), (20, u, .gone), (22, u, .gone)]⟩) (fun x => s.threads.length - x.1) (0, 0) (Nat.zero_le _) ?_ rfl (by simp [cE, memN, hA0])
 rintro ⟨k, u⟩ hk
 dsimp only at hk ⊢
 by_cases hlt : k < s.threads.length
 case pos =>
  obtain ⟨t, hx, hg, h1, h2, hw'⟩ := cC aJ s.threads hlt (by omega)
  have lf : (t.frames.map bA).length = t.frames.length := List.length_map ..
  have eb := rM (q := fun t : aP => decide ((30 : Int) < (t.frames.length : Int))) hx
  generalize (s.threads.take k).any (fun t => decide ((30 : Int) < (t.frames.length : Int))) = T at *
  (any_goals refine go lv31 0 ?_)
  refine ⟨(k + 1, u + 9), by dsimp only; omega, by dsimp only; omega, ?_⟩
  dsimp only
  rw [eb, ← Bool.or_assoc]
  exact aY [2, 3, 7, 38, 39, 40]
 obtain rfl : k = s.threads.length := by omega
 have e1 := bR s.threads
 have c2 : (A0 || s.threads.any fun t => decide ((30 : Int) < (t.frames.length : Int))) = yV s := by rw [← hA0]; rfl
 rw [List.take_length, c2]
 clear hlt hk c2 hA0
 cases hL : yV s with
 | true =>
  rw [if_pos rfl]
  (any_goals refine go lv31 0 ?_)
  all_goals (try simp only [go_sem])
 | false =>
 rw [if_neg (by simp)]
 have hfew : s.threads.length ≤ 5 ∧ ∀ t ∈ s.threads, t.frames.length ≤ 30 := by
  simp only [yV, Bool.or_eq_false_iff, decide_eq_false_iff_not, List.any_eq_false, decide_eq_true_eq] at hL
  exact ⟨by omega, fun t ht => by have := hL.2 t ht; omega⟩
 clear hL
 (any_goals refine go lv31 0 ?_)
 clear e1
 -- its texts begin with the program's
 generalize hB0 : (decide ((0 : Int) < (s.threads.length : Int)) && decide ((p.texts.length : Int) ≤ (s.texts.length : Int)) && decide (0 ≤ s.steps ∧ s.steps ≤ 1000000000) && decide (0 ≤ s.asked ∧ s.asked ≤ 1000000000)) = B0
 refine cI [2, 3, 10, 77, 78, 79] (fun k : Nat => k ≤ p.texts.length) (fun k => ⟨245, [(2, .r (.rp (dQ p))), (3, bW s), (10, Bv (B0 && decide (s.texts.take k = p.texts.take k))), (77, bZ p.texts), (78, Iv p.texts.length), (79, Iv k)], [(2, 2, .gone), (3, 2, .gone), (9, u, .gone), (19, u, .gone), (20, u, .gone), (22, u, .gone)]⟩) (fun k => p.texts.length - k) 0 (Nat.zero_le _) ?_ rfl (by simp [cE, memN, hB0])
 intro k hk
 by_cases hlt : k < p.texts.length
 case pos =>
  obtain ⟨t, hx, hg, h1, h2, hw'⟩ := cC strR p.texts hlt (by omega)
  cases hq : (B0 && decide (s.texts.take k = p.texts.take k)) with
  | false =>
   have hn : (B0 && decide (s.texts.take (k + 1) = p.texts.take (k + 1))) = false := by
    rw [Bool.eq_false_iff] at hq ⊢
    intro h
    rw [Bool.and_eq_true] at h
    have h2 := of_decide_eq_true h.2
    refine hq ?_
    rw [Bool.and_eq_true]
    refine ⟨h.1, decide_eq_true ?_⟩
    have := congrArg (List.take k) h2
    rwa [List.take_take, List.take_take, Nat.min_eq_left (by omega)] at this
   clear hq
   (any_goals refine go lv31 0 ?_)
   refine ⟨k + 1, by omega, by omega, ?_⟩
   rw [hn]
   exact aY [2, 3, 10, 77, 78, 79]
  | true =>
   rw [Bool.and_eq_true] at hq
   have hle : p.texts.length ≤ s.texts.length := by
    have h := hq.1
    rw [← hB0] at h
    simp only [Bool.and_eq_true, decide_eq_true_eq] at h
    omega
   obtain ⟨y, hy⟩ : ∃ y, s.texts[k]? = some y := ⟨s.texts[k]'(by omega), List.getElem?_eq_getElem _⟩
   have hgy := aE strR hy ([] : List RV)
   have hn : (B0 && decide (s.texts.take (k + 1) = p.texts.take (k + 1))) = decide (y = t) := by rw [Fo hy hx, hq.1, hq.2]; rfl
   clear hq
   (any_goals refine go lv31 0 ?_)
   refine ⟨k + 1, by omega, by omega, ?_⟩
   rw [hn]
   exact aY [2, 3, 10, 77, 78, 79]
 obtain rfl : k = p.texts.length := by omega
 have e1 := bR p.texts
 have hP : (B0 && decide (s.texts.take p.texts.length = p.texts.take p.texts.length)) = preD p s := by
  rw [List.take_length, ← hB0]
  unfold preD
  have a1 : decide ((0 : Int) < (s.threads.length : Int)) = decide (0 < s.threads.length) := by rw [decide_eq_decide]; omega
  have a2 : decide ((p.texts.length : Int) ≤ (s.texts.length : Int)) = decide (p.texts.length ≤ s.texts.length) := by rw [decide_eq_decide]; omega
  rw [a1, a2]
 rw [hP]
 clear hlt hk hP hB0
 unfold Hw
 cases preD p s with
 | false =>
  simp only [Bool.false_and]
  (any_goals refine go lv31 0 ?_)
  all_goals (try simp only [go_sem])
 | true =>
 rw [Bool.true_and]
 obtain ⟨hf5, hf30⟩ := hfew
 have hgl := xK hf30
 have hA : ∀ y, y = [aO s] → aT Cx 79 y (cX (gN s.threads)) := fun y hy => by
  subst hy; exact aA (aB6 s hf5 hf30) en79 rfl rfl
 have lG : ((gN s.threads).map intR).length = (gN s.threads).length := List.length_map ..
 have hG150 : (gN s.threads).length ≤ 150 := by omega
 have hT : ∀ t ∈ s.threads, ∀ y, y = [bQ p, aO s, dT t] → aT Cx 82 y (Bv (kE p s t)) := fun t ht y hy => by
  subst hy; exact aA (Dl p s t hgo (hs.thread t ht).2 (hf30 t ht) (by omega) (by omega)) en82 rfl rfl
 have hD : ∀ x, tQ p s x = (dJ p s x.1 && (!(decide (x.1.kind = 5) && decide (x.1.num = 1)) || decide ((x.2 : Int) ∈ gN s.threads))) := fun x => rfl
 generalize gN s.threads = G at *
 refine Rn_T [ctE 79 [aO s] (cX G) hA] ?_
 (any_goals refine go lv31 0 ?_)
 clear e1
 -- no generator goes on twice
 refine cI [2, 3, 10, 13, 99, 100, 101] (fun k : Nat => k ≤ G.length) (fun k => ⟨245, [(2, .r (.rp (dQ p))), (3, bW s), (10, Bv (decide (G.take k).Nodup)), (13, cX G), (99, cX G), (100, Iv G.length), (101, Iv k)], [(2, 2, .gone), (3, 2, .gone), (9, u, .gone), (19, u, .gone), (20, u, .gone), (22, u, .gone)]⟩) (fun k => G.length - k) 0 (Nat.zero_le _) ?_ rfl (by simp [cE, memN])
 intro k hk
 by_cases hlt : k < G.length
 case pos =>
  obtain ⟨g, hx, hg, h1, h2, hw'⟩ := cC intR G hlt (by omega)
  have hm : List.drop 0 (List.take k (G.map intR)) = (G.take k).map intR := by rw [List.map_take]; rfl
  have lm : ((G.take k).map intR).length = k := by simp; omega
  have hn := Nw hx
  generalize decide (G.take k).Nodup = X at *
  (any_goals refine go lv31 0 ?_)
  refine cI [2, 3, 10, 13, 99, 100, 101, 15, 108, 109, 110] (fun i : Nat => i ≤ k) (fun i => ⟨245, [(2, .r (.rp (dQ p))), (3, bW s), (10, Bv (X && ((G.take k).take i).all fun u => !decide (g = u))), (13, cX G), (99, cX G), (100, Iv G.length), (101, Iv k), (15, Iv g), (108, cX (G.take k)), (109, Iv k), (110, Iv i)], [(2, 2, .gone), (3, 2, .gone), (9, u, .gone), (19, u, .gone), (20, u, .gone), (22, u, .gone)]⟩) (fun i => k - i) 0 (Nat.zero_le _) ?_ rfl (by simp [cE, memN])
  intro i hi
  by_cases hik : i < k
  case pos =>
   have c2 : decide ((i : Int) < (k : Int)) = true := by rw [decide_eq_true_eq]; omega
   have t2 : Int.toNat (i : Int) = i := by omega
   have w2 : IntKind.i64.wrap ((i : Int) + 1) = ((i + 1 : Nat) : Int) := by rw [aL] <;> omega
   obtain ⟨y, hy⟩ : ∃ y, (G.take k)[i]? = some y := ⟨(G.take k)[i]'(by simp; omega), List.getElem?_eq_getElem _⟩
   have hgy := aE intR hy ([] : List RV)
   clear hn
   (any_goals refine go lv31 0 ?_)
   refine ⟨i + 1, by omega, by omega, ?_⟩
   rw [iH hy, ← Bool.and_assoc]
   exact aY [2, 3, 10, 13, 99, 100, 101, 15, 108, 109, 110]
  obtain rfl : i = k := by omega
  have c2 : decide ((i : Int) < (i : Int)) = false := by rw [decide_eq_false_iff_not]; omega
  rw [List.take_of_length_le (l := G.take i) (by simp; omega), ← hn]
  clear hn
  (any_goals refine go lv31 0 ?_)
  refine ⟨i + 1, by omega, by omega, ?_⟩
  exact aY [2, 3, 10, 13, 99, 100, 101]
 obtain rfl : k = G.length := by omega
 have e1 := bR G
 rw [List.take_length]
 clear hlt hk
 generalize hB1 : decide G.Nodup = B1
 (any_goals refine go lv31 0 ?_)
 clear e1
 -- cells
 have lz : s.cells.zipIdx.length = s.cells.length := List.length_zipIdx
 refine cI [2, 3, 10, 13, 123, 124, 125] (fun x : Nat × Nat => x.1 ≤ s.cells.length) (fun x => let k := x.1; let u := x.2; ⟨245, [(2, .r (.rp (dQ p))), (3, bW s), (10, Bv (B1 && (s.cells.zipIdx.take k).all (tQ p s))), (13, cX G), (123, dG s.cells), (124, Iv s.cells.length), (125, Iv k)], [(2, 2, .gone), (3, 2, .gone), (9, u, .gone), (19, u, .gone), (20, u, .gone), (22, u, .gone)]⟩) (fun x => s.cells.length - x.1) (0, u) (Nat.zero_le _) ?_ rfl (by simp [cE, memN])
 clear u
 rintro ⟨k, u⟩ hk
 dsimp only at hk ⊢
 by_cases hlt : k < s.cells.length
 case pos =>
  obtain ⟨c, hx, hg, h1, h2, hw'⟩ := cC aX s.cells hlt (by omega)
  have hz : s.cells.zipIdx[k]? = some (c, k) := by rw [List.getElem?_zipIdx, hx]; simp
  have eb := iH (q := tQ p s) hz
  rw [hD (c, k)] at eb
  have hcw := hs.cell c (List.mem_of_getElem? hx)
  obtain ⟨hc4, hc5⟩ := hcs c (List.mem_of_getElem? hx)
  generalize hT' : (s.cells.zipIdx.take (k + 1)).all (tQ p s) = T' at *
  generalize (s.cells.zipIdx.take k).all (tQ p s) = T at *
  clear hx hz hD hT
  have lv : (c.vals.map valR).length = c.vals.length := List.length_map ..
  have lf : (c.frames.map bA).length = c.frames.length := List.length_map ..
  have ww : IntKind.i64.wrap ((p.fns.length : Int) - 1) = (p.fns.length : Int) - 1 := by rw [aL] <;> omega
  obtain ⟨kind, num, vals, frames⟩ := c
  dsimp only at *
  (any_goals refine go (eM 36 lv31) 0 ?_)
  refine goR1 lv31 0 ?_
  refine mJ (st' := ⟨245, [(2, .r (.rp (dQ p))), (3, bW s), (10, Bv (B1 && T')), (13, cX G), (123, dG s.cells), (124, Iv s.cells.length), (125, Iv k)], [(2, 2, .gone), (3, 2, .gone), (9, u + 9, .gone), (19, u + 9, .gone), (20, u + 9, .gone), (22, u + 9, .gone)]⟩) True rfl ?_ fun _ => ?_
  ·clear hT' hk hlt h1 h2 hw' lz hp hh hcs hf30 hgl hf5 s2 s3 s4 s5 s6 hs hrg hw
   have no : (B1 && T) = false → (B1 && T') = false := fun h => by rw [eb, ← Bool.and_assoc, h]; rfl
   by_cases k4 : kind = 4
   ·subst k4
    have n0 := hc4 rfl
    have eH : dJ p s ⟨4, num, vals, frames⟩ = (decide (num < (p.fns.length : Int)) && decide ((vals.length : Int) = ((p.fns.getD num.toNat fn0).caught.length : Int))) := by unfold dJ; rw [if_pos rfl]
    rw [eH, show decide ((4 : Int) = 5) = false from rfl, Bool.false_and, Bool.not_false, Bool.true_or, Bool.and_true] at eb
    cases hb : (B1 && T) with
    | false =>
     rw [no hb]
     clear no eb eH hc4 hc5 hcw n0
     (any_goals refine go lv31 0 ?_)
     all_goals (try simp only [go_sem])
     exact Lx.le (aY [2, 3, 10, 13, 123, 124, 125])
    | true =>
     have e : (B1 && T') = (decide (num < (p.fns.length : Int)) && decide ((vals.length : Int) = ((p.fns.getD num.toNat fn0).caught.length : Int))) := by rw [eb, ← Bool.and_assoc, hb, Bool.true_and]
     rw [e]
     clear no eb eH hc4 hc5 hcw e
     by_cases hn : num < (p.fns.length : Int)
     ·have dn : decide (num < (p.fns.length : Int)) = true := by simpa using hn
      have hmin : (if (p.fns.length : Int) - 1 < num then (p.fns.length : Int) - 1 else num) = num := if_neg (by omega)
      obtain ⟨F, hF⟩ : ∃ F, p.fns[num.toNat]? = some F := ⟨p.fns[num.toNat]'(by omega), List.getElem?_eq_getElem _⟩
      have gF := aE fnR hF ([] : List RV)
      have eF : p.fns.getD num.toNat fn0 = F := by simp [List.getD, hF]
      have lc : (F.caught.map intR).length = F.caught.length := List.length_map ..
      rw [eF, dn, Bool.true_and]
      clear eF hF
      (any_goals refine go lv31 0 ?_)
      all_goals (try simp only [go_sem])
      exact Lx.le (aY [2, 3, 10, 13, 123, 124, 125])
     ·have dn : decide (num < (p.fns.length : Int)) = false := by simpa using hn
      rw [dn, Bool.false_and]
      clear hn
      (any_goals refine go lv31 0 ?_)
      all_goals (try simp only [go_sem])
      exact Lx.le (aY [2, 3, 10, 13, 123, 124, 125])
   have d4 : decide (kind = 4) = false := by simpa using k4
   by_cases k5 : kind = 5
   case neg =>
    have d5 : decide (kind = 5) = false := by simpa using k5
    have eH : dJ p s ⟨kind, num, vals, frames⟩ = true := by unfold dJ; rw [if_neg k4, if_neg k5]
    rw [eH, d5, Bool.false_and, Bool.not_false, Bool.true_or, Bool.and_true, Bool.and_true] at eb
    rw [eb]
    clear no eb eH hc4 hc5 hcw k4 k5
    (any_goals refine go lv31 0 ?_)
    all_goals (try simp only [go_sem])
    exact Lx.le (aY [2, 3, 10, 13, 123, 124, 125])
   subst k5
   rw [show decide ((5 : Int) = 5) = true from rfl, Bool.true_and] at eb
   clear hc4 k4 d4
   by_cases n0 : num = 0
   ·subst n0
    obtain ⟨f, rfl⟩ := List.length_eq_one_iff.1 (hc5 rfl rfl)
    have hfw := hcw.frame f (List.mem_singleton.2 rfl)
    have eH : dJ p s ⟨5, 0, vals, [f]⟩ = fJ p s f := by unfold dJ; rw [if_neg (show ¬ (5 : Int) = 4 from by decide), if_pos rfl]; rfl
    rw [eH, show decide ((0 : Int) = 1) = false from rfl, Bool.not_false, Bool.true_or, Bool.and_true] at eb
    clear hc5 hcw eH
    refine Rn_T [fA] ?_
    cases hb : (B1 && T) with
    | false =>
     rw [no hb]
     clear no eb hfw
     obtain ⟨fn, pc, tov, gen, ⟨sk, sn⟩, regs, tries⟩ := f
     (any_goals refine go lv31 0 ?_)
     all_goals (try simp only [go_sem])
     exact Lx.le (aY [2, 3, 10, 13, 123, 124, 125])
    | true =>
    have e : (B1 && T') = fJ p s f := by rw [eb, ← Bool.and_assoc, hb, Bool.true_and]
    rw [e]
    clear no eb e
    obtain ⟨fn, pc, tov, gen, ⟨sk, sn⟩, regs, tries⟩ := f
    cases hfr : cU p s ⟨fn, pc, tov, gen, (sk, sn), regs, tries⟩ with
    | false =>
     have e : fJ p s ⟨fn, pc, tov, gen, (sk, sn), regs, tries⟩ = false := by unfold fJ; rw [hfr]; rfl
     rw [e]
     clear e
     (any_goals refine go lv31 0 ?_)
     all_goals (try simp only [go_sem])
     exact Lx.le (aY [2, 3, 10, 13, 123, 124, 125])
    | true =>
    obtain ⟨⟨g1, g2⟩, g3, g4⟩ := iI hfr
    dsimp only at g1 g2 g3 g4
    obtain ⟨F, hF⟩ : ∃ F, p.fns[fn.toNat]? = some F := ⟨p.fns[fn.toNat]'(by omega), List.getElem?_eq_getElem _⟩
    have gF := aE fnR hF ([] : List RV)
    have gF2 : p.fns.getD fn.toNat fn0 = F := by simp [List.getD, hF]
    have lc : (F.code.map insR).length = F.code.length := List.length_map ..
    rw [gF2] at g4
    have e : fJ p s ⟨fn, pc, tov, gen, (sk, sn), regs, tries⟩ = (decide (tov = -1) && decide (gen = -1) && F.gen && (decide (pc = 0) || decide ((F.code.getD (pc - 1).toNat ins0).op = 32))) := by
     unfold fJ; rw [hfr, Bool.true_and]; dsimp only; rw [gF2]
    rw [e]
    clear gF2 e
    by_cases hp0 : pc = 0
    ·have d0 : decide (pc = 0) = true := by simpa using hp0
     clear hp0
     rw [d0]
     cases t1 : decide (tov = -1) <;> cases t2 : decide (gen = -1) <;> cases t3 : F.gen
     all_goals
      (any_goals refine go lv31 0 ?_)
      all_goals (try simp only [go_sem])
      exact Lx.le (aY [2, 3, 10, 13, 123, 124, 125])
    ·have d0 : decide (pc = 0) = false := by simpa using hp0
     have w1 : IntKind.i64.wrap (pc - 1) = pc - 1 := by have := hgo.fns; have := (hgo.cok F (List.mem_of_getElem? hF)).len; rw [aL] <;> omega
     obtain ⟨I, hI⟩ : ∃ I, F.code[(pc - 1).toNat]? = some I := ⟨F.code[(pc - 1).toNat]'(by omega), List.getElem?_eq_getElem _⟩
     have gI := aE insR hI ([] : List RV)
     have gI2 : F.code.getD (pc - 1).toNat ins0 = I := by rw [List.getD_eq_getElem?_getD, hI]; rfl
     have hp1 : 1 ≤ pc := by omega
     rw [d0, gI2]
     clear gI2 hp0
     cases t1 : decide (tov = -1) <;> cases t2 : decide (gen = -1) <;> cases t3 : F.gen
     all_goals
      (any_goals refine go lv31 0 ?_)
      all_goals (try simp only [go_sem])
      exact Lx.le (aY [2, 3, 10, 13, 123, 124, 125])
   have dn0 : decide (num = 0) = false := by simpa using n0
   have eH : dJ p s ⟨5, num, vals, frames⟩ = true := by unfold dJ; rw [if_neg (show ¬ (5 : Int) = 4 from by decide), if_pos rfl]; dsimp only; rw [dn0]; rfl
   rw [eH, Bool.true_and] at eb
   clear hc5 hcw eH
   by_cases n1 : num = 1
   ·subst n1
    rw [show decide ((1 : Int) = 1) = true from rfl, Bool.not_true, Bool.false_or] at eb
    refine Rn_T [Sh.ct_hasI] ?_
    cases hb : (B1 && T) with
    | false =>
     rw [no hb]
     clear no eb
     (any_goals refine go lv31 0 ?_)
     all_goals (try simp only [go_sem])
     exact Lx.le (aY [2, 3, 10, 13, 123, 124, 125])
    | true =>
     have e : (B1 && T') = decide ((k : Int) ∈ G) := by rw [eb, ← Bool.and_assoc, hb, Bool.true_and]
     rw [e]
     clear no eb e
     (any_goals refine go lv31 0 ?_)
     all_goals (try simp only [go_sem])
     exact Lx.le (aY [2, 3, 10, 13, 123, 124, 125])
   ·have dn1 : decide (num = 1) = false := by simpa using n1
    rw [dn1, Bool.not_false, Bool.true_or, Bool.and_true] at eb
    rw [eb]
    clear no eb n0 n1
    (any_goals refine go lv31 0 ?_)
    all_goals (try simp only [go_sem])
    exact Lx.le (aY [2, 3, 10, 13, 123, 124, 125])
  clear eb hc4 hc5 hcw
  (any_goals refine go lv31 0 ?_)
  refine ⟨(k + 1, u + 9), by dsimp only; omega, by dsimp only; omega, ?_⟩
  dsimp only
  rw [hT']
  exact aY [2, 3, 10, 13, 123, 124, 125]
 obtain rfl : k = s.cells.length := by omega
 have e1 := bR s.cells
 rw [List.take_of_length_le (by omega)]
 clear hlt hk lz
 generalize hB2 : (B1 && s.cells.zipIdx.all (tQ p s)) = B2
 (any_goals refine go lv31 0 ?_)
 clear e1
 -- threads
 refine cI [2, 3, 10, 229, 230, 231] (fun x : Nat × Nat => x.1 ≤ s.threads.length) (fun x => let k := x.1; let u := x.2; ⟨245, [(2, .r (.rp (dQ p))), (3, bW s), (10, Bv (B2 && (s.threads.take k).all (kE p s))), (229, cF s.threads), (230, Iv s.threads.length), (231, Iv k)], [(2, 2, .gone), (3, 2, .gone), (9, u, .gone), (19, u, .gone), (20, u, .gone), (22, u, .gone)]⟩) (fun x => s.threads.length - x.1) (0, u) (Nat.zero_le _) ?_ rfl (by simp [cE, memN])
 clear u
 rintro ⟨k, u⟩ hk
 dsimp only at hk ⊢
 by_cases hlt : k < s.threads.length
 case pos =>
  obtain ⟨t, hx, hg, h1, h2, hw'⟩ := cC aJ s.threads hlt (by omega)
  have eb := iH (q := kE p s) hx
  have hTt := hT t (List.mem_of_getElem? hx)
  generalize (s.threads.take k).all (kE p s) = T at *
  generalize kE p s t = D at *
  obtain ⟨fs, st, on, ⟨vk, vn⟩⟩ := t
  refine Rn_T [ctE 82 [bQ p, aO s, dT ⟨fs, st, on, (vk, vn)⟩] (Bv D) hTt] ?_
  clear hT hcs hf30 hD
  (any_goals refine go lv31 0 ?_)
  refine ⟨(k + 1, u + 9), by dsimp only; omega, by dsimp only; omega, ?_⟩
  dsimp only
  rw [eb, ← Bool.and_assoc]
  exact aY [2, 3, 10, 229, 230, 231]
 obtain rfl : k = s.threads.length := by omega
 have e1 := bR s.threads
 rw [List.take_length]
 clear hlt hk hB2 hB1
 cases hB3 : (B2 && s.threads.all (kE p s))
 all_goals
  (any_goals refine go lv31 0 ?_)
  all_goals (try simp only [go_sem])
theorem Lt (n : Nat) {C : Ctx} {f : Nat} {a r : AV} {xs ys : List RV} (h : aT C f [a, .agg (ys.map .r)] r) (hn : rowB (nilB n) xs ys) : aT C f [a, .agg (xs.map .r)] r := by
 intro cur g w av vs hG hgs hav hp
 refine h cur g w av vs hG hgs hav ⟨hp.1, fun j y v hy hv => ?_⟩
 match j with
 | 0 => exact hp.2 0 y v hy hv
 | 1 =>
  simp at hy; subst hy
  exact AR.nilD (xA hn) (fun j x y hx hy => Ia n x y (zW hn hx hy)) (hp.2 1 _ v rfl hv)
 | j + 2 => simp at hy
theorem Dg (xs ys zs : List (List RV)) (ca sh tx th en sd : List (List RV)) (aq sq : Int) (h : ((xs = (fnsOf xs).map fnR ∧ ys = (valsOf ys).map valR ∧ zs = (strsOf zs).map strR) ∧ ca = (cellsOf ca).map aX ∧ sh = (valsOf sh).map valR ∧ tx = (strsOf tx).map strR ∧ th = (threadsOf th).map aJ ∧ en = (aF en).map endR ∧ sd = (valsOf sd).map valR) ∧ Pwf ⟨fnsOf xs, valsOf ys, strsOf zs⟩ ∧ Swf ⟨cellsOf ca, valsOf sh, strsOf tx, threadsOf th, aF en, valsOf sd, aq, sq⟩ ∧ kP ⟨cellsOf ca, valsOf sh, strsOf tx, threadsOf th, aF en, valsOf sd, aq, sq⟩) : FC Cx 31 [.agg [.r (.rs 5 xs), .r (.rs 2 ys), .r (.rs 1 zs)], .agg [.r (.rs 4 ca), .r (.rs 2 sh), .r (.rs 1 tx), .r (.rs 5 th), .r (.rs 3 en), .r (.rs 2 sd), Iv aq, Iv sq]] [] (Iv (eO ⟨fnsOf xs, valsOf ys, strsOf zs⟩ ⟨cellsOf ca, valsOf sh, strsOf tx, threadsOf th, aF en, valsOf sd, aq, sq⟩)) [] := by
 have := Ib ⟨fnsOf xs, valsOf ys, strsOf zs⟩ ⟨cellsOf ca, valsOf sh, strsOf tx, threadsOf th, aF en, valsOf sd, aq, sq⟩ h.2.1 h.2.2.1 h.2.2.2
 rwa [jQ h.1.1, gR _ _ _ _ _ _ _ _ h.1.2] at this
def jU (args : List AV) (K : AV → Prop) : Prop := match args with
 | [.agg [.r (.rs 5 xs), .r (.rs 2 ys), .r (.rs 1 zs)], .agg [.r (.rs 4 ca), .r (.rs 2 sh), .r (.rs 1 tx), .r (.rs 5 th), .r (.rs 3 en), .r (.rs 2 sd), .r (.v (.int .i64 aq)), .r (.v (.int .i64 sq))]] => (((xs = (fnsOf xs).map fnR ∧ ys = (valsOf ys).map valR ∧ zs = (strsOf zs).map strR) ∧ ca = (cellsOf ca).map aX ∧ sh = (valsOf sh).map valR ∧ tx = (strsOf tx).map strR ∧ th = (threadsOf th).map aJ ∧ en = (aF en).map endR ∧ sd = (valsOf sd).map valR) ∧ Pwf ⟨fnsOf xs, valsOf ys, strsOf zs⟩ ∧ Swf ⟨cellsOf ca, valsOf sh, strsOf tx, threadsOf th, aF en, valsOf sd, aq, sq⟩ ∧ kP ⟨cellsOf ca, valsOf sh, strsOf tx, threadsOf th, aF en, valsOf sd, aq, sq⟩) ∧ K (Iv (eO ⟨fnsOf xs, valsOf ys, strsOf zs⟩ ⟨cellsOf ca, valsOf sh, strsOf tx, threadsOf th, aF en, valsOf sd, aq, sq⟩))
 | _ => False
noncomputable abbrev jM : Ct Cx := .pure 31 jU fun args K h => by
 unfold jU at h; split at h; exact ⟨_, aA (Dg _ _ _ _ _ _ _ _ _ _ _ h.1) en31 rfl rfl, h.2⟩; exact h.elim
@[go_sem] theorem Pj : type_of% @jU.eq_def := @jU.eq_def
def Ma (a b : aC) : Bool := decide (a = b)
theorem uK (a : aC) : Ma a a = true := decide_eq_true rfl
def tB (args : List AV) (K : AV → Prop) : Prop := match args with
 | [.agg [.r (.rs 4 ca), .r (.rs 2 sh), .r (.rs 1 tx), .r (.rs 5 th), .r (.rs 3 en), .r (.rs 2 sd), .r (.v (.int .i64 aq)), .r (.v (.int .i64 sq))], .agg [.r (.rs 4 ca'), .r (.rs 2 sh'), .r (.rs 1 tx'), .r (.rs 5 th'), .r (.rs 3 en'), .r (.rs 2 sd'), .r (.v (.int .i64 aq')), .r (.v (.int .i64 sq'))]] => (((ca = (cellsOf ca).map aX ∧ sh = (valsOf sh).map valR ∧ tx = (strsOf tx).map strR ∧ th = (threadsOf th).map aJ ∧ en = (aF en).map endR ∧ sd = (valsOf sd).map valR) ∧ (ca' = (cellsOf ca').map aX ∧ sh' = (valsOf sh').map valR ∧ tx' = (strsOf tx').map strR ∧ th' = (threadsOf th').map aJ ∧ en' = (aF en').map endR ∧ sd' = (valsOf sd').map valR)) ∧ Swf ⟨cellsOf ca, valsOf sh, strsOf tx, threadsOf th, aF en, valsOf sd, aq, sq⟩ ∧ Swf ⟨cellsOf ca', valsOf sh', strsOf tx', threadsOf th', aF en', valsOf sd', aq', sq'⟩) ∧ K (Bv (Ma ⟨cellsOf ca, valsOf sh, strsOf tx, threadsOf th, aF en, valsOf sd, aq, sq⟩ ⟨cellsOf ca', valsOf sh', strsOf tx', threadsOf th', aF en', valsOf sd', aq', sq'⟩))
 | [.agg [.r (.rs 4 ca), .r (.rs 2 sh), .r (.rs 1 tx), .r (.rs 5 th), .r (.rs 3 en), .r (.rs 2 sd), .r (.v (.int .i64 aq)), .r (.v (.int .i64 sq))], .agg [.r (.v (.slice none 0 0)), .r (.v (.slice none 0 0)), .r (.v (.slice none 0 0)), .r (.v (.slice none 0 0)), .r (.v (.slice none 0 0)), .r (.v (.slice none 0 0)), .r (.v (.int .i64 aq')), .r (.v (.int .i64 sq'))]] => ((ca = (cellsOf ca).map aX ∧ sh = (valsOf sh).map valR ∧ tx = (strsOf tx).map strR ∧ th = (threadsOf th).map aJ ∧ en = (aF en).map endR ∧ sd = (valsOf sd).map valR) ∧ Swf ⟨cellsOf ca, valsOf sh, strsOf tx, threadsOf th, aF en, valsOf sd, aq, sq⟩) ∧ K (Bv (Ma ⟨cellsOf ca, valsOf sh, strsOf tx, threadsOf th, aF en, valsOf sd, aq, sq⟩ ⟨[], [], [], [], [], [], aq', sq'⟩))
 | _ => False
theorem Aw (aq sq : Int) : Swf ⟨[], [], [], [], [], [], aq, sq⟩ := by
 refine ⟨⟨by simp, by simp, by simp, by simp, by simp, by simp⟩, ?_, fun c hc => by simp at hc, fun t ht => by simp at ht⟩
 intro q hq
 simp at hq
theorem Gy (args : List AV) (K : AV → Prop) (h : tB args K) : ∃ r, aT Cx 30 args r ∧ K r := by
 unfold tB at h
 split at h
 ·rename_i ca sh tx th en sd aq sq ca' sh' tx' th' en' sd' aq' sq'
  have := wX ⟨cellsOf ca, valsOf sh, strsOf tx, threadsOf th, aF en, valsOf sd, aq, sq⟩ ⟨cellsOf ca', valsOf sh', strsOf tx', threadsOf th', aF en', valsOf sd', aq', sq'⟩ h.1.2.1 h.1.2.2
  rw [gR _ _ _ _ _ _ _ _ h.1.1.1, gR _ _ _ _ _ _ _ _ h.1.1.2] at this
  exact ⟨_, aA this en30 rfl rfl, h.2⟩
 ·rename_i ca sh tx th en sd aq sq aq' sq'
  have := wX ⟨cellsOf ca, valsOf sh, strsOf tx, threadsOf th, aF en, valsOf sd, aq, sq⟩ ⟨[], [], [], [], [], [], aq', sq'⟩ h.1.2 (Aw aq' sq')
  rw [gR _ _ _ _ _ _ _ _ h.1.1] at this
  exact ⟨_, Lt 1 (xs := [.v (.slice none 0 0), .v (.slice none 0 0), .v (.slice none 0 0), .v (.slice none 0 0), .v (.slice none 0 0), .v (.slice none 0 0), .v (.int .i64 aq'), .v (.int .i64 sq')]) (ys := cJ ⟨[], [], [], [], [], [], aq', sq'⟩) (aA this en30 rfl rfl) (by simp [rowB, nilB, nilX]), h.2⟩
 ·exact h.elim
noncomputable abbrev mP : Ct Cx := .pure 30 tB Gy
attribute [go_sem] tB
section
variable {C : Ctx} {T : List (Ct C)} {r : List It} {st st' : St} {K : Exit → St → Prop}
end
theorem Wn (l : List kK) (hl : l.length ≤ 1000000000) : FC Cx 38 [cP l, cP l] [] (Bv true) [] := by
 have l1 : (l.map Bw).length = l.length := List.length_map ..
 refine aD [] Tryz.func38 Tryz.ntmps38 Tryz.results38 ?_
 (any_goals refine go lv38 0 ?_)
 refine bX (fun i : Nat => i ≤ l.length) (fun i => ⟨26, [(0, cP l), (1, cP l), (12, Iv l.length), (13, Iv i)], []⟩) (fun i => l.length - i) 0 (Nat.zero_le _) ?_
 rintro i hi
 by_cases hlt : i < l.length
 case pos =>
  obtain ⟨e, hx, hg, h1, h2, hw⟩ := cC Bw l hlt (by omega)
  obtain ⟨e1, e2, e3, e4, e5, e6, e7, e8, ⟨e9, f1⟩, ⟨f2, f3⟩⟩ := e
  (any_goals refine go lv38 0 ?_)
  exact ⟨i + 1, by omega, by omega, bE⟩
 obtain rfl : i = l.length := by omega
 have e1 := bR l
 (any_goals refine go lv38 0 ?_)
 all_goals (try simp only [go_sem])
theorem Pa (p : aH) (s : aC) (th : Int) (hw : Pwf p) (hs : Swf s) (hrg : kP s) : FC Cx 41 [bQ p, aO s, Iv th] [] (Iv (askE p s th)) [] := by
 have l1 : (s.threads.map aJ).length = s.threads.length := List.length_map ..
 have hlt := hs.len.threads
 have w1 : IntKind.i64.wrap ((s.threads.length : Int) - 1) = (s.threads.length : Int) - 1 := by rw [aL] <;> omega
 unfold askE
 by_cases hf : eO p s = 0
 case neg =>
  rw [if_pos hf]
  have d0 : decide (eO p s = 0) = false := by simpa using hf
  clear hf
  refine aD [jM, aV] Tryz.func41 Tryz.ntmps41 Tryz.results41 ?_
  refine goR ?_
  refine fzB 3 ?_
  refine fzB 4 ?_
  (any_goals refine go lv41 0 ?_)
  repeat' (first | (refine Br.go (fun h h' => ?_) (fun h h' => ?_)) | (refine Br.mk (fun h => ?_) (fun h => ?_)))
  all_goals (try simp only [go_sem])
 rw [if_neg (by simpa using hf)]
 have d0 : decide (eO p s = 0) = true := by simpa using hf
 by_cases h0 : th < 0 ∨ (s.threads.length : Int) ≤ th
 ·rw [if_pos h0]
  have d1 : decide (0 ≤ th ∧ th ≤ (s.threads.length : Int) - 1) = false := by rw [decide_eq_false_iff_not]; omega
  clear hf h0
  refine aD [jM, aV] Tryz.func41 Tryz.ntmps41 Tryz.results41 ?_
  refine goR ?_
  refine fzB 3 ?_
  refine fzB 4 ?_
  (any_goals refine go lv41 0 ?_)
  repeat' (first | (refine Br.go (fun h h' => ?_) (fun h h' => ?_)) | (refine Br.mk (fun h => ?_) (fun h => ?_)))
  all_goals (try simp only [go_sem])
 rw [if_neg h0]
 have d1 : decide (0 ≤ th ∧ th ≤ (s.threads.length : Int) - 1) = true := by rw [decide_eq_true_eq]; omega
 have h00 : 0 ≤ th := by omega
 have h01 : th < (s.threads.length : Int) := by omega
 have d1b : decide (th ≤ (s.threads.length : Int) - 1) = true := by rw [decide_eq_true_eq]; omega
 obtain ⟨t, ht⟩ : ∃ t, s.threads[th.toNat]? = some t := ⟨s.threads[th.toNat]'(by omega), List.getElem?_eq_getElem _⟩
 have hg := aE aJ ht ([] : List RV)
 have et : s.threads.getD th.toNat wZ = t := by rw [List.getD_eq_getElem?_getD, ht]; rfl
 rw [et]
 by_cases h3 : t.state = 0
 ·rw [if_neg (by simpa using h3)]
  have d4 : decide (t.state = 0) = true := by simpa using h3
  clear hf et h3 h0
  refine aD [jM, aV] Tryz.func41 Tryz.ntmps41 Tryz.results41 ?_
  refine goR ?_
  refine fzB 3 ?_
  refine fzB 4 ?_
  (any_goals refine go lv41 0 ?_)
  repeat' (first | (refine Br.go (fun h h' => ?_) (fun h h' => ?_)) | (refine Br.mk (fun h => ?_) (fun h => ?_)))
  all_goals (try simp only [go_sem])
  rw [of_decide_eq_true d0]
 ·rw [if_pos h3]
  have d4 : decide (t.state = 0) = false := by simpa using h3
  clear hf et h3 h0
  refine aD [jM, aV] Tryz.func41 Tryz.ntmps41 Tryz.results41 ?_
  refine goR ?_
  refine fzB 3 ?_
  refine fzB 4 ?_
  (any_goals refine go lv41 0 ?_)
  repeat' (first | (refine Br.go (fun h h' => ?_) (fun h h' => ?_)) | (refine Br.mk (fun h => ?_) (fun h => ?_)))
  all_goals (try simp only [go_sem])
theorem aLi (s : aC) (th : Nat) (t : aP) (rg : Int) (v : Int × Int) (hm : Sml s) (ht : s.threads[th]? = some t)
  (hto : 0 ≤ rg → ∃ f, t.frames[t.frames.length - 1]? = some f ∧ rg < (f.regs.length : Int) ∧ f.regs.length ≤ 1000000000) :
  FC Cx 93 [aO s, Iv th, Iv rg, VV v.1 v.2] [] (aO (Ed s th t rg v)) [] := by
 have hk := (List.getElem?_eq_some_iff.1 ht).1
 obtain ⟨vk, vn⟩ := v
 dsimp only at *
 by_cases h0 : 0 ≤ rg
 case neg =>
  have d0 : decide (rg < 0) = true := by rw [decide_eq_true_eq]; omega
  have e : Ed s th t rg (vk, vn) = s := by
   have e1 : s.threads.set th { t with frames := intoF t.frames rg (vk, vn) } = s.threads := by
    unfold intoF
    rw [if_neg h0]
    apply List.ext_getElem?; intro j
    by_cases hj : th = j
    ·subst hj; rw [List.getElem?_set_self hk, ht]
    ·rw [List.getElem?_set_ne hj]
   unfold Ed
   rw [e1]
  rw [e]
  clear hto h0 e hm
  refine jP [] Tryz.func93 rfl Tryz.ntmps93 (by simp) Tryz.results93 rfl ?_
  refine rnst ?_
  refine goR ?_
  refine fzB 7 ?_
  (any_goals refine go lv93 0 ?_)
  repeat' (first | (refine Br.go (fun h h' => ?_) (fun h h' => ?_)) | (refine Br.mk (fun h => ?_) (fun h => ?_)))
  all_goals (try simp only [go_sem])
 have d0 : decide (rg < 0) = false := by rw [decide_eq_false_iff_not]; omega
 obtain ⟨f, hf, hr1, hr2⟩ := hto h0
 have hfk := (List.getElem?_eq_some_iff.1 hf).1
 have hl2 := (hm.thread t (List.mem_of_getElem? ht)).len
 have hl := hm.threads
 obtain ⟨k, hkn⟩ : ∃ k, t.frames.length = k + 1 := ⟨t.frames.length - 1, by omega⟩
 rw [hkn, Nat.add_sub_cancel] at hf
 have e : s.threads.set th { t with frames := intoF t.frames rg (vk, vn) } = s.threads.set th { t with frames := t.frames.set k { f with regs := f.regs.set rg.toNat (vk, vn) } } := by
  unfold intoF
  rw [if_pos h0, hkn, Nat.add_sub_cancel, hf]
 have eS : aO (Ed s th t rg (vk, vn)) = .agg [dG s.cells, aS s.shapes, bZ s.texts, cF (s.threads.set th { t with frames := t.frames.set k { f with regs := f.regs.set rg.toNat (vk, vn) } }), fP s.ends, aS s.said, Iv s.asked, Iv s.steps] := by rw [← e]; rfl
 rw [eS]
 have q2 : (s.threads.map aU)[th]? = some (aU t) := by rw [List.getElem?_map, ht]; rfl
 have q1 : (s.threads.map aU).length = s.threads.length := List.length_map ..
 have t1 : Int.toNat (th : Int) = th := by omega
 have q8 : (s.threads.set th { t with frames := t.frames.set k { f with regs := f.regs.set rg.toNat (vk, vn) } }).map aU = (s.threads.map aU).set th (aU { t with frames := t.frames.set k { f with regs := f.regs.set rg.toNat (vk, vn) } }) := List.map_set ..
 have lf0 : (t.frames.map frameA2).length = t.frames.length := List.length_map ..
 have e0 : ((k + 1 : Nat) : Int) - 1 = (k : Int) := by omega
 have w1 : IntKind.i64.wrap (k : Int) = (k : Int) := by rw [aL] <;> omega
 have t2 : Int.toNat (k : Int) = k := by omega
 have p2 : (t.frames.map frameA2)[k]? = some (frameA2 f) := by rw [List.getElem?_map, hf]; rfl
 have lr : (f.regs.map valC).length = f.regs.length := List.length_map ..
 obtain ⟨z, hz⟩ : ∃ z, f.regs[rg.toNat]? = some z := ⟨f.regs[rg.toNat]'(by omega), List.getElem?_eq_getElem _⟩
 have gz := aE valC hz ([] : List AV)
 have q0 := Jd s hm 300 301 rfl
 have en : aG Cx.P 87 := en87
 generalize hts : s.threads.set th { t with frames := t.frames.set k { f with regs := f.regs.set rg.toNat (vk, vn) } } = ts at *
 clear eS e hto hz hm
 refine jP [ctN 87 [(1004, 300), (1007, 301)] [aO s] (.agg [.os 1004 (1 + s.cells.length), aS s.shapes, bZ s.texts, .os 1007 (1 + s.threads.length), fP s.ends, aS s.said, Iv s.asked, Iv s.steps]) [ownC 1004 (1 + s.cells.length) s.cells, ownT 1007 (1 + s.threads.length) s.threads] en q0] Tryz.func93 rfl Tryz.ntmps93 (by simp) Tryz.results93 rfl ?_
 refine rnst ?_
 refine goR ?_
 refine fzB 7 ?_
 (any_goals refine go (eM 4 lv93) 0 ?_)
 repeat' (first | (refine Br.go (fun h h' => ?_) (fun h h' => ?_)) | (refine Br.mk (fun h => ?_) (fun h => ?_)))
 have p9 : (t.frames.map frameA2).set k (frameA2 { f with regs := f.regs.set rg.toNat (vk, vn) }) = ((t.frames.set k { f with regs := f.regs.set rg.toNat (vk, vn) }).map fZ).map (List.map nvC) := by
  rw [gD, List.map_set]
 have q7 : ∀ X Y, ((s.threads.map aU).set th X).set th Y = (s.threads.map aU).set th Y := fun X Y => List.set_set ..
 have q4 : ∀ X, ((s.threads.map aU).set th X).length = s.threads.length := fun X => by rw [List.length_set, q1]
 have q6 : ∀ X, ((s.threads.map aU).set th X).getD th [] = X := fun X => by rw [List.getD_eq_getElem?_getD, List.getElem?_set_self (by omega)]; rfl
 (apply lE 301 th 0 201; (exact rfl); (exact q2); (exact rfl); (exact rfl); (exact rfl); (intro K0; (try simp only [go_sem, gD]); exact ⟨id⟩))
 generalize hT0 : s.threads.map aU = T0 at *
 have p7 : ∀ X Y, ((t.frames.map frameA2).set k X).set k Y = (t.frames.map frameA2).set k Y := fun X Y => List.set_set ..
 have p8 : ∀ X, ((t.frames.map frameA2).set k X).length = t.frames.length := fun X => by rw [List.length_set, lf0]
 have p6 : ∀ X, ((t.frames.map frameA2).set k X).getD k [] = X := fun X => by rw [List.getD_eq_getElem?_getD, List.getElem?_set_self (by omega)]; rfl
 (apply lE 201 k 6 202; (exact rfl); (exact p2); (exact rfl); (exact rfl); (exact rfl); (intro K0; (try simp only [go_sem, pA]); exact ⟨id⟩))
 generalize hR : t.frames.map frameA2 = R at *
 have k1 : (f.regs.map valC).set rg.toNat [Iv vk, Iv vn] = ((f.regs.set rg.toNat (vk, vn)).map valN).map (List.map nvC) := by rw [pA, List.map_set]
 clear hR hT0 p2 q2 hf ht
 obtain ⟨fn, pc, tov, gen, ⟨sk, sn⟩, regs, tries⟩ := f
 dsimp only at *
 (any_goals refine go (eM 6 lv93) 0 ?_)
 repeat' (first | (refine Br.go (fun h h' => ?_) (fun h h' => ?_)) | (refine Br.mk (fun h => ?_) (fun h => ?_)))
 all_goals (try simp only [go_sem])
 (apply dM 201 k 6 202 ((regs.set rg.toNat (vk, vn)).map valN); (exact rfl); (exact List.getElem?_set_self (by omega)); (exact rfl); (exact (by decide)); (exact rfl); (exact rfl); (intro K0; (try simp only [go_sem, p7]); exact ⟨id⟩))
 (apply dM 301 th 0 201 ((t.frames.set k ⟨fn, pc, tov, gen, (sk, sn), regs.set rg.toNat (vk, vn), tries⟩).map fZ); (exact rfl); (exact List.getElem?_set_self (by omega)); (exact rfl); (exact (by decide)); (exact congrArg (fun z => (1, Res.sl 61 8 z)) p9); (exact rfl); (intro K0; (try simp only [go_sem, q7]); exact ⟨id⟩))
 clear p9 k1
 (apply tI 300 (s.cells.map aX); (exact rfl); (exact jF Fm); (exact rfl); (intro K0; (try simp only [go_sem]); exact ⟨id⟩))
 (apply tI 301 (ts.map aJ); (exact rfl); (exact (by rw [← q8]; exact jF xL)); (exact rfl); (intro K0; (try simp only [go_sem]); exact ⟨id⟩))
 (any_goals refine go lv93 0 ?_)
 repeat' (first | (refine Br.go (fun h h' => ?_) (fun h h' => ?_)) | (refine Br.mk (fun h => ?_) (fun h => ?_)))
 all_goals (try simp only [go_sem])
theorem aEd {s : aC} {cs : List bM} {ts : List aP} (hm : Sml s) (h1 : cs.length = s.cells.length) (h2 : ∀ c ∈ cs, c ∈ s.cells ∨ c.vals.length ≤ 1000000000 ∧ SmF c.frames) (h3 : ts.length = s.threads.length) (h4 : ∀ t ∈ ts, t ∈ s.threads ∨ SmF t.frames) :
  Sml ⟨cs, s.shapes, s.texts, ts, s.ends, s.said, s.asked, s.steps⟩ := by
 obtain ⟨m1, m2, m3, m4, m5, m6, m7, m8, m9⟩ := hm
 refine ⟨by show cs.length ≤ _; omega, m2, m3, by show ts.length ≤ _; omega, m5, m6, fun c hc => ?_, fun c hc => ?_, fun t ht => ?_⟩
 ·rcases h2 c hc with h | h
  ·exact m7 c h
  ·exact h.1
 ·rcases h2 c hc with h | h
  ·exact m8 c h
  ·exact h.2
 ·rcases h4 t ht with h | h
  ·exact m9 t h
  ·exact h
abbrev ydE (e : kK) (f : aR) (v : Int × Int) : kK := ⟨15, e.step, e.thread, e.fn, e.pc, e.line, f.gen, 0, v, (0, 0)⟩
theorem Tq (s : aC) (th : Nat) (t : aP) (f : aR) (c : bM) (v : Int × Int) (e : kK) (hm : Sml s) (ht : s.threads[th]? = some t) (hf : t.frames[t.frames.length - 1]? = some f) (h0 : 0 ≤ f.gen) (hY : YldF s t f c) :
  FC Cx 42 [aO s, Iv th, VV v.1 v.2, kD e] [] (.tup [aO (yldS s th t f c v), cP [ydE e f v]]) [] := by
 have hk := (List.getElem?_eq_some_iff.1 ht).1
 have hck := (List.getElem?_eq_some_iff.1 hY.at').1
 have hfk := (List.getElem?_eq_some_iff.1 hf).1
 have hl := hm.threads
 have hcl := hm.cells
 have hl2 := (hm.thread t (List.mem_of_getElem? ht)).len
 obtain ⟨hrl, htl⟩ := (hm.thread t (List.mem_of_getElem? ht)).each f (List.mem_of_getElem? hf)
 obtain ⟨k, hkn⟩ : ∃ k, t.frames.length = k + 1 := ⟨t.frames.length - 1, by omega⟩
 have hkk : t.frames.length - 1 = k := by omega
 -- the state ahead of RegSet
 have hs1 : Sml ⟨s.cells.set f.gen.toNat (ogC c f), s.shapes, s.texts, s.threads.set th { t with frames := t.frames.take k }, s.ends, s.said, s.asked, s.steps⟩ := by
  refine aEd hm (List.length_set ..) (fun x hx => ?_) (List.length_set ..) fun x hx => ?_
  ·rcases List.mem_or_eq_of_mem_set hx with hx | rfl
   ·exact .inl hx
   ·refine .inr ⟨by show c.vals.length ≤ _; rw [hY.vals]; simp, ⟨by simp [ogC], fun g hg => ?_⟩⟩
    simp [ogC] at hg; subst hg; exact ⟨hrl, htl⟩
  ·rcases List.mem_or_eq_of_mem_set hx with hx | rfl
   ·exact .inl hx
   ·exact .inr ⟨by show (t.frames.take k).length ≤ _; rw [List.length_take]; omega, fun g hg => (hm.thread t (List.mem_of_getElem? ht)).each g (List.mem_of_mem_take hg)⟩
 have hRS := aLi ⟨s.cells.set f.gen.toNat (ogC c f), s.shapes, s.texts, s.threads.set th { t with frames := t.frames.take k }, s.ends, s.said, s.asked, s.steps⟩ th { t with frames := t.frames.take k } f.tov v hs1 (List.getElem?_set_self hk) (by have := hY.rg; rw [hkk] at this; exact this)
 have eD : Ed ⟨s.cells.set f.gen.toNat (ogC c f), s.shapes, s.texts, s.threads.set th { t with frames := t.frames.take k }, s.ends, s.said, s.asked, s.steps⟩ th { t with frames := t.frames.take k } f.tov v = yldS s th t f c v := by
  unfold Ed yldS ogT
  rw [hkk]
  dsimp only
  rw [List.set_set]
 rw [eD] at hRS
 have hRC : ∀ y, y = [.agg [dG (s.cells.set f.gen.toNat (ogC c f)), aS s.shapes, bZ s.texts, cF (s.threads.set th { t with frames := t.frames.take k }), fP s.ends, aS s.said, Iv s.asked, Iv s.steps], Iv th, Iv f.tov, VV v.1 v.2] → aT Cx 93 y (aO (yldS s th t f c v)) := fun y hy => by
  subst hy; exact aA hRS en93 rfl rfl
 generalize yldS s th t f c v = X at *
 have q2 : (s.threads.map aU)[th]? = some (aU t) := by rw [List.getElem?_map, ht]; rfl
 have q1 : (s.threads.map aU).length = s.threads.length := List.length_map ..
 have t1 : Int.toNat (th : Int) = th := by omega
 have gc := aE cV hY.at' ([] : List AV)
 have lc : (s.cells.map cV).length = s.cells.length := List.length_map ..
 have lf0 : (t.frames.map frameA2).length = t.frames.length := List.length_map ..
 have e0 : ((k + 1 : Nat) : Int) - 1 = (k : Int) := by omega
 have w1 : IntKind.i64.wrap (k : Int) = (k : Int) := by rw [aL] <;> omega
 have t2 : Int.toNat (k : Int) = k := by omega
 have p2 : (t.frames.map frameA2)[k]? = some (frameA2 f) := by rw [List.getElem?_map, show k = t.frames.length - 1 by omega, hf]; rfl
 have p3 : ∀ X, List.take k ((t.frames.map frameA2).set k X) = (t.frames.take k).map frameA2 := fun X => by rw [List.take_set_of_le (Nat.le_refl _), List.map_take]
 have p8 : ∀ X, ((t.frames.map frameA2).set k X).length = t.frames.length := fun X => by rw [List.length_set, lf0]
 have p6 : ∀ X, ((t.frames.map frameA2).set k X).getD k [] = X := fun X => by rw [List.getD_eq_getElem?_getD, List.getElem?_set_self (by omega)]; rfl
 have q0 := Jd s hm 300 301 rfl
 have en : aG Cx.P 87 := en87
 have eT : ∀ x, (s.threads.set th x).map aU = (s.threads.map aU).set th (aU x) := fun x => List.map_set ..
 have eC : (s.cells.set f.gen.toNat (ogC c f)).map aX = (s.cells.map aX).set f.gen.toNat (aX (ogC c f)) := List.map_set ..
 have eR : aX (ogC c f) = [.v (.int .i64 5), .v (.int .i64 0), .rs 2 [], .rs 8 [bA { f with tov := -1, gen := -1 }]] := by
  show [_, _, _, _] = _
  rw [show (ogC c f).kind = 5 from hY.kind, show (ogC c f).vals = [] from hY.vals]; rfl
 rw [eR] at eC
 generalize hTS : s.threads.set th { t with frames := t.frames.take k } = TS at *
 generalize hCS : s.cells.set f.gen.toNat (ogC c f) = CS at *
 have eT2 : TS.map aU = (s.threads.map aU).set th (aU { t with frames := t.frames.take k }) := by rw [← hTS]; exact eT _
 clear hRS eD hs1 hm eR hTS hCS eT hY
 obtain ⟨vk, vn⟩ := v
 dsimp only at *
 refine jP [ctN 87 [(1004, 300), (1007, 301)] [aO s] (.agg [.os 1004 (1 + s.cells.length), aS s.shapes, bZ s.texts, .os 1007 (1 + s.threads.length), fP s.ends, aS s.said, Iv s.asked, Iv s.steps]) [ownC 1004 (1 + s.cells.length) s.cells, ownT 1007 (1 + s.threads.length) s.threads] en q0, Zb, ctE 93 [.agg [dG CS, aS s.shapes, bZ s.texts, cF TS, fP s.ends, aS s.said, Iv s.asked, Iv s.steps], Iv th, Iv f.tov, VV vk vn] (aO X) hRC] Tryz.func42 rfl Tryz.ntmps42 (by simp) Tryz.results42 rfl ?_
 refine rnst ?_
 refine goR ?_
 refine fzB 6 ?_
 refine fzB 7 ?_
 (any_goals refine go (eM 2 lv42) 0 ?_)
 repeat' (first | (refine Br.go (fun h h' => ?_) (fun h h' => ?_)) | (refine Br.mk (fun h => ?_) (fun h => ?_)))
 all_goals (try simp only [go_sem])
 (apply lE 301 th 0 201; (exact rfl); (exact q2); (exact rfl); (exact rfl); (exact rfl); (intro K0; (try simp only [go_sem, gD]); exact ⟨id⟩))
 (apply lE 201 k 6 202; (exact rfl); (exact p2); (exact rfl); (exact rfl); (exact rfl); (intro K0; (try simp only [go_sem, pA]); exact ⟨id⟩))
 generalize hT0 : s.threads.map aU = T0 at *
 have q4 : ∀ X, (T0.set th X).length = s.threads.length := fun X => by rw [List.length_set, q1]
 have q6 : ∀ X, (T0.set th X).getD th [] = X := fun X => by rw [List.getD_eq_getElem?_getD, List.getElem?_set_self (by omega)]; rfl
 have q7 : ∀ X Y, (T0.set th X).set th Y = T0.set th Y := fun X Y => List.set_set ..
 generalize hR : t.frames.map frameA2 = R at *
 generalize hC0 : s.cells.map cV = C0 at *
 have r4 : ∀ X, (C0.set f.gen.toNat X).length = s.cells.length := fun X => by rw [List.length_set, lc]
 have r6 : ∀ X, (C0.set f.gen.toNat X).getD f.gen.toNat [] = X := fun X => by rw [List.getD_eq_getElem?_getD, List.getElem?_set_self (by omega)]; rfl
 have r7 : ∀ X Y, (C0.set f.gen.toNat X).set f.gen.toNat Y = C0.set f.gen.toNat Y := fun X Y => List.set_set ..
 clear hR p2 q2 hf ht
 obtain ⟨fn, pc, tov, gen, ⟨sk, sn⟩, regs, tries⟩ := f
 dsimp only at *
 (any_goals refine go (eM 8 lv42) 0 ?_)
 repeat' (first | (refine Br.go (fun h h' => ?_) (fun h h' => ?_)) | (refine Br.mk (fun h => ?_) (fun h => ?_)))
 all_goals (try simp only [go_sem])
 have hEB : qV C0 (s.cells.map aX) := by rw [← hC0]; exact jF Fm
 (apply dM 48 0 6 202 (regs.map valN); (exact rfl); (exact rfl); (exact rfl); (exact (by decide)); (exact congrArg (fun z => (1, Res.sl 50 2 z)) (pA regs).symm); (exact rfl); (intro K0; (try simp only [go_sem]); exact ⟨id⟩))
 (apply dM 300 gen.toNat 3 48 [fZ ⟨fn, pc, -1, -1, (sk, sn), regs, tries⟩]; (exact rfl); (exact List.getElem?_set_self (by omega)); (exact rfl); (exact (by decide)); (exact rfl); (exact rfl); (intro K0; (try simp only [go_sem, r7]); exact ⟨id⟩))
 (apply aGb 300 gen.toNat 2 50 2; (exact rfl); (exact List.getElem?_set_self (by omega)); (exact rfl); (exact rfl); (intro K0; (try simp only [go_sem, r7]); exact ⟨id⟩))
 (apply dM 301 th 0 201 ((t.frames.take k).map fZ); (exact rfl); (exact List.getElem?_set_self (by omega)); (exact rfl); (exact (by decide)); (exact congrArg (fun z => (2, Res.sl 61 8 z)) (gD (t.frames.take k)).symm); (exact rfl); (intro K0; (try simp only [go_sem, q7]); exact ⟨id⟩))
 (apply tI 300 (CS.map aX); (exact rfl); (exact (by rw [eC]; exact Bz hEB ⟨rfl, rfl, rfl, congrArg (RV.rs 8) (lB [(⟨fn, pc, -1, -1, (sk, sn), regs, tries⟩ : aR)]).symm, trivial⟩)); (exact rfl); (intro K0; (try simp only [go_sem]); exact ⟨id⟩))
 (apply tI 301 (TS.map aJ); (exact rfl); (exact (by have h := jF (l := TS) xL; rw [eT2] at h; exact h)); (exact rfl); (intro K0; (try simp only [go_sem]); exact ⟨id⟩))
 clear eC eT2 hEB r4 r6 r7 q4 q6 q7 p3 p6 p8 hC0 hT0
 (any_goals refine goN lv42 0 ?_)
 repeat' (first | (refine Br.go (fun h h' => ?_) (fun h h' => ?_)) | (refine Br.mk (fun h => ?_) (fun h => ?_)))
 all_goals (try simp only [go_sem])
 (apply jD 61 [Bw ⟨15, e.step, e.thread, e.fn, e.pc, e.line, gen, 0, (vk, vn), (0, 0)⟩]; (exact rfl); (exact rfl); (exact rfl); (intro K0; (try simp only [go_sem]); exact ⟨id⟩))
 (any_goals refine go lv42 0 ?_)
 repeat' (first | (refine Br.go (fun h h' => ?_) (fun h h' => ?_)) | (refine Br.mk (fun h => ?_) (fun h => ?_)))
 all_goals (try simp only [go_sem])
 all_goals rfl
theorem Wz {fs : List aR} {rg : Int} {v : Int × Int} (h : ∀ f ∈ fs, Gwf f) : (intoF fs rg v).length = fs.length ∧ ∀ f ∈ intoF fs rg v, Gwf f := by
 unfold intoF
 split
 ·split
  ·rename_i f hf
   refine ⟨List.length_set .., fun g hg => ?_⟩
   rcases List.mem_or_eq_of_mem_set hg with hg | rfl
   ·exact h g hg
   ·obtain ⟨a1, a2, a3⟩ := h f (List.mem_of_getElem? hf)
    exact ⟨by show (f.regs.set _ _).length ≤ _; rw [List.length_set]; exact a1, a2, a3⟩
  ·exact ⟨rfl, h⟩
 ·exact ⟨rfl, h⟩
theorem aM3 {s : aC} {cs : List bM} {ts : List aP} (hs : Swf s) (h1 : cs.length = s.cells.length) (h2 : ∀ c ∈ cs, c ∈ s.cells ∨ Cwf c) (h3 : ts.length = s.threads.length) (h4 : ∀ t ∈ ts, t ∈ s.threads ∨ t.frames.length ≤ 9223372036854775807 ∧ ∀ f ∈ t.frames, Gwf f) :
  Swf ⟨cs, s.shapes, s.texts, ts, s.ends, s.said, s.asked, s.steps⟩ := by
 obtain ⟨⟨a1, a2, a3, a4, a5, a6⟩, b, c, d⟩ := hs
 refine ⟨⟨by show cs.length ≤ _; omega, a2, a3, by show ts.length ≤ _; omega, a5, a6⟩, b, fun x hx => ?_, fun x hx => ?_⟩
 ·rcases h2 x hx with h | h
  ·exact c x h
  ·exact h
 ·rcases h4 x hx with h | h
  ·exact d x h
  ·exact h
theorem aEu {s : aC} {n : Nat} {t : aP} {f : aR} {c : bM} {v : Int × Int} (hs : Swf s) (ht : s.threads[n]? = some t) (hf : t.frames[t.frames.length - 1]? = some f) (hY : YldF s t f c) : Swf (yldS s n t f c v) := by
 obtain ⟨d1, d2⟩ := hs.thread t (List.mem_of_getElem? ht)
 refine aM3 hs (List.length_set ..) (fun x hx => ?_) (List.length_set ..) fun x hx => ?_
 ·rcases List.mem_or_eq_of_mem_set hx with hx | rfl
  ·exact .inl hx
  ·obtain ⟨a1, a2, _⟩ := d2 f (List.mem_of_getElem? hf)
   refine .inr ⟨by show c.vals.length ≤ _; rw [hY.vals]; simp, by show ∀ v ∈ c.vals, _; rw [hY.vals]; simp, by simp [ogC], fun g hg => ?_⟩
   simp [ogC] at hg; subst hg; exact ⟨a1, a2, by constructor <;> decide⟩
 ·rcases List.mem_or_eq_of_mem_set hx with hx | rfl
  ·exact .inl hx
  ·obtain ⟨b1, b2⟩ := Wz (fs := t.frames.take (t.frames.length - 1)) (rg := f.tov) (v := v) fun g hg => d2 g (List.mem_of_mem_take hg)
   exact .inr ⟨by show (intoF _ _ _).length ≤ _; rw [b1, List.length_take]; omega, b2⟩
theorem Dc (p : aH) (s : aC) (th : Int) (v : Int × Int) (hw : Pwf p) (hs : Swf s) (hrg : kP s) (h : askE p s th ≠ 0) : FC Cx 9 [bQ p, aO s, Iv th, VV v.1 v.2] [] (Bv true) [] := by
 have hT : ∀ y, y = [bQ p, aO s, Iv th, VV v.1 v.2] → aT Cx 40 y (.tup [aO kG, cP [], Iv (askE p s th)]) := fun y hy => by
  subst hy; exact aA (Uw p s th v hw hs h) en40 rfl rfl
 have hA : ∀ y, y = [bQ p, aO s, Iv th] → aT Cx 41 y (Iv (askE p s th)) := fun y hy => by
  subst hy; exact aA (Pa p s th hw hs hrg) en41 rfl rfl
 have hz : Ma kG ⟨[], [], [], [], [], [], 0, 0⟩ = true := uK _
 have wz : Swf kG := Aw 0 0
 have d0 : decide (askE p s th = 0) = false := by simpa using h
 obtain ⟨vk, vn⟩ := v
 dsimp only at *
 generalize kG = Z at *
 generalize askE p s th = E at *
 clear h
 refine aD [ctE 40 [bQ p, aO s, Iv th, VV vk vn] (.tup [aO Z, cP [], Iv E]) hT, ctE 41 [bQ p, aO s, Iv th] (Iv E) hA, mP] Tryz.func9 Tryz.ntmps9 Tryz.results9 ?_
 refine goR ?_
 refine fzB 4 ?_
 refine fzB 5 ?_
 refine fzB 7 ?_
 (any_goals refine go lv9 0 ?_)
 repeat' (first | (refine Br.go (fun h h' => ?_) (fun h h' => ?_)) | (refine Br.mk (fun h => ?_) (fun h => ?_)))
 all_goals (try simp only [go_sem])
theorem Ig (p : aH) (s : aC) (th : Int) (n : Nat) (t : aP) (f : aR) (v : Int × Int) (hw : Pwf p) (hs : Swf s) (hrg : kP s) (ha : askE p s th = 0) (h : Em p s th n t f) (hy : yldE p s f v ≠ 0) : FC Cx 9 [bQ p, aO s, Iv th, VV v.1 v.2] [] (Bv true) [] := by
 have hT : ∀ y, y = [bQ p, aO s, Iv th, VV v.1 v.2] → aT Cx 40 y (.tup [aO kG, cP [], Iv (yldE p s f v)]) := fun y hy1 => by
  subst hy1; exact aA (Zd p s th n t f v hw hs ha h hy) en40 rfl rfl
 have hA : ∀ y, y = [bQ p, aO s, Iv th] → aT Cx 41 y (Iv 0) := fun y hy => by
  subst hy; rw [← ha]; exact aA (Pa p s th hw hs hrg) en41 rfl rfl
 have hz : Ma kG ⟨[], [], [], [], [], [], 0, 0⟩ = true := uK _
 have wz : Swf kG := Aw 0 0
 have hF := pM hw h
 have h30 := hF.frames
 obtain ⟨rfl, _, ht, _, hf⟩ := h
 have l1 : (s.threads.map aJ).length = s.threads.length := List.length_map ..
 have lf : (t.frames.map bA).length = t.frames.length := List.length_map ..
 have hk := (List.getElem?_eq_some_iff.1 ht).1
 have hfk := (List.getElem?_eq_some_iff.1 hf).1
 have hg := aE aJ ht ([] : List RV)
 have hgf := aE bA hf ([] : List RV)
 have t1 : Int.toNat (n : Int) = n := by omega
 have t2 : Int.toNat ((t.frames.length : Int) - 1) = t.frames.length - 1 := by omega
 have w2 : IntKind.i64.wrap ((t.frames.length : Int) - 1) = (t.frames.length : Int) - 1 := by rw [aL] <;> omega
 have l0 : (p.fns.map fnR).length = p.fns.length := List.length_map ..
 obtain ⟨⟨g1, g2⟩, g3, g4⟩ := iI hF.frame
 obtain ⟨F, hF1⟩ : ∃ F, p.fns[f.fn.toNat]? = some F := ⟨p.fns[f.fn.toNat]'(by omega), List.getElem?_eq_getElem _⟩
 have gF := aE fnR hF1 ([] : List RV)
 have eF : p.fns.getD f.fn.toNat fn0 = F := by rw [List.getD_eq_getElem?_getD, hF1]; rfl
 have w1 : IntKind.i64.wrap (f.pc - 1) = f.pc - 1 := by
  have := (hF.go.cok F (List.mem_of_getElem? hF1)).len
  rw [eF] at g4
  rw [aL] <;> omega
 have l3 : (F.code.map insR).length = F.code.length := List.length_map ..
 rw [eF] at g4
 obtain ⟨vk, vn⟩ := v
 dsimp only at *
 generalize kG = Z at *
 have hE : yldE p s f (vk, vn) = if fitsF s (vk, vn) = false then 1 else if f.gen < 0 ∨ f.pc = 0 ∨ (oD p f).op ≠ 32 then 8 else 0 := rfl
 generalize yldE p s f (vk, vn) = E at *
 cases h1 : fitsF s (vk, vn) with
 | false =>
  rw [if_pos h1] at hE
  subst hE
  clear hy hF ha hf ht hF1 eF
  obtain ⟨fn, pc, tov, gen, ⟨sk, sn⟩, regs, tries⟩ := f
  dsimp only at *
  have lr : (regs.map valR).length = regs.length := List.length_map ..
  refine aD [ctE 40 [bQ p, aO s, Iv n, VV vk vn] (.tup [aO Z, cP [], Iv 1]) hT, ctE 41 [bQ p, aO s, Iv n] (Iv 0) hA, cZ, mP] Tryz.func9 Tryz.ntmps9 Tryz.results9 ?_
  refine goR ?_
  refine fzB 4 ?_
  refine fzB 5 ?_
  refine fzB 7 ?_
  (any_goals refine go lv9 0 ?_)
  repeat' (first | (refine Br.go (fun h h' => ?_) (fun h h' => ?_)) | (refine Br.mk (fun h => ?_) (fun h => ?_)))
  all_goals (try simp only [go_sem])
 | true =>
 rw [if_neg (by simp [h1])] at hE
 by_cases h2 : f.gen < 0 ∨ f.pc = 0 ∨ (oD p f).op ≠ 32
 case neg => rw [if_neg h2] at hE; exact absurd hE hy
 rw [if_pos h2] at hE
 subst hE
 by_cases c1 : f.gen < 0
 ·have d1 : decide (f.gen < 0) = true := by simpa using c1
  clear hy hF ha c1 h2 hf ht hF1 eF
  obtain ⟨fn, pc, tov, gen, ⟨sk, sn⟩, regs, tries⟩ := f
  dsimp only at *
  have lr : (regs.map valR).length = regs.length := List.length_map ..
  refine aD [ctE 40 [bQ p, aO s, Iv n, VV vk vn] (.tup [aO Z, cP [], Iv 8]) hT, ctE 41 [bQ p, aO s, Iv n] (Iv 0) hA, cZ, mP] Tryz.func9 Tryz.ntmps9 Tryz.results9 ?_
  refine goR ?_
  refine fzB 4 ?_
  refine fzB 5 ?_
  refine fzB 7 ?_
  (any_goals refine go lv9 0 ?_)
  repeat' (first | (refine Br.go (fun h h' => ?_) (fun h h' => ?_)) | (refine Br.mk (fun h => ?_) (fun h => ?_)))
  all_goals (try simp only [go_sem])
 have d1 : decide (f.gen < 0) = false := by simpa using c1
 by_cases c2 : f.pc = 0
 ·have d2 : decide (f.pc = 0) = true := by simpa using c2
  clear hy hF ha c1 c2 h2 hf ht hF1 eF
  obtain ⟨fn, pc, tov, gen, ⟨sk, sn⟩, regs, tries⟩ := f
  dsimp only at *
  have lr : (regs.map valR).length = regs.length := List.length_map ..
  refine aD [ctE 40 [bQ p, aO s, Iv n, VV vk vn] (.tup [aO Z, cP [], Iv 8]) hT, ctE 41 [bQ p, aO s, Iv n] (Iv 0) hA, cZ, mP] Tryz.func9 Tryz.ntmps9 Tryz.results9 ?_
  refine goR ?_
  refine fzB 4 ?_
  refine fzB 5 ?_
  refine fzB 7 ?_
  (any_goals refine go lv9 0 ?_)
  repeat' (first | (refine Br.go (fun h h' => ?_) (fun h h' => ?_)) | (refine Br.mk (fun h => ?_) (fun h => ?_)))
  all_goals (try simp only [go_sem])
 have d2 : decide (f.pc = 0) = false := by simpa using c2
 obtain ⟨I, hI⟩ : ∃ I, F.code[(f.pc - 1).toNat]? = some I := ⟨F.code[(f.pc - 1).toNat]'(by omega), List.getElem?_eq_getElem _⟩
 have gI := aE insR hI ([] : List RV)
 have eI : oD p f = I := by unfold oD; rw [eF, List.getD_eq_getElem?_getD, hI]; rfl
 have d3 : decide (I.op = 32) = false := by
  rw [← eI]
  rcases h2 with h2 | h2 | h2
  ·exact absurd h2 c1
  ·exact absurd h2 c2
  ·simpa using h2
 have b1 : 0 ≤ f.pc - 1 := by omega
 have b2 : f.pc - 1 < (F.code.length : Int) := by omega
 clear hy hF ha c1 c2 h2 hf ht hF1 eF hI eI
 obtain ⟨fn, pc, tov, gen, ⟨sk, sn⟩, regs, tries⟩ := f
 dsimp only at *
 have lr : (regs.map valR).length = regs.length := List.length_map ..
 refine aD [ctE 40 [bQ p, aO s, Iv n, VV vk vn] (.tup [aO Z, cP [], Iv 8]) hT, ctE 41 [bQ p, aO s, Iv n] (Iv 0) hA, cZ, mP] Tryz.func9 Tryz.ntmps9 Tryz.results9 ?_
 refine goR ?_
 refine fzB 4 ?_
 refine fzB 5 ?_
 refine fzB 7 ?_
 (any_goals refine go lv9 0 ?_)
 repeat' (first | (refine Br.go (fun h h' => ?_) (fun h h' => ?_)) | (refine Br.mk (fun h => ?_) (fun h => ?_)))
 all_goals (try simp only [go_sem])
theorem Cw (p : aH) (s : aC) (th : Int) (n : Nat) (t : aP) (f : aR) (c : bM) (v : Int × Int) (hw : Pwf p) (hs : Swf s) (hrg : kP s) (ha : askE p s th = 0) (h : Em p s th n t f) (hy : yldE p s f v = 0) (hY : YldF s t f c) : FC Cx 9 [bQ p, aO s, Iv th, VV v.1 v.2] [] (Bv true) [] := by
 have hT : ∀ y, y = [bQ p, aO s, Iv th, VV v.1 v.2] → aT Cx 40 y (.tup [aO (yldS s n t f c v), cP [ogE (atF p s n f) f v], Iv 0]) := fun y hy1 => by
  subst hy1; exact aA (Ux p s th n t f c v hw hs ha h hy hY) en40 rfl rfl
 have hA : ∀ y, y = [bQ p, aO s, Iv th] → aT Cx 41 y (Iv 0) := fun y hy => by
  subst hy; rw [← ha]; exact aA (Pa p s th hw hs hrg) en41 rfl rfl
 have hF := pM hw h
 have h30 := hF.frames
 obtain ⟨rfl, _, ht, _, hf⟩ := h
 have l1 : (s.threads.map aJ).length = s.threads.length := List.length_map ..
 have lf : (t.frames.map bA).length = t.frames.length := List.length_map ..
 have hk := (List.getElem?_eq_some_iff.1 ht).1
 have hfk := (List.getElem?_eq_some_iff.1 hf).1
 have hg := aE aJ ht ([] : List RV)
 have hgf := aE bA hf ([] : List RV)
 have t1 : Int.toNat (n : Int) = n := by omega
 have t2 : Int.toNat ((t.frames.length : Int) - 1) = t.frames.length - 1 := by omega
 have w2 : IntKind.i64.wrap ((t.frames.length : Int) - 1) = (t.frames.length : Int) - 1 := by rw [aL] <;> omega
 have l0 : (p.fns.map fnR).length = p.fns.length := List.length_map ..
 obtain ⟨⟨g1, g2⟩, g3, g4⟩ := iI hF.frame
 obtain ⟨F, hF1⟩ : ∃ F, p.fns[f.fn.toNat]? = some F := ⟨p.fns[f.fn.toNat]'(by omega), List.getElem?_eq_getElem _⟩
 have gF := aE fnR hF1 ([] : List RV)
 have eF : p.fns.getD f.fn.toNat fn0 = F := by rw [List.getD_eq_getElem?_getD, hF1]; rfl
 have w1 : IntKind.i64.wrap (f.pc - 1) = f.pc - 1 := by
  have := (hF.go.cok F (List.mem_of_getElem? hF1)).len
  rw [eF] at g4
  rw [aL] <;> omega
 have l3 : (F.code.map insR).length = F.code.length := List.length_map ..
 rw [eF] at g4
 have h1 : fitsF s v = true := by
  cases hx : fitsF s v with
  | true => rfl
  | false => unfold yldE at hy; rw [if_pos hx] at hy; cases hy
 have h2 : ¬ (f.gen < 0 ∨ f.pc = 0 ∨ (oD p f).op ≠ 32) := fun hx => by
  unfold yldE at hy; rw [if_neg (by simp [h1]), if_pos hx] at hy; cases hy
 have d1 : decide (f.gen < 0) = false := by rw [decide_eq_false_iff_not]; omega
 have d2 : decide (f.pc = 0) = false := by rw [decide_eq_false_iff_not]; omega
 obtain ⟨I, hI⟩ : ∃ I, F.code[(f.pc - 1).toNat]? = some I := ⟨F.code[(f.pc - 1).toNat]'(by omega), List.getElem?_eq_getElem _⟩
 have gI := aE insR hI ([] : List RV)
 have eI : oD p f = I := by unfold oD; rw [eF, List.getD_eq_getElem?_getD, hI]; rfl
 have d3 : decide (I.op = 32) = true := by
  rw [← eI, decide_eq_true_eq]; omega
 have b1 : 0 ≤ f.pc - 1 := by omega
 have b2 : f.pc - 1 < (F.code.length : Int) := by omega
 have hAt : ∀ y, y = [bQ p, aO s, Iv n] → aT Cx 37 y (kD (atF p s n f)) := fun y hy => by
  subst hy; exact aA (Ov p s n t f hF.go ht hf hF.frame (by omega)) en37 rfl rfl
 have hD : ∀ y, y = [aO s, Iv n, VV v.1 v.2, kD (atF p s n f)] → aT Cx 42 y (.tup [aO (yldS s n t f c v), cP [ogE (atF p s n f) f v]]) := fun y hy => by
  subst hy; exact aA (Tq s n t f c v (atF p s n f) hF.sml ht hf (by omega) hY) en42 rfl rfl
 have hEv : ∀ y, y = [cP [ogE (atF p s n f) f v], cP [ogE (atF p s n f) f v]] → aT Cx 38 y (Bv true) := fun y hy => by
  subst hy; exact aA (Wn _ (by simp)) en38 rfl rfl
 have hX := aEu (v := v) hs ht hf hY
 have hXX := uK (yldS s n t f c v)
 obtain ⟨vk, vn⟩ := v
 dsimp only at *
 generalize yldS s n t f c (vk, vn) = X at *
 generalize [ogE (atF p s n f) f (vk, vn)] = L at *
 generalize atF p s n f = e0 at *
 clear hF ha hy h2 hY hf ht hF1 eF hI eI
 obtain ⟨fn, pc, tov, gen, ⟨sk, sn⟩, regs, tries⟩ := f
 dsimp only at *
 refine aD [ctE 40 [bQ p, aO s, Iv n, VV vk vn] (.tup [aO X, cP L, Iv 0]) hT, ctE 41 [bQ p, aO s, Iv n] (Iv 0) hA, cZ, mP, ctE 37 [bQ p, aO s, Iv n] (kD e0) hAt, ctE 42 [aO s, Iv n, VV vk vn, kD e0] (.tup [aO X, cP L]) hD, ctE 38 [cP L, cP L] (Bv true) hEv] Tryz.func9 Tryz.ntmps9 Tryz.results9 ?_
 refine goR ?_
 refine fzB 4 ?_
 refine fzB 5 ?_
 refine fzB 7 ?_
 (any_goals refine go lv9 0 ?_)
 repeat' (first | (refine Br.go (fun h h' => ?_) (fun h h' => ?_)) | (refine Br.mk (fun h => ?_) (fun h => ?_)))
 all_goals (try simp only [go_sem])
theorem Lk (p : aH) (s : aC) (th : Int) (v : Int × Int) (hw : Pwf p) (hs : Swf s) (hrg : kP s) : FC Cx 9 [bQ p, aO s, Iv th, VV v.1 v.2] [] (Bv true) [] := by
 by_cases ha : askE p s th = 0
 case neg => exact Dc p s th v hw hs hrg ha
 obtain ⟨n, t, f, h⟩ := aMk ha
 by_cases hy : yldE p s f v = 0
 case neg => exact Ig p s th n t f v hw hs hrg ha h hy
 have h0 : 0 ≤ f.gen := by
  rcases Int.lt_or_le f.gen 0 with hx | hx
  ·exfalso
   unfold yldE at hy
   split at hy
   ·cases hy
   ·rw [if_pos (.inl hx)] at hy; cases hy
  ·exact hx
 obtain ⟨c, hY⟩ := Lw hw (pM hw h).right h.at' h.last h0
 exact Cw p s th n t f c v hw hs hrg ha h hy hY
end Go.Proofs.YtbhnmolmkembdaaGreatDoor
