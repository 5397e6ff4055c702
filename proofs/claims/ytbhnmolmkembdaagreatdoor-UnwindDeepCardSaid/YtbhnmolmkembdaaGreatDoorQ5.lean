/- Weak tables. No condition: the contract of the program's function. -/
import Derived.Test.YtbhnmolmkembdaaGreatDoorQ4
import Derived.Test.YtbhnmolmkembdaaGreatDoorQ3
namespace Go.Proofs.YtbhnmolmkembdaaGreatDoor
set_option linter.unusedVariables false
set_option linter.unusedSimpArgs false
set_option maxHeartbeats 10000000
open Go
set_option maxRecDepth 10000
def evK {α : Type} : List α → List α
 | [] => []
 | [a] => [a]
 | a :: _ :: l => a :: evK l
theorem evK_at {α : Type} : ∀ (l : List α) (j : Nat), (evK l)[j]? = l[2 * j]?
 | [], j => by simp [evK]
 | [a], j => by
  cases j with
  | zero => rfl
  | succ j => simp [evK]
 | a :: b :: l, j => by
  cases j with
  | zero => rfl
  | succ j =>
   have e : 2 * (j + 1) = 2 * j + 1 + 1 := by omega
   rw [e]
   simp only [evK, List.getElem?_cons_succ]
   exact evK_at l j
theorem evK_len {α : Type} : ∀ (l : List α), (evK l).length = (l.length + 1) / 2
 | [] => by simp [evK]
 | [a] => by simp [evK]
 | a :: b :: l => by simp only [evK, List.length_cons, evK_len l]; omega
def weakF (l : List (Int × Int)) : Bool := ((evK l).all fun v => decide (v.1 = 5)) && decide ((evK l).map (·.2)).Nodup && decide (l.length % 2 = 0)
def WI (n : Int) : Prop := (Lit.int .i64 n).wf = true
open Classical in
noncomputable def seenI (S : List Int) (k : Value) : Option Value := if ∃ n ∈ S, k = .int .i64 n then some (.int .i64 1) else none
theorem seenI_no {S : List Int} {n : Int} (h : n ∉ S) : seenI S (.int .i64 n) = none := by
 unfold seenI
 rw [if_neg]
 rintro ⟨q, hq, he⟩
 cases he
 exact h hq
theorem seenI_yes {S : List Int} {n : Int} (h : n ∈ S) : seenI S (.int .i64 n) = some (.int .i64 1) := by
 unfold seenI
 rw [if_pos ⟨n, h, rfl⟩]
theorem seenI_upd (S : List Int) (n : Int) : updF (seenI S) (.int .i64 n) (.int .i64 1) = seenI (n :: S) := by
 funext k
 unfold updF seenI
 by_cases h : k = .int .i64 n
 ·rw [if_pos h, if_pos ⟨n, List.mem_cons_self .., h⟩]
 ·rw [if_neg h]
  by_cases h2 : ∃ q ∈ S, k = .int .i64 q
  ·obtain ⟨q, hq, he⟩ := h2
   rw [if_pos ⟨q, hq, he⟩, if_pos ⟨q, List.mem_cons_of_mem _ hq, he⟩]
  ·rw [if_neg h2, if_neg]
   rintro ⟨q, hq, he⟩
   rcases List.mem_cons.1 hq with rfl | hq
   ·exact h he
   ·exact h2 ⟨q, hq, he⟩
theorem seenI_nil : seenI [] = fun _ => none := by
 funext k; unfold seenI; rw [if_neg]; simp
theorem seenI_same {S S' : List Int} (h : ∀ s, s ∈ S ↔ s ∈ S') : seenI S = seenI S' := by
 funext k
 unfold seenI
 have : (∃ s ∈ S, k = .int .i64 s) ↔ ∃ s ∈ S', k = .int .i64 s := ⟨fun ⟨s, h1, h2⟩ => ⟨s, (h s).1 h1, h2⟩, fun ⟨s, h1, h2⟩ => ⟨s, (h s).2 h1, h2⟩⟩
 by_cases hx : ∃ s ∈ S, k = .int .i64 s
 ·rw [if_pos hx, if_pos (this.1 hx)]
 ·rw [if_neg hx, if_neg fun h => hx (this.2 h)]
theorem keyI (n : Int) (h : WI n) : ∃ l, keyOf Tryz.prog 3 (.int .i64 n) = some l := by
 refine ⟨.int .i64 n, ?_⟩
 simp [keyOf, mapKey, Tryz.underlying3, show (Lit.int .i64 n).wf = true from h]
theorem seenI_ok {S : List Int} (hS : ∀ s ∈ S, WI s) {n : Int} (hn : WI n) : MapOk Tryz.prog 109 (seenI S) (.int .i64 n) := by
 refine ⟨⟨_, _, Tryz.underlying109, .int Tryz.underlying3, keyI n hn, fun k' v' h => ?_⟩⟩
 unfold seenI at h
 split at h
 ·rename_i hq
  obtain ⟨q, hq, rfl⟩ := hq
  exact keyI q (hS q hq)
 ·cases h
theorem weakF_take {l : List (Int × Int)} (h1 : ((evK l).all fun v => decide (v.1 = 5)) = true) (h2 : ((evK l).map (·.2)).Nodup) : weakF l = decide (l.length % 2 = 0) := by
 unfold weakF; rw [h1, decide_eq_true h2]; rfl
theorem weakF_kind {l : List (Int × Int)} {j : Nat} {v : Int × Int} (h : (evK l)[j]? = some v) (hv : v.1 ≠ 5) : weakF l = false := by
 unfold weakF
 have : ((evK l).all fun v => decide (v.1 = 5)) = false := by
  rw [Bool.eq_false_iff]; intro h3
  have := List.all_eq_true.1 h3 v (List.mem_of_getElem? h)
  simp at this; exact hv this
 rw [this]; rfl
theorem weakF_twice {l : List (Int × Int)} {j : Nat} {v : Int × Int} (h : (evK l)[j]? = some v) (hv : v.2 ∈ ((evK l).take j).map (·.2)) : weakF l = false := by
 unfold weakF
 have : ¬ ((evK l).map (·.2)).Nodup := fun hn => by
  rw [List.map_take] at hv
  obtain ⟨i, hi⟩ := List.mem_iff_getElem?.1 hv
  rw [List.getElem?_take] at hi
  split at hi
  ·rename_i hij
   have hj : ((evK l).map (·.2))[j]? = some v.2 := by rw [List.getElem?_map, h]; rfl
   have h1 := (List.getElem?_eq_some_iff.1 hj).1
   have := (List.getElem?_inj h1 hn).1 (hj.trans hi.symm)
   omega
  ·cases hi
 rw [decide_eq_false this]; simp
theorem weak_c (l : List (Int × Int)) (x : AV) (hl : l.length ≤ 9223372036854775800) (hw : ∀ v ∈ l, WI v.2) (hx : within none0 x = true) : FC Cx 169 [x, valsV l] [] (Bv (weakF l)) [] := by
 have l1 : (l.map valR).length = l.length := List.length_map ..
 refine FCp_st [] Tryz.func169 Tryz.ntmps169 Tryz.results169 ?_
 (any_goals refine go lv169 0 ?_)
 refine Rn_loopS (fun x : Nat × Nat => x.1 ≤ (evK l).length ∧ (((evK l).take x.1).all fun v => decide (v.1 = 5)) = true ∧ (((evK l).take x.1).map (·.2)).Nodup)
  (fun x => ⟨40, [(1, valsV l), (5, .os 7 1), (6, Iv ((2 * x.1 : Nat) : Int))], [(7, 1, .mp (seenI (((evK l).take x.1).map (·.2))) x.2)]⟩) (fun x => (evK l).length - x.1) (0, 0) ⟨Nat.zero_le _, rfl, List.nodup_nil⟩ ?_ rfl ?_ ⟨rfl, .inl ⟨rfl, by simp [seenI_nil]⟩, trivial⟩
 rotate_left
 ·exact ⟨rfl, rfl, rfl, trivial⟩
 rintro ⟨j, n⟩ ⟨hj, h5, hn⟩
 dsimp only at hj h5 hn ⊢
 have hlen := evK_len l
 by_cases hlt : 2 * j < l.length
 case neg =>
  have e1 : decide (((2 * j : Nat) : Int) < (l.length : Int)) = false := by rw [decide_eq_false_iff_not]; omega
  have ej : (evK l).take j = evK l := List.take_of_length_le (by omega)
  rw [ej] at h5 hn
  have hF := weakF_take h5 hn
  (any_goals refine go lv169 0 ?_)
  all_goals (try simp only [go_sem])
  rw [hF]
  refine congrArg (fun b => Bv b) ?_
  rw [decide_eq_decide, show ((l.length : Int)).tmod 2 = ((l.length % 2 : Nat) : Int) from rfl]
  omega
 have e1 : decide (((2 * j : Nat) : Int) < (l.length : Int)) = true := by rw [decide_eq_true_eq]; omega
 have t1 : Int.toNat ((2 * j : Nat) : Int) = 2 * j := by omega
 have w1 : IntKind.i64.wrap (((2 * j : Nat) : Int) + 2) = ((2 * (j + 1) : Nat) : Int) := by rw [wrap_id] <;> omega
 obtain ⟨v, hv⟩ : ∃ v, l[2 * j]? = some v := ⟨l[2 * j], List.getElem?_eq_getElem hlt⟩
 have hg := getD_map valR hv ([] : List RV)
 have hev : (evK l)[j]? = some v := by rw [evK_at]; exact hv
 have hk : j < (evK l).length := (List.getElem?_eq_some_iff.1 hev).1
 by_cases hv5 : v.1 = 5
 case neg =>
  have d5 : decide (v.1 = 5) = false := by simpa using hv5
  have hF := weakF_kind hev hv5
  (any_goals refine go lv169 0 ?_)
  all_goals (try simp only [go_sem, hF])
 have d5 : decide (v.1 = 5) = true := by simpa using hv5
 have hM : MapOk Tryz.prog 109 (seenI (((evK l).take j).map (·.2))) (.int .i64 v.2) := seenI_ok (fun q hq => by
  obtain ⟨z, hz, rfl⟩ := List.mem_map.1 hq
  have := List.mem_of_mem_take hz
  obtain ⟨i, hi⟩ := List.mem_iff_getElem?.1 this
  rw [evK_at] at hi
  exact hw z (List.mem_of_getElem? hi)) (hw v (List.mem_of_getElem? hv))
 by_cases hin : v.2 ∈ ((evK l).take j).map (·.2)
 ·have d6 := seenI_yes hin
  have hF := weakF_twice hev hin
  (any_goals refine go lv169 0 ?_)
  all_goals (try simp only [go_sem, hF])
 ·have d6 := seenI_no hin
  (any_goals refine go lv169 0 ?_)
  have et : (evK l).take (j + 1) = (evK l).take j ++ [v] := by rw [List.take_add_one, hev]; rfl
  refine ⟨(j + 1, updN (seenI (((evK l).take j).map (·.2))) (.int .i64 v.2) n), ⟨by dsimp only; omega, by dsimp only; rw [et, List.all_append, h5]; simp [hv5], ?_⟩, by dsimp only; omega, ⟨rfl, subTs_ok ⟨rfl, rfl, rfl, trivial⟩, leRs_ok ⟨rfl, .inl ⟨rfl, ?_⟩, trivial⟩⟩⟩
  ·dsimp only
   rw [et, List.map_append]
   refine List.nodup_append.2 ⟨hn, by simp, fun a ha b hb => ?_⟩
   simp at hb; subst hb
   exact fun e => hin (e ▸ ha)
  ·refine congrArg (fun f => Res.mp f _) ?_
   rw [seenI_upd]
   dsimp only
   refine seenI_same fun q => ?_
   rw [et, List.map_append]
   simp [or_comm]
theorem idxfFrame_c (l : List FrameT) (f : Nat) (caps : List RV) (dom : AV → Prop) (pv : AV → Bool) (h : ∀ y, dom y → CallOk Cx f (y :: caps.map AV.r) (Bv (pv y))) (hd : ∀ x ∈ l, dom (frameA x)) (hl : l.length ≤ 9223372036854775807) :
  FC Cx 188 [framesV l, .r (.fn f caps)] [] (Iv (fidx (fun x => pv (frameA x)) l)) [] := by
 have hlen : (l.map frameR).length = l.length := List.length_map ..
 refine FCp_st [ctF f caps dom pv h] Tryz.func188 Tryz.ntmps188 Tryz.results188 ?_
 (any_goals refine go lv188 0 ?_)
 refine Rn_loopT [0, 1, 7, 8] (fun i => i ≤ l.length ∧ ∀ j x, j < i → l[j]? = some x → pv (frameA x) = false) (fun (i : Nat) => ⟨19, [(0, framesV l), (1, .r (.fn f caps)), (7, Iv l.length), (8, Iv i)], []⟩) (fun i => l.length - i) 0 rfl (by rw [← hlen]; rfl) rfl ⟨Nat.zero_le _, fun j x hj => by omega⟩ ?_
 rintro i ⟨hi, hno⟩
 by_cases hlt : i < l.length
 ·obtain ⟨x, hx⟩ : ∃ x, l[i]? = some x := ⟨l[i], List.getElem?_eq_getElem hlt⟩
  have hg := getD_map frameR hx ([] : List RV)
  have hdx := hd x (List.mem_of_getElem? hx)
  have hw : IntKind.i64.wrap ((i : Int) + 1) = ((i + 1 : Nat) : Int) := by rw [wrap_id] <;> omega
  have h1 : decide ((i : Int) < (l.length : Int)) = true := by rw [decide_eq_true_eq]; omega
  have h2 : Int.toNat (i : Int) = i := by omega
  cases hp : pv (frameA x) with
  | true =>
   (any_goals refine go lv188 0 ?_)
   all_goals (try simp only [go_sem])
   rw [fidx_hit hx hp fun j y hj hy => hno j y hj hy]
  | false =>
   (any_goals refine go lv188 0 ?_)
   refine ⟨i + 1, ⟨by omega, fun j y hj hy => ?_⟩, by omega, Le_keep [0, 1, 7, 8] rfl rfl rfl⟩
   rcases Nat.lt_succ_iff_lt_or_eq.1 hj with h3 | h3
   ·exact hno j y h3 hy
   ·subst h3; rw [hx] at hy; cases hy; exact hp
 ·have h1 : decide ((i : Int) < (l.length : Int)) = false := by rw [decide_eq_false_iff_not]; omega
  (any_goals refine go lv188 0 ?_)
  all_goals (try simp only [go_sem])
  rw [fidx_none fun j y hy => hno j y (by have := (List.getElem?_eq_some_iff.1 hy).1; omega) hy]
theorem anyFrame_c (l : List FrameT) (f : Nat) (caps : List RV) (dom : AV → Prop) (pv : AV → Bool) (h : ∀ y, dom y → CallOk Cx f (y :: caps.map AV.r) (Bv (pv y))) (hd : ∀ x ∈ l, dom (frameA x)) (hl : l.length ≤ 9223372036854775807) :
  FC Cx 171 [framesV l, .r (.fn f caps)] [] (Bv (l.any fun x => pv (frameA x))) [] := by
 have hA : ∀ y, y = [framesV l, .r (.fn f caps)] → CallOk Cx 188 y (Iv (fidx (fun x => pv (frameA x)) l)) := fun y hy => by
  subst hy; exact CallOk_of (idxfFrame_c l f caps dom pv h hd hl) en188 rfl rfl
 refine FCp_st [ctE 188 [framesV l, .r (.fn f caps)] (Iv (fidx (fun x => pv (frameA x)) l)) hA] Tryz.func171 Tryz.ntmps171 Tryz.results171 ?_
 (any_goals refine go lv171 0 ?_)
 all_goals (try simp only [go_sem])
 all_goals (try rw [fidx_any])
structure Gwf (f : FrameT) : Prop where
 regs : f.regs.length ≤ 9223372036854775807
 tries : f.tries.length ≤ 9223372036854775807
 gen : WI f.gen
structure Cwf (c : CellT) : Prop where
 vals : c.vals.length ≤ 9223372036854775807
 val : ∀ v ∈ c.vals, WI v.2
 frames : c.frames.length ≤ 9223372036854775807
 frame : ∀ f ∈ c.frames, Gwf f
structure Swf (s : StateT) : Prop where
 len : Slen s
 shapes : Sh.Wf s.shapes
 cell : ∀ c ∈ s.cells, Cwf c
 thread : ∀ t ∈ s.threads, t.frames.length ≤ 9223372036854775807 ∧ ∀ f ∈ t.frames, Gwf f
noncomputable section
def numF (s : StateT) (c : CellT) : Bool :=
 if c.kind = 1 then decide (0 ≤ c.num ∧ c.num ≤ (s.shapes.length : Int) - 1) else if c.kind = 4 then decide (0 ≤ c.num) else if c.kind = 5 then decide (0 ≤ c.num ∧ c.num ≤ 2) else
 if c.kind = 6 then decide (-1 ≤ c.num ∧ c.num ≤ 4) else decide (c.num = 0)
def valsF (s : StateT) (c : CellT) : Bool :=
 if c.kind = 1 then numF s c && decide ((c.vals.length : Int) = ((Sh.namesF s.shapes c.num).length : Int)) else if c.kind = 2 then true else if c.kind = 3 then decide ((c.vals.length : Int) = 1) else
 if c.kind = 4 then !(c.vals.any fun v => !isF' s v 3) else if c.kind = 7 then weakF c.vals else decide ((c.vals.length : Int) = 0)
def framesN (c : CellT) : Int := if c.kind = 5 ∧ c.num = 0 then 1 else 0
def heldF (s : StateT) (f : FrameT) : Bool := f.regs.all (fitsF s) && fitsF s f.self
def cellF (s : StateT) (c : CellT) : Bool := decide (0 ≤ c.kind ∧ c.kind ≤ 7) && numF s c && valsF s c && decide ((c.frames.length : Int) = framesN c) && c.vals.all (fitsF s) && c.frames.all (heldF s)
end
def frameV : AV → FrameT
 | .agg [.r (.v (.int _ a)), .r (.v (.int _ b)), .r (.v (.int _ c)), .r (.v (.int _ d)), .r (.v (.int _ k)), .r (.v (.int _ n)), .r (.rs _ rs), .r (.rs _ ts)] => ⟨a, b, c, d, (k, n), valsOf rs, triesOf ts⟩
 | _ => frame0
theorem frameV_A (f : FrameT) : frameV (frameA f) = f := by
 show (⟨f.fn, f.pc, f.tov, f.gen, (f.self.1, f.self.2), valsOf (f.regs.map valR), triesOf (f.tries.map tryR)⟩ : FrameT) = f
 rw [valsOf_map, triesOf_map]
theorem cell1_c (s : StateT) (k n : Int) : FC Cx 168 [VV k n, .r (.rp [.rp (stateR s)])] [] (Bv (!isF' s (k, n) 3)) [] := by
 refine FCp_st [ct_is'] Tryz.func168 Tryz.ntmps168 Tryz.results168 ?_
 refine goR ?_
 refine fzB 2 ?_
 (any_goals refine go lv168 0 ?_)
 all_goals (try simp only [go_sem])
theorem cell2_c (s : StateT) (f : FrameT) (hf : Gwf f) : FC Cx 172 [frameA f, .r (.rp [.rp (stateR s)])] [] (Bv (!heldF s f)) [] := by
 have l1 : (f.regs.map valR).length = f.regs.length := List.length_map ..
 have h1 := hf.regs
 unfold heldF
 cases hb : f.regs.all (fitsF s)
 all_goals
  refine FCp_st [ct_all', ct_fits'] Tryz.func172 Tryz.ntmps172 Tryz.results172 ?_
  refine goR ?_
  refine fzB 2 ?_
  (any_goals refine go lv172 0 ?_)
  all_goals (try simp only [go_sem])
  all_goals simp
theorem kwithin_c (n lo hi : Int) : FC Cx 120 [Iv n, Iv lo, Iv hi] [] (Bv (decide (lo ≤ n ∧ n ≤ hi))) [] := by
 refine FCp_st [] Tryz.func120 Tryz.ntmps120 Tryz.results120 ?_
 (any_goals refine go lv120 0 ?_)
 all_goals (try simp only [go_sem])
 all_goals simp_all
 all_goals omega
def sp_kwithin (args : List AV) (K : AV → Prop) : Prop := match args with
 | [.r (.v (.int .i64 n)), .r (.v (.int .i64 lo)), .r (.v (.int .i64 hi))] => K (Bv (decide (lo ≤ n ∧ n ≤ hi)))
 | _ => False
noncomputable abbrev ct_kwithin : Ct Cx := .pure 120 sp_kwithin fun args K h => by
 unfold sp_kwithin at h; split at h; exact ⟨_, CallOk_of (kwithin_c _ _ _) en120 rfl rfl, h⟩; exact h.elim
@[go_sem] theorem sp_kwithin_eq : type_of% @sp_kwithin.eq_def := @sp_kwithin.eq_def
theorem weak'_c (x : RV) (us : List (List RV)) (h : us = (valsOf us).map valR ∧ (valsOf us).length ≤ 1000 ∧ ∀ v ∈ valsOf us, WI v.2) : FC Cx 169 [.r x, .r (.rs 2 us)] [] (Bv (weakF (valsOf us))) [] := by
 have := weak_c (valsOf us) (.r x) (by omega) h.2.2 rfl
 rwa [valsOf_at h.1] at this
def sp_weak' (args : List AV) (K : AV → Prop) : Prop := match args with
 | [.r x, .r (.rs 2 us)] => (us = (valsOf us).map valR ∧ (valsOf us).length ≤ 1000 ∧ ∀ v ∈ valsOf us, WI v.2) ∧ K (Bv (weakF (valsOf us)))
 | _ => False
noncomputable abbrev ct_weak' : Ct Cx := .pure 169 sp_weak' fun args K h => by
 unfold sp_weak' at h; split at h; exact ⟨_, CallOk_of (weak'_c _ _ h.1) en169 rfl rfl, h.2⟩; exact h.elim
@[go_sem] theorem sp_weak'_eq : type_of% @sp_weak'.eq_def := @sp_weak'.eq_def
theorem cell_c (s : StateT) (c : CellT) (hs : Swf s) (hc : Cwf c) (hv6 : c.vals.length ≤ 600) : FC Cx 115 [stateP s, cellA c] [] (Bv (cellF s c)) [] := by
 have l1 : (c.vals.map valR).length = c.vals.length := List.length_map ..
 have l2 : (c.frames.map frameR).length = c.frames.length := List.length_map ..
 have l3 : (s.shapes.map valR).length = s.shapes.length := List.length_map ..
 have hsl := hs.len.shapes
 have hcf := hc.frames
 have hw := hs.shapes
 have hwi := hc.val
 have hv7 : c.vals.length ≤ 1000 := by omega
 have w1 : IntKind.i64.wrap ((s.shapes.length : Int) - 1) = (s.shapes.length : Int) - 1 := by rw [wrap_id] <;> omega
 have ln : ((Sh.namesF s.shapes c.num).map Sh.intR).length = (Sh.namesF s.shapes c.num).length := List.length_map ..
 have hA : ∀ y, y = [valsV c.vals, .r (.fn 168 [.rp [.rp (stateR s)]])] → CallOk Cx 102 y (Bv (c.vals.any fun v => !isF' s v 3)) := fun y hy => by
  subst hy
  refine CallOk_of (anyVal_c c.vals _ [.rp [.rp (stateR s)]] (fun y => ∃ v, y = valA v) (fun y => !isF' s (valV y) 3) ?_ (fun x _ => ⟨x, rfl⟩) (by omega)) en102 rfl rfl
  rintro _ ⟨v, rfl⟩
  exact CallOk_of (cell1_c s v.1 v.2) en168 rfl rfl
 have hB : ∀ y, y = [framesV c.frames, .r (.fn 172 [.rp [.rp (stateR s)]])] → CallOk Cx 171 y (Bv (c.frames.any fun f => !heldF s f)) := fun y hy => by
  subst hy
  have h := anyFrame_c c.frames 172 [.rp [.rp (stateR s)]] (fun y => ∃ f, Gwf f ∧ y = frameA f) (fun y => !heldF s (frameV y)) (by
   rintro _ ⟨f, hf, rfl⟩
   have := cell2_c s f hf
   rw [frameV_A]
   exact CallOk_of this en172 rfl rfl) (fun x hx => ⟨x, hc.frame x hx, rfl⟩) hcf
  simp only [frameV_A] at h
  exact CallOk_of h en171 rfl rfl
 have eC : cellF s c = (decide (0 ≤ c.kind ∧ c.kind ≤ 7) && !(!numF s c || !valsF s c || !decide ((c.frames.length : Int) = framesN c) || !(c.vals.all (fitsF s))) && !(c.frames.any fun f => !heldF s f)) := by
  unfold cellF
  rw [all_any c.frames]
  simp only [Bool.not_or, Bool.not_not, Bool.and_assoc]
 by_cases hk : 0 ≤ c.kind ∧ c.kind ≤ 7
 case neg =>
  rw [eC, decide_eq_false hk, Bool.false_and, Bool.false_and]
  have d0 : decide (c.kind = 0) = false := by rw [decide_eq_false_iff_not]; omega
  have d1 : decide (c.kind = 1) = false := by rw [decide_eq_false_iff_not]; omega
  have d2 : decide (c.kind = 2) = false := by rw [decide_eq_false_iff_not]; omega
  have d3 : decide (c.kind = 3) = false := by rw [decide_eq_false_iff_not]; omega
  have d4 : decide (c.kind = 4) = false := by rw [decide_eq_false_iff_not]; omega
  have d5 : decide (c.kind = 5) = false := by rw [decide_eq_false_iff_not]; omega
  have d6 : decide (c.kind = 6) = false := by rw [decide_eq_false_iff_not]; omega
  have d7 : decide (c.kind = 7) = false := by rw [decide_eq_false_iff_not]; omega
  refine FCp_st [ct_kwithin, Sh.ct_Names, ct_weak', ct_all'] Tryz.func115 Tryz.ntmps115 Tryz.results115 ?_
  refine goR ?_
  refine fzB 2 ?_
  refine fzB 3 ?_
  (any_goals refine go lv115 0 ?_)
  all_goals (try simp only [go_sem])
 rw [eC, decide_eq_true hk, Bool.true_and]
 refine FCp_st [ct_kwithin, Sh.ct_Names, ct_weak', ct_all', ctE 102 [valsV c.vals, .r (.fn 168 [.rp [.rp (stateR s)]])] (Bv (c.vals.any fun v => !isF' s v 3)) hA, ctE 171 [framesV c.frames, .r (.fn 172 [.rp [.rp (stateR s)]])] (Bv (c.frames.any fun f => !heldF s f)) hB] Tryz.func115 Tryz.ntmps115 Tryz.results115 ?_
 refine goR ?_
 refine fzB 2 ?_
 refine fzB 3 ?_
 (any_goals refine go (dropL 2 lv115) 0 ?_)
 refine goR1 lv115 0 ?_
 refine Rn_cutX (st' := ⟨107, [(2, .r (.rp [.rp (stateR s)])), (3, .r (.rp (cellR c))), (5, Bv (numF s c)), (6, Bv (valsF s c)), (7, Iv (framesN c))], [(2, 2, .gone), (3, 2, .gone)]⟩) True rfl ?_ fun _ => ?_
 ·clear eC
  obtain ⟨kind, num, vals, frames⟩ := c
  dsimp only at *
  have k8 : kind = 0 ∨ kind = 1 ∨ kind = 2 ∨ kind = 3 ∨ kind = 4 ∨ kind = 5 ∨ kind = 6 ∨ kind = 7 := by omega
  rcases k8 with rfl | rfl | rfl | rfl | rfl | rfl | rfl | rfl
  ·rw [show numF s ⟨0, num, vals, frames⟩ = decide (num = 0) from rfl, show valsF s ⟨0, num, vals, frames⟩ = decide ((vals.length : Int) = 0) from rfl, show framesN ⟨0, num, vals, frames⟩ = 0 from rfl]
   (any_goals refine go lv115 0 ?_)
   all_goals (try simp only [go_sem])
   exact Lx.le Le_subA
  ·rw [show numF s ⟨1, num, vals, frames⟩ = decide (0 ≤ num ∧ num ≤ (s.shapes.length : Int) - 1) from rfl, show valsF s ⟨1, num, vals, frames⟩ = (decide (0 ≤ num ∧ num ≤ (s.shapes.length : Int) - 1) && decide ((vals.length : Int) = ((Sh.namesF s.shapes num).length : Int))) from rfl, show framesN ⟨1, num, vals, frames⟩ = 0 from rfl]
   cases hb : decide (0 ≤ num ∧ num ≤ (s.shapes.length : Int) - 1)
   all_goals
    (any_goals refine go lv115 0 ?_)
    all_goals (try simp only [go_sem])
    exact Lx.le Le_subA
  ·rw [show numF s ⟨2, num, vals, frames⟩ = decide (num = 0) from rfl, show valsF s ⟨2, num, vals, frames⟩ = true from rfl, show framesN ⟨2, num, vals, frames⟩ = 0 from rfl]
   (any_goals refine go lv115 0 ?_)
   all_goals (try simp only [go_sem])
   exact Lx.le Le_subA
  ·rw [show numF s ⟨3, num, vals, frames⟩ = decide (num = 0) from rfl, show valsF s ⟨3, num, vals, frames⟩ = decide ((vals.length : Int) = 1) from rfl, show framesN ⟨3, num, vals, frames⟩ = 0 from rfl]
   (any_goals refine go lv115 0 ?_)
   all_goals (try simp only [go_sem])
   exact Lx.le Le_subA
  ·rw [show numF s ⟨4, num, vals, frames⟩ = decide (0 ≤ num) from rfl, show valsF s ⟨4, num, vals, frames⟩ = !(vals.any fun v => !isF' s v 3) from rfl, show framesN ⟨4, num, vals, frames⟩ = 0 from rfl]
   (any_goals refine go lv115 0 ?_)
   all_goals (try simp only [go_sem])
   exact Lx.le Le_subA
  ·rw [show numF s ⟨5, num, vals, frames⟩ = decide (0 ≤ num ∧ num ≤ 2) from rfl, show valsF s ⟨5, num, vals, frames⟩ = decide ((vals.length : Int) = 0) from rfl]
   by_cases n0 : num = 0
   ·subst n0
    rw [show framesN ⟨5, 0, vals, frames⟩ = 1 from rfl]
    (any_goals refine go lv115 0 ?_)
    all_goals (try simp only [go_sem])
    exact Lx.le Le_subA
   ·have d0 : decide (num = 0) = false := by simpa using n0
    rw [show framesN ⟨5, num, vals, frames⟩ = 0 from if_neg (fun h => n0 h.2)]
    (any_goals refine go lv115 0 ?_)
    all_goals (try simp only [go_sem])
    exact Lx.le Le_subA
  ·rw [show numF s ⟨6, num, vals, frames⟩ = decide (-1 ≤ num ∧ num ≤ 4) from rfl, show valsF s ⟨6, num, vals, frames⟩ = decide ((vals.length : Int) = 0) from rfl, show framesN ⟨6, num, vals, frames⟩ = 0 from rfl]
   (any_goals refine go lv115 0 ?_)
   all_goals (try simp only [go_sem])
   exact Lx.le Le_subA
  ·rw [show numF s ⟨7, num, vals, frames⟩ = decide (num = 0) from rfl, show valsF s ⟨7, num, vals, frames⟩ = weakF vals from rfl, show framesN ⟨7, num, vals, frames⟩ = 0 from rfl]
   (any_goals refine go lv115 0 ?_)
   all_goals (try simp only [go_sem])
   exact Lx.le Le_subA
 generalize numF s c = b1
 generalize valsF s c = b2
 generalize framesN c = b3
 generalize hb4 : c.vals.all (fitsF s) = b4
 clear eC
 (any_goals refine go lv115 0 ?_)
 repeat' (first | (refine Br.go (fun h h' => ?_) (fun h h' => ?_)) | (refine Br.mk (fun h => ?_) (fun h => ?_)))
 all_goals (try simp only [go_sem])
 all_goals clear hb4 hA hB hwi
 all_goals (simp_all; done)
theorem cell'_c (ca sh tx th en sd : List (List RV)) (aq sq : Int) (c1 c2 : Int) (us vs : List (List RV)) (h : ((ca = (cellsOf ca).map cellR ∧ sh = (valsOf sh).map valR ∧ tx = (strsOf tx).map strR ∧ th = (threadsOf th).map threadR ∧ en = (endsOf en).map endR ∧ sd = (valsOf sd).map valR) ∧ us = (valsOf us).map valR ∧ vs = (framesOf vs).map frameR) ∧ Swf ⟨cellsOf ca, valsOf sh, strsOf tx, threadsOf th, endsOf en, valsOf sd, aq, sq⟩ ∧ Cwf ⟨c1, c2, valsOf us, framesOf vs⟩ ∧ (valsOf us).length ≤ 600) : FC Cx 115 [.r (.rp [.rs 4 ca, .rs 2 sh, .rs 1 tx, .rs 5 th, .rs 3 en, .rs 2 sd, .v (.int .i64 aq), .v (.int .i64 sq)]), .agg [Iv c1, Iv c2, .r (.rs 2 us), .r (.rs 8 vs)]] [] (Bv (cellF ⟨cellsOf ca, valsOf sh, strsOf tx, threadsOf th, endsOf en, valsOf sd, aq, sq⟩ ⟨c1, c2, valsOf us, framesOf vs⟩)) [] := by
 have := cell_c ⟨cellsOf ca, valsOf sh, strsOf tx, threadsOf th, endsOf en, valsOf sd, aq, sq⟩ ⟨c1, c2, valsOf us, framesOf vs⟩ h.2.1 h.2.2.1 h.2.2.2
 rwa [state_atP _ _ _ _ _ _ _ _ h.1.1, show cellA ⟨c1, c2, valsOf us, framesOf vs⟩ = .agg [Iv c1, Iv c2, .r (.rs 2 us), .r (.rs 8 vs)] from by
  show AV.agg [Iv c1, Iv c2, valsV (valsOf us), framesV (framesOf vs)] = _
  rw [valsOf_at h.1.2.1, framesOf_at h.1.2.2]] at this
def sp_cell' (args : List AV) (K : AV → Prop) : Prop := match args with
 | [.r (.rp [.rs 4 ca, .rs 2 sh, .rs 1 tx, .rs 5 th, .rs 3 en, .rs 2 sd, .v (.int .i64 aq), .v (.int .i64 sq)]), .agg [.r (.v (.int .i64 c1)), .r (.v (.int .i64 c2)), .r (.rs 2 us), .r (.rs 8 vs)]] => (((ca = (cellsOf ca).map cellR ∧ sh = (valsOf sh).map valR ∧ tx = (strsOf tx).map strR ∧ th = (threadsOf th).map threadR ∧ en = (endsOf en).map endR ∧ sd = (valsOf sd).map valR) ∧ us = (valsOf us).map valR ∧ vs = (framesOf vs).map frameR) ∧ Swf ⟨cellsOf ca, valsOf sh, strsOf tx, threadsOf th, endsOf en, valsOf sd, aq, sq⟩ ∧ Cwf ⟨c1, c2, valsOf us, framesOf vs⟩ ∧ (valsOf us).length ≤ 600) ∧ K (Bv (cellF ⟨cellsOf ca, valsOf sh, strsOf tx, threadsOf th, endsOf en, valsOf sd, aq, sq⟩ ⟨c1, c2, valsOf us, framesOf vs⟩))
 | _ => False
noncomputable abbrev ct_cell' : Ct Cx := .pure 115 sp_cell' fun args K h => by
 unfold sp_cell' at h; split at h; exact ⟨_, CallOk_of (cell'_c _ _ _ _ _ _ _ _ _ _ _ _ h.1) en115 rfl rfl, h.2⟩; exact h.elim
@[go_sem] theorem sp_cell'_eq : type_of% @sp_cell'.eq_def := @sp_cell'.eq_def
end Go.Proofs.YtbhnmolmkembdaaGreatDoor
namespace Go.Proofs.YtbhnmolmkembdaaGreatDoor
set_option linter.unusedVariables false
set_option linter.unusedSimpArgs false
set_option maxHeartbeats 10000000
open Go Go.ChangeShapes Go.WideShapes Go.ChangeAt Go.RowKit
theorem c_try : Tryz.prog.cellsOf 81 = 2 := by kernel_rfl
theorem c_frame : Tryz.prog.cellsOf 61 = 8 := by kernel_rfl
theorem c_cell : Tryz.prog.cellsOf 48 = 4 := by kernel_rfl
theorem c_thread : Tryz.prog.cellsOf 56 = 5 := by kernel_rfl
theorem c_end : Tryz.prog.cellsOf 127 = 3 := by kernel_rfl
theorem c_shape : Tryz.prog.cellsOf 97 = 2 := by kernel_rfl
theorem Ro_list {α : Type} {P : Program} {t e sz : Nat} {row : List RV} (f : α → List RV) (p : α → Prop) (h : Ro P t row) (ht : P.underlying t = some (.slice e)) (hc : P.cellsOf e = sz) (hx : ∀ r, Ro P e r → ∃ x, r = f x ∧ p x) : ∃ l : List α, row = [.rs sz (l.map f)] ∧ l.length ≤ 9223372036854775807 ∧ ∀ x ∈ l, p x := by
 obtain ⟨rows, rfl, hm, h2⟩ := Ro_slice h ht
 obtain ⟨l, rfl, hl⟩ := rows_all (f := f) (p := p) fun r hr => hx r (h2 r hr)
 have := maxLen_le
 rw [List.length_map] at hm
 exact ⟨l, by rw [hc], by omega, hl⟩
theorem Ro_vall {row : List RV} (h : Ro Tryz.prog 50 row) : ∃ v : Int × Int, row = valR v ∧ WI v.2 := by
 obtain ⟨rows, rfl, h1, h2⟩ := Ro_struct h Tryz.underlying50
 match rows, h1 with
 | [a, b], _ =>
  obtain ⟨x1, rfl, _⟩ := Ro_int (h2 0 _ a rfl rfl) Tryz.underlying3
  obtain ⟨x2, rfl, q⟩ := Ro_int (h2 1 _ b rfl rfl) Tryz.underlying3
  exact ⟨(x1, x2), rfl, q⟩
theorem Ro_shapel {row : List RV} (h : Ro Tryz.prog 97 row) : ∃ v : Int × Int, row = valR v ∧ Sh.WfS v := by
 obtain ⟨rows, rfl, h1, h2⟩ := Ro_struct h Tryz.underlying97
 match rows, h1 with
 | [a, b], _ =>
  obtain ⟨x1, rfl, q1⟩ := Ro_int (h2 0 _ a rfl rfl) Tryz.underlying3
  obtain ⟨x2, rfl, q2⟩ := Ro_int (h2 1 _ b rfl rfl) Tryz.underlying3
  exact ⟨(x1, x2), rfl, q1, q2⟩
theorem Ro_tryl {row : List RV} (h : Ro Tryz.prog 81 row) : ∃ v : Int × Int, row = tryR v ∧ True := by
 obtain ⟨rows, rfl, h1, h2⟩ := Ro_struct h Tryz.underlying81
 match rows, h1 with
 | [a, b], _ =>
  obtain ⟨x1, rfl, q1⟩ := Ro_int (h2 0 _ a rfl rfl) Tryz.underlying3
  obtain ⟨x2, rfl, q2⟩ := Ro_int (h2 1 _ b rfl rfl) Tryz.underlying3
  exact ⟨(x1, x2), rfl, trivial⟩
theorem Ro_frame {row : List RV} (h : Ro Tryz.prog 61 row) : ∃ f : FrameT, row = frameR f ∧ Gwf f := by
 obtain ⟨rows, rfl, h1, h2⟩ := Ro_struct h Tryz.underlying61
 match rows, h1 with
 | [a, b, c, d, e, u, v], _ =>
  obtain ⟨x1, rfl, _⟩ := Ro_int (h2 0 _ a rfl rfl) Tryz.underlying3
  obtain ⟨x2, rfl, _⟩ := Ro_int (h2 1 _ b rfl rfl) Tryz.underlying3
  obtain ⟨x3, rfl, _⟩ := Ro_int (h2 2 _ c rfl rfl) Tryz.underlying3
  obtain ⟨x4, rfl, q4⟩ := Ro_int (h2 3 _ d rfl rfl) Tryz.underlying3
  obtain ⟨x5, rfl, _⟩ := Ro_vall (h2 4 _ e rfl rfl)
  obtain ⟨x6, rfl, m6, _⟩ := Ro_list valR (fun v => WI v.2) (h2 5 _ u rfl rfl) Tryz.underlying23 c_val fun r hr => Ro_vall hr
  obtain ⟨x7, rfl, m7, _⟩ := Ro_list tryR (fun _ => True) (h2 6 _ v rfl rfl) Tryz.underlying59 c_try fun r hr => Ro_tryl hr
  exact ⟨⟨x1, x2, x3, x4, x5, x6, x7⟩, rfl, m6, m7, q4⟩
theorem Ro_cell {row : List RV} (h : Ro Tryz.prog 48 row) : ∃ c : CellT, row = cellR c ∧ Cwf c := by
 obtain ⟨rows, rfl, h1, h2⟩ := Ro_struct h Tryz.underlying48
 match rows, h1 with
 | [a, b, u, v], _ =>
  obtain ⟨x1, rfl, _⟩ := Ro_int (h2 0 _ a rfl rfl) Tryz.underlying3
  obtain ⟨x2, rfl, _⟩ := Ro_int (h2 1 _ b rfl rfl) Tryz.underlying3
  obtain ⟨x3, rfl, m3, q3⟩ := Ro_list valR (fun v => WI v.2) (h2 2 _ u rfl rfl) Tryz.underlying23 c_val fun r hr => Ro_vall hr
  obtain ⟨x4, rfl, m4, q4⟩ := Ro_list frameR Gwf (h2 3 _ v rfl rfl) Tryz.underlying46 c_frame fun r hr => Ro_frame hr
  exact ⟨⟨x1, x2, x3, x4⟩, rfl, m3, q3, m4, q4⟩
theorem Ro_thread {row : List RV} (h : Ro Tryz.prog 56 row) : ∃ t : ThreadT, row = threadR t ∧ t.frames.length ≤ 9223372036854775807 ∧ ∀ f ∈ t.frames, Gwf f := by
 obtain ⟨rows, rfl, h1, h2⟩ := Ro_struct h Tryz.underlying56
 match rows, h1 with
 | [v, a, b, c], _ =>
  obtain ⟨x4, rfl, m4, q4⟩ := Ro_list frameR Gwf (h2 0 _ v rfl rfl) Tryz.underlying46 c_frame fun r hr => Ro_frame hr
  obtain ⟨x1, rfl, _⟩ := Ro_int (h2 1 _ a rfl rfl) Tryz.underlying3
  obtain ⟨x2, rfl, _⟩ := Ro_int (h2 2 _ b rfl rfl) Tryz.underlying3
  obtain ⟨x3, rfl, _⟩ := Ro_vall (h2 3 _ c rfl rfl)
  exact ⟨⟨x4, x1, x2, x3⟩, rfl, m4, q4⟩
theorem Ro_end {row : List RV} (h : Ro Tryz.prog 127 row) : ∃ e : EndT, row = endR e ∧ True := by
 obtain ⟨rows, rfl, h1, h2⟩ := Ro_struct h Tryz.underlying127
 match rows, h1 with
 | [a, b], _ =>
  obtain ⟨x1, rfl, _⟩ := Ro_int (h2 0 _ a rfl rfl) Tryz.underlying3
  obtain ⟨x2, rfl, _⟩ := Ro_vall (h2 1 _ b rfl rfl)
  exact ⟨⟨x1, x2⟩, rfl, trivial⟩
theorem Ro_state {row : List RV} (h : Ro Tryz.prog 32 row) : ∃ s : StateT, row = stateR s ∧ Swf s := by
 obtain ⟨rows, rfl, h1, h2⟩ := Ro_struct h Tryz.underlying32
 match rows, h1 with
 | [a, b, c, d, e, u, v, w], _ =>
  obtain ⟨x1, rfl, m1, q1⟩ := Ro_list cellR Cwf (h2 0 _ a rfl rfl) Tryz.underlying27 c_cell fun r hr => Ro_cell hr
  obtain ⟨x2, rfl, m2, q2⟩ := Ro_list valR Sh.WfS (h2 1 _ b rfl rfl) Tryz.underlying28 c_shape fun r hr => Ro_shapel hr
  obtain ⟨x3, rfl, m3, _⟩ := Ro_list strR (fun _ => True) (h2 2 _ c rfl rfl) Tryz.underlying24 c_str fun r hr => by
   obtain ⟨s, hs, _⟩ := Ro_str hr Tryz.underlying9
   exact ⟨s, hs, trivial⟩
  obtain ⟨x4, rfl, m4, q4⟩ := Ro_list threadR (fun t => t.frames.length ≤ 9223372036854775807 ∧ ∀ f ∈ t.frames, Gwf f) (h2 3 _ d rfl rfl) Tryz.underlying29 c_thread fun r hr => Ro_thread hr
  obtain ⟨x5, rfl, m5, _⟩ := Ro_list endR (fun _ => True) (h2 4 _ e rfl rfl) Tryz.underlying30 c_end fun r hr => Ro_end hr
  obtain ⟨x6, rfl, m6, _⟩ := Ro_list valR (fun v => WI v.2) (h2 5 _ u rfl rfl) Tryz.underlying23 c_val fun r hr => Ro_vall hr
  obtain ⟨x7, rfl, _⟩ := Ro_int (h2 6 _ v rfl rfl) Tryz.underlying3
  obtain ⟨x8, rfl, _⟩ := Ro_int (h2 7 _ w rfl rfl) Tryz.underlying3
  exact ⟨⟨x1, x2, x3, x4, x5, x6, x7, x8⟩, rfl, ⟨m1, m2, m3, m4, m5, m6⟩, q2, q1, q4⟩
end Go.Proofs.YtbhnmolmkembdaaGreatDoor
namespace Go.Proofs.YtbhnmolmkembdaaGreatDoor
set_option linter.unusedVariables false
set_option linter.unusedSimpArgs false
set_option maxHeartbeats 10000000
open Go
set_option maxRecDepth 10000
inductive NilD : RV → RV → Prop
 | same (x : RV) : NilD x x
 | nil (sz : Nat) : NilD (.v (.slice none 0 0)) (.rs sz [])
 | rs (sz : Nat) (rows rows' : List (List RV)) (hl : rows'.length = rows.length) (hr : ∀ (i : Nat) (row row' : List RV), rows[i]? = some row → rows'[i]? = some row' → row'.length = row.length)
   (h : ∀ (i j : Nat) (row row' : List RV) (x y : RV), rows[i]? = some row → rows'[i]? = some row' → row[j]? = some x → row'[j]? = some y → NilD x y) : NilD (.rs sz rows) (.rs sz rows')
theorem RR.nilD {w : World} {N : Nat → Prop} {x y : RV} (h : NilD x y) : ∀ {v : Value}, RR w N x v → RR w N y v := by
 induction h with
 | same x => exact fun h => h
 | nil sz => intro v h; cases h; exact .nil sz
 | rs sz rows rows' hl hr _ ih =>
  intro v hv
  cases hv with
  | nil =>
   have : rows' = [] := List.length_eq_zero_iff.1 hl
   subst this; exact .nil sz
  | rs _ _ a cap c hb hcap hw hc hrr =>
   have hget : ∀ (i : Nat) (row' : List RV), rows'[i]? = some row' → ∃ row, rows[i]? = some row := fun i row' hi => by
    have := (List.getElem?_eq_some_iff.1 hi).1
    exact ⟨_, List.getElem?_eq_getElem (by omega)⟩
   rw [← hl]
   refine .rs sz rows' a cap c (fun hne => hb fun h0 => hne (by subst h0; exact List.length_eq_zero_iff.1 hl)) (by omega) (fun row' hrow' => ?_) (fun i j hi hj => hc i j (by omega) hj) (fun i j row' y hi hj => ?_)
   ·obtain ⟨i, hi⟩ := List.mem_iff_getElem?.1 hrow'
    obtain ⟨row, h1⟩ := hget i row' hi
    rw [hr i row row' h1 hi]; exact hw row (List.mem_of_getElem? h1)
   ·obtain ⟨row, h1⟩ := hget i row' hi
    have h2 := hr i row row' h1 hi
    have hlt := (List.getElem?_eq_some_iff.1 hj).1
    have hx : row[j]? = some (row[j]'(by omega)) := List.getElem?_eq_getElem (by omega)
    exact ih i j row row' _ y h1 hi hx hj (hrr i j row _ h1 hx)
theorem AR.nilD {cur : Nat → Nat} {g : Gh} {w : World} {N : Nat → Prop} {xs ys : List RV} {v : Value} (hl : ys.length = xs.length) (h : ∀ (j : Nat) (x y : RV), xs[j]? = some x → ys[j]? = some y → NilD x y) (hv : AR cur g w N (.agg (xs.map .r)) v) : AR cur g w N (.agg (ys.map .r)) v := by
 cases hv with
 | agg _ us hs hu =>
  refine .agg _ us (by simp at hs ⊢; omega) fun j y u hy hju => ?_
  rw [List.getElem?_map] at hy
  cases hyj : ys[j]? with
  | none => simp [hyj] at hy
  | some z =>
   simp [hyj] at hy; subst hy
   have hlt := (List.getElem?_eq_some_iff.1 hyj).1
   have hx : xs[j]? = some (xs[j]'(by omega)) := List.getElem?_eq_getElem (by omega)
   have := hu j (.r (xs[j]'(by omega))) u (by rw [List.getElem?_map, hx]; rfl) hju
   cases this with | r this => exact .r (RR.nilD (h j _ z hx hyj) this)
theorem FC_res {C : Ctx} {f : Nat} {args : List AV} {rs0 : List (Nat × Nat × Res)} {r r' : AV} (hf : FC C f args rs0 r []) (h : ∀ cur g w N v, AR cur g w N r v → AR cur g w N r' v) : FC C f args rs0 r' [] := by
 refine ⟨fun e g w vs hok hs hvs => (hf.run e g w vs hok hs hvs).mono ?_⟩
 rintro x w' ⟨v, g', rfl, hs', hv, hk⟩
 exact ⟨v, g', rfl, hs', h _ _ _ _ _ hv, hk⟩
theorem num_c (n : Int) : FC Cx 89 [Iv n] [] (VV 2 n) [] := by
 refine FCp_st [] Tryz.func89 Tryz.ntmps89 Tryz.results89 ?_
 (any_goals refine go lv89 0 ?_)
 all_goals (try simp only [go_sem])
def sp_num (args : List AV) (K : AV → Prop) : Prop := match args with
 | [.r (.v (.int .i64 n))] => K (VV 2 n)
 | _ => False
noncomputable abbrev ct_num : Ct Cx := .pure 89 sp_num fun args K h => by
 unfold sp_num at h; split at h; exact ⟨_, CallOk_of (num_c _) en89 rfl rfl, h⟩; exact h.elim
@[go_sem] theorem sp_num_eq : type_of% @sp_num.eq_def := @sp_num.eq_def
def smallP (l : List InsT) : ProgT := ⟨[⟨0, 3, false, [], l⟩], [(2, 1)], wordsL⟩
theorem small0_c (l : List InsT) : FC Cx 49 [inssV l] [] (.agg [.r (.rs 5 [[.v (.int .i64 0), .v (.int .i64 3), .v (.bool false), .v (.slice none 0 0), .rs 5 (l.map insR)]]), .r (.rs 2 [[.v (.int .i64 2), .v (.int .i64 1)]]), strsV wordsL]) [] := by
 refine FCf_of [ct_num, ct_words] Tryz.func49 rfl Tryz.ntmps49 (by simp) Tryz.results49 rfl ?_
 refine rnst ?_
 (any_goals refine go lv49 0 ?_)
 all_goals (try simp only [go_sem])
theorem small_c (l : List InsT) : FC Cx 49 [inssV l] [] (progV (smallP l)) [] := by
 refine FC_res (small0_c l) fun cur g w N v hv => ?_
 refine AR.nilD (xs := [.rs 5 [[.v (.int .i64 0), .v (.int .i64 3), .v (.bool false), .v (.slice none 0 0), .rs 5 (l.map insR)]], .rs 2 [[.v (.int .i64 2), .v (.int .i64 1)]], .rs 1 (wordsL.map strR)]) (ys := progR (smallP l)) rfl (fun j x y hx hy => ?_) hv
 match j with
 | 0 =>
  simp at hx hy; subst hx; subst hy
  refine .rs 5 _ _ rfl (fun i row row' h1 h2 => ?_) fun i j row row' x y h1 h2 h3 h4 => ?_
  ·match i with
   | 0 => simp [smallP] at h1 h2; subst h1; subst h2; rfl
   | i + 1 => simp at h1
  ·match i with
   | 0 =>
    simp [smallP] at h1 h2; subst h1; subst h2
    match j with
    | 0 => simp at h3 h4; subst h3; subst h4; exact .same _
    | 1 => simp at h3 h4; subst h3; subst h4; exact .same _
    | 2 => simp at h3 h4; subst h3; subst h4; exact .same _
    | 3 => simp at h3 h4; subst h3; subst h4; exact .nil 1
    | 4 => simp at h3 h4; subst h3; subst h4; exact .same _
    | j + 5 => simp at h3
   | i + 1 => simp at h1
 | 1 => simp at hx hy; subst hx; subst hy; exact .same _
 | 2 => simp at hx hy; subst hx; subst hy; exact .same _
 | j + 3 => simp at hx
@[go_sem] theorem inssOf_cons (k1 k2 k3 k4 k5 : IntKind) (o a b c l : Int) (xs : List (List RV)) : inssOf ([.v (.int k1 o), .v (.int k2 a), .v (.int k3 b), .v (.int k4 c), .v (.int k5 l)] :: xs) = ⟨o, a, b, c, l⟩ :: inssOf xs := rfl
@[go_sem] theorem inssOf_nil : inssOf [] = [] := rfl
theorem small_wf (l : List InsT) (hl : l.length ≤ 100) : Pwf (smallP l) := ⟨⟨by simp [smallP], by simp [smallP], by simp [smallP, wordsL]⟩, fun f hf => by simp [smallP] at hf; subst hf; simp; omega⟩
structure To (f : FnT) (W : WT) (t : Int) (l : List (Int × Int)) : Prop where
 lo : 0 ≤ t
 hi : t < f.code.length
 few : l.length ≤ 20
 seen : W.seen.getD t.toNat false = true
 out : W.out.getD t.toNat [] = l
theorem getD_set_self {α : Type} {l : List α} {i : Nat} {x d : α} (h : i < l.length) : (l.set i x).getD i d = x := by
 simp [List.getD, List.getElem?_set, h]
theorem getD_set_ne {α : Type} {l : List α} {i j : Nat} {x d : α} (h : i ≠ j) : (l.set i x).getD j d = l.getD j d := by
 simp [List.getD, List.getElem?_set, h]
theorem come_bad {f : FnT} {n : Int} {l : List (Int × Int)} {W : WT} (h : W.bad = true) : (comeF f n l W).bad = true := by
 unfold comeF; split
 ·rfl
 ·split
  ·exact h
  ·split
   ·exact h
   ·rfl
theorem come_to {f : FnT} {n : Int} {l : List (Int × Int)} {W : WT} (hi : Wiv f W) (hn : 0 ≤ n) (h : (comeF f n l W).bad = false) : To f (comeF f n l W) n l := by
 unfold comeF at h ⊢
 split at h
 ·cases h
 ·rename_i hb
  rw [if_neg hb]
  have h1 := hi.seen
  have h2 := hi.out
  split at h
  ·rename_i hs
   rw [if_pos hs]
   exact ⟨hn, by omega, by omega, getD_set_self (by omega), getD_set_self (by omega)⟩
  ·rename_i hs
   rw [if_neg hs]
   split at h
   ·rename_i ho
    rw [if_pos ho]
    exact ⟨hn, by omega, by omega, by simpa using hs, ho⟩
   ·cases h
theorem come_keeps {f : FnT} {n t : Int} {l l' : List (Int × Int)} {W : WT} (h : To f W t l') : To f (comeF f n l W) t l' := by
 obtain ⟨h1, h2, h3, h4, h5⟩ := h
 unfold comeF
 split
 ·exact ⟨h1, h2, h3, h4, h5⟩
 ·split
  ·rename_i hs
   have hne : n.toNat ≠ t.toNat := fun e => by rw [e, h4] at hs; cases hs
   exact ⟨h1, h2, h3, by rw [getD_set_ne hne]; exact h4, by rw [getD_set_ne hne]; exact h5⟩
  ·split
   ·exact ⟨h1, h2, h3, h4, h5⟩
   ·exact ⟨h1, h2, h3, h4, h5⟩
theorem come_seen {f : FnT} {n : Int} {l : List (Int × Int)} {W : WT} (hn : 0 ≤ n) {k : Nat} (h : (comeF f n l W).seen.getD k false = true) : W.seen.getD k false = true ∨ (k : Int) ∈ (comeF f n l W).todo := by
 unfold comeF at h ⊢
 split at h
 ·exact .inl h
 ·rename_i hb
  rw [if_neg hb]
  split at h
  ·rename_i hs
   rw [if_pos hs]
   by_cases hk : n.toNat = k
   ·subst hk
    right; simp; right; omega
   ·left; dsimp only at h; rwa [getD_set_ne hk] at h
  ·rename_i hs
   rw [if_neg hs]
   left
   split at h <;> exact h
theorem come_sub {f : FnT} {n : Int} {l : List (Int × Int)} {W : WT} {t : Int} (h : t ∈ W.todo) : t ∈ (comeF f n l W).todo := by
 unfold comeF; split
 ·exact h
 ·split
  ·exact List.mem_append_left _ h
  ·split <;> exact h
def closed (f : FnT) (W : WT) (n : Int) (l : List (Int × Int)) : Prop :=
 let i := f.code.getD n.toNat ins0
 if i.op = 28 ∨ i.op = 29 then True else if i.op = 13 ∨ i.op = 14 then To f W i.a l else
 if i.op = 15 then To f W i.b l ∧ To f W (n + 1) l else if i.op = 30 then To f W i.b l ∧ To f W (n + 1) (l ++ [(i.a, i.b)]) else
 if i.op = 31 then l ≠ [] ∧ To f W (n + 1) (l.take (l.length - 1)) else To f W (n + 1) l
structure Fr (f : FnT) (n : Int) (W : WT) : Prop where
 bad : W.bad = true → (fromF f n W).bad = true
 keeps : ∀ t l, To f W t l → To f (fromF f n W) t l
 seen : ∀ k : Nat, (fromF f n W).seen.getD k false = true → W.seen.getD k false = true ∨ (k : Int) ∈ (fromF f n W).todo
 sub : ∀ t, t ∈ W.todo → t ∈ (fromF f n W).todo
 closed : (fromF f n W).bad = false → Go.Proofs.YtbhnmolmkembdaaGreatDoor.closed f (fromF f n W) n (W.out.getD n.toNat [])
theorem from_fr {f : FnT} {n : Int} {W : WT} (h : Wiv f W) (hc : Cok f) (hn : 0 ≤ n) : Fr f n W := by
 have hi : f.code.getD n.toNat ins0 = ins0 ∨ f.code.getD n.toNat ins0 ∈ f.code := by
  cases hg : f.code[n.toNat]? with
  | none => left; simp [List.getD, hg]
  | some i => right; simp only [List.getD, hg, Option.getD_some]; exact List.mem_of_getElem? hg
 have hA : (f.code.getD n.toNat ins0).op = 13 ∨ (f.code.getD n.toNat ins0).op = 14 → 0 ≤ (f.code.getD n.toNat ins0).a := fun ho => hi.elim (fun h => by rw [h] at ho; rcases ho with ho | ho <;> cases ho) (fun h => hc.a _ h ho)
 have hB : (f.code.getD n.toNat ins0).op = 15 ∨ (f.code.getD n.toNat ins0).op = 30 → 0 ≤ (f.code.getD n.toNat ins0).b := fun ho => hi.elim (fun h => by rw [h] at ho; rcases ho with ho | ho <;> cases ho) (fun h => hc.b _ h ho)
 have one : ∀ (t : Int) (l : List (Int × Int)), 0 ≤ t → fromF f n W = comeF f t l W → (closed f (comeF f t l W) n (W.out.getD n.toNat []) ↔ To f (comeF f t l W) t l) → Fr f n W := fun t l ht he hcl => by
  refine ⟨fun hb => by rw [he]; exact come_bad hb, fun t' l' hT => by rw [he]; exact come_keeps hT, fun k hk => by rw [he] at hk ⊢; exact come_seen ht hk, fun t' ht' => by rw [he]; exact come_sub ht', fun hb => ?_⟩
  rw [he] at hb ⊢
  exact hcl.2 (come_to h ht hb)
 have two : ∀ (t t2 : Int) (l l2 : List (Int × Int)), 0 ≤ t → 0 ≤ t2 → fromF f n W = comeF f t2 l2 (comeF f t l W) → (closed f (comeF f t2 l2 (comeF f t l W)) n (W.out.getD n.toNat []) ↔ To f (comeF f t2 l2 (comeF f t l W)) t l ∧ To f (comeF f t2 l2 (comeF f t l W)) t2 l2) → Fr f n W := fun t t2 l l2 ht ht2 he hcl => by
  have h2 := (come_iv (n := t) (l := l) h ht).1
  refine ⟨fun hb => by rw [he]; exact come_bad (come_bad hb), fun t' l' hT => by rw [he]; exact come_keeps (come_keeps hT), fun k hk => ?_, fun t' ht' => by rw [he]; exact come_sub (come_sub ht'), fun hb => ?_⟩
  ·rw [he] at hk ⊢
   rcases come_seen ht2 hk with hk | hk
   ·rcases come_seen ht hk with hk | hk
    ·exact .inl hk
    ·exact .inr (come_sub hk)
   ·exact .inr hk
  ·rw [he] at hb ⊢
   have hb1 : (comeF f t l W).bad = false := by
    cases hx : (comeF f t l W).bad with
    | false => rfl
    | true => rw [come_bad hx] at hb; cases hb
   exact hcl.2 ⟨come_keeps (come_to h ht hb1), come_to h2 ht2 hb⟩
 by_cases h1 : (f.code.getD n.toNat ins0).op = 28 ∨ (f.code.getD n.toNat ins0).op = 29
 ·have he : fromF f n W = W := by unfold fromF; dsimp only; rw [if_pos h1]
  refine ⟨fun hb => by rw [he]; exact hb, fun t l hT => by rw [he]; exact hT, fun k hk => by rw [he] at hk; exact .inl hk, fun t ht => by rw [he]; exact ht, fun _ => ?_⟩
  unfold closed; dsimp only; rw [if_pos h1]; trivial
 by_cases h2 : (f.code.getD n.toNat ins0).op = 13 ∨ (f.code.getD n.toNat ins0).op = 14
 ·exact one (f.code.getD n.toNat ins0).a (W.out.getD n.toNat []) (hA h2) (by unfold fromF; dsimp only; rw [if_neg h1, if_pos h2]) (by unfold closed; dsimp only; rw [if_neg h1, if_pos h2])
 by_cases h3 : (f.code.getD n.toNat ins0).op = 15
 ·exact two (f.code.getD n.toNat ins0).b (n + 1) (W.out.getD n.toNat []) (W.out.getD n.toNat []) (hB (.inl h3)) (by omega) (by unfold fromF; dsimp only; rw [if_neg h1, if_neg h2, if_pos h3]) (by unfold closed; dsimp only; rw [if_neg h1, if_neg h2, if_pos h3])
 by_cases h4 : (f.code.getD n.toNat ins0).op = 30
 ·exact two (f.code.getD n.toNat ins0).b (n + 1) (W.out.getD n.toNat []) (W.out.getD n.toNat [] ++ [((f.code.getD n.toNat ins0).a, (f.code.getD n.toNat ins0).b)]) (hB (.inr h4)) (by omega) (by unfold fromF; dsimp only; rw [if_neg h1, if_neg h2, if_neg h3, if_pos h4]) (by unfold closed; dsimp only; rw [if_neg h1, if_neg h2, if_neg h3, if_pos h4])
 by_cases h5 : (f.code.getD n.toNat ins0).op = 31
 ·by_cases hl : W.out.getD n.toNat [] = []
  ·have he : fromF f n W = { W with bad := true } := by unfold fromF; dsimp only; rw [if_neg h1, if_neg h2, if_neg h3, if_neg h4, if_pos h5, if_pos hl]
   exact ⟨fun _ => by rw [he], fun t l hT => by rw [he]; exact ⟨hT.lo, hT.hi, hT.few, hT.seen, hT.out⟩, fun k hk => by rw [he] at hk; exact .inl hk, fun t ht => by rw [he]; exact ht, fun hb => by rw [he] at hb; cases hb⟩
  ·exact one (n + 1) ((W.out.getD n.toNat []).take ((W.out.getD n.toNat []).length - 1)) (by omega) (by unfold fromF; dsimp only; rw [if_neg h1, if_neg h2, if_neg h3, if_neg h4, if_pos h5, if_neg hl]) (by unfold closed; dsimp only; rw [if_neg h1, if_neg h2, if_neg h3, if_neg h4, if_pos h5]; exact ⟨fun x => x.2, fun x => ⟨hl, x⟩⟩)
 ·exact one (n + 1) (W.out.getD n.toNat []) (by omega) (by unfold fromF; dsimp only; rw [if_neg h1, if_neg h2, if_neg h3, if_neg h4, if_neg h5]) (by unfold closed; dsimp only; rw [if_neg h1, if_neg h2, if_neg h3, if_neg h4, if_neg h5])
theorem seen_to {f : FnT} {W : WT} (h : Wiv f W) {k : Nat} (hk : W.seen.getD k false = true) : To f W k (W.out.getD k []) := by
 have hlt : k < W.seen.length := by
  rcases Nat.lt_or_ge k W.seen.length with h | h
  ·exact h
  ·simp [List.getD, List.getElem?_eq_none h] at hk
 have h1 := h.seen
 have h2 := h.out
 refine ⟨by omega, by omega, ?_, hk, rfl⟩
 have hx : W.out[k]? = some (W.out[k]'(by omega)) := List.getElem?_eq_getElem (by omega)
 simp only [List.getD, hx, Option.getD_some]
 exact h.outs _ (List.mem_of_getElem? hx)
section
variable {f0 : FnT} {rest : List FnT} {cs : List (Int × Int)} {ts : List ByteArray} {k : Nat}
end
theorem idxfCell_c (l : List CellT) (f : Nat) (caps : List RV) (dom : AV → Prop) (pv : AV → Bool) (h : ∀ y, dom y → CallOk Cx f (y :: caps.map AV.r) (Bv (pv y))) (hd : ∀ x ∈ l, dom (cellA x)) (hl : l.length ≤ 9223372036854775807) :
  FC Cx 166 [cellsV l, .r (.fn f caps)] [] (Iv (fidx (fun x => pv (cellA x)) l)) [] := by
 have hlen : (l.map cellR).length = l.length := List.length_map ..
 refine FCp_st [ctF f caps dom pv h] Tryz.func166 Tryz.ntmps166 Tryz.results166 ?_
 (any_goals refine go lv166 0 ?_)
 refine Rn_loopT [0, 1, 7, 8] (fun i => i ≤ l.length ∧ ∀ j x, j < i → l[j]? = some x → pv (cellA x) = false) (fun (i : Nat) => ⟨19, [(0, cellsV l), (1, .r (.fn f caps)), (7, Iv l.length), (8, Iv i)], []⟩) (fun i => l.length - i) 0 rfl (by rw [← hlen]; rfl) rfl ⟨Nat.zero_le _, fun j x hj => by omega⟩ ?_
 rintro i ⟨hi, hno⟩
 by_cases hlt : i < l.length
 ·obtain ⟨x, hx⟩ : ∃ x, l[i]? = some x := ⟨l[i], List.getElem?_eq_getElem hlt⟩
  have hg := getD_map cellR hx ([] : List RV)
  have hdx := hd x (List.mem_of_getElem? hx)
  have hw : IntKind.i64.wrap ((i : Int) + 1) = ((i + 1 : Nat) : Int) := by rw [wrap_id] <;> omega
  have h1 : decide ((i : Int) < (l.length : Int)) = true := by rw [decide_eq_true_eq]; omega
  have h2 : Int.toNat (i : Int) = i := by omega
  cases hp : pv (cellA x) with
  | true =>
   (any_goals refine go lv166 0 ?_)
   all_goals (try simp only [go_sem])
   rw [fidx_hit hx hp fun j y hj hy => hno j y hj hy]
  | false =>
   (any_goals refine go lv166 0 ?_)
   refine ⟨i + 1, ⟨by omega, fun j y hj hy => ?_⟩, by omega, Le_keep [0, 1, 7, 8] rfl rfl rfl⟩
   rcases Nat.lt_succ_iff_lt_or_eq.1 hj with h3 | h3
   ·exact hno j y h3 hy
   ·subst h3; rw [hx] at hy; cases hy; exact hp
 ·have h1 : decide ((i : Int) < (l.length : Int)) = false := by rw [decide_eq_false_iff_not]; omega
  (any_goals refine go lv166 0 ?_)
  all_goals (try simp only [go_sem])
  rw [fidx_none fun j y hy => hno j y (by have := (List.getElem?_eq_some_iff.1 hy).1; omega) hy]
theorem anyCell_c (l : List CellT) (f : Nat) (caps : List RV) (dom : AV → Prop) (pv : AV → Bool) (h : ∀ y, dom y → CallOk Cx f (y :: caps.map AV.r) (Bv (pv y))) (hd : ∀ x ∈ l, dom (cellA x)) (hl : l.length ≤ 9223372036854775807) :
  FC Cx 113 [cellsV l, .r (.fn f caps)] [] (Bv (l.any fun x => pv (cellA x))) [] := by
 have hA : ∀ y, y = [cellsV l, .r (.fn f caps)] → CallOk Cx 166 y (Iv (fidx (fun x => pv (cellA x)) l)) := fun y hy => by
  subst hy; exact CallOk_of (idxfCell_c l f caps dom pv h hd hl) en166 rfl rfl
 refine FCp_st [ctE 166 [cellsV l, .r (.fn f caps)] (Iv (fidx (fun x => pv (cellA x)) l)) hA] Tryz.func113 Tryz.ntmps113 Tryz.results113 ?_
 (any_goals refine go lv113 0 ?_)
 all_goals (try simp only [go_sem])
 all_goals (try rw [fidx_any])
def cellV : AV → CellT
 | .agg [.r (.v (.int _ a)), .r (.v (.int _ b)), .r (.rs _ vs), .r (.rs _ fs)] => ⟨a, b, valsOf vs, framesOf fs⟩
 | _ => cell0
theorem cellV_A (c : CellT) : cellV (cellA c) = c := by
 show (⟨c.kind, c.num, valsOf (c.vals.map valR), framesOf (c.frames.map frameR)⟩ : CellT) = c
 rw [valsOf_map, framesOf_map]
def bigC (c : CellT) : Bool := decide ((100 : Int) < (c.vals.length : Int)) && (!decide (c.kind = 7) || decide ((600 : Int) < (c.vals.length : Int)))
def largeS (s : StateT) : Bool := decide ((300 : Int) < (s.cells.length : Int)) || decide ((300 : Int) < (s.texts.length : Int)) || decide ((200 : Int) < (s.said.length : Int)) || decide ((100 : Int) < (s.ends.length : Int)) || s.texts.any bigS || s.cells.any bigC
theorem slarge1_c (t : ByteArray) : FC Cx 162 [Sv t] [] (Bv (bigS t)) [] := by
 refine FCp_st [] Tryz.func162 Tryz.ntmps162 Tryz.results162 ?_
 (any_goals refine go lv162 0 ?_)
 all_goals (try simp only [go_sem])
 all_goals rfl
theorem slarge2_c (c : CellT) : FC Cx 163 [cellA c] [] (Bv (bigC c)) [] := by
 have l1 : (c.vals.map valR).length = c.vals.length := List.length_map ..
 refine FCp_st [] Tryz.func163 Tryz.ntmps163 Tryz.results163 ?_
 refine goR ?_
 refine fzB 1 ?_
 (any_goals refine go lv163 0 ?_)
 all_goals (try simp only [go_sem])
 all_goals (unfold bigC; simp_all)
theorem slarge_c (s : StateT) (hl : Slen s) : FC Cx 108 [stateP s] [] (Bv (largeS s)) [] := by
 have l1 : (s.cells.map cellR).length = s.cells.length := List.length_map ..
 have l2 : (s.texts.map strR).length = s.texts.length := List.length_map ..
 have l3 : (s.said.map valR).length = s.said.length := List.length_map ..
 have l4 : (s.ends.map endR).length = s.ends.length := List.length_map ..
 have hA : ∀ y, y = [strsV s.texts, .r (.fn 162 [])] → CallOk Cx 99 y (Bv (s.texts.any bigS)) := fun y hy => by
  subst hy
  have h := anyStr_c s.texts 162 [] (fun y => ∃ t, y = strA t) (fun y => match y with | .r (.v (.string t)) => bigS t | _ => false) (by
   rintro _ ⟨t, rfl⟩
   exact CallOk_of (slarge1_c t) en162 rfl rfl) (fun x _ => ⟨x, rfl⟩) hl.texts
  exact CallOk_of h en99 rfl rfl
 have hB : ∀ y, y = [cellsV s.cells, .r (.fn 163 [])] → CallOk Cx 113 y (Bv (s.cells.any bigC)) := fun y hy => by
  subst hy
  have h := anyCell_c s.cells 163 [] (fun y => ∃ c, y = cellA c) (fun y => bigC (cellV y)) (by
   rintro _ ⟨c, rfl⟩
   rw [cellV_A]
   exact CallOk_of (slarge2_c c) en163 rfl rfl) (fun x _ => ⟨x, rfl⟩) hl.cells
  simp only [cellV_A] at h
  exact CallOk_of h en113 rfl rfl
 unfold largeS
 generalize hb5 : s.texts.any bigS = b5 at *
 generalize hb6 : s.cells.any bigC = b6 at *
 refine FCp_st [ctE 99 [strsV s.texts, .r (.fn 162 [])] (Bv b5) hA, ctE 113 [cellsV s.cells, .r (.fn 163 [])] (Bv b6) hB] Tryz.func108 Tryz.ntmps108 Tryz.results108 ?_
 (any_goals refine go lv108 0 ?_)
 all_goals (try simp only [go_sem])
 all_goals (clear hA hB; simp_all; done)
theorem slarge'_c (ca sh tx th en sd : List (List RV)) (aq sq : Int) (h : (ca = (cellsOf ca).map cellR ∧ sh = (valsOf sh).map valR ∧ tx = (strsOf tx).map strR ∧ th = (threadsOf th).map threadR ∧ en = (endsOf en).map endR ∧ sd = (valsOf sd).map valR) ∧ Slen ⟨cellsOf ca, valsOf sh, strsOf tx, threadsOf th, endsOf en, valsOf sd, aq, sq⟩) : FC Cx 108 [.r (.rp [.rs 4 ca, .rs 2 sh, .rs 1 tx, .rs 5 th, .rs 3 en, .rs 2 sd, .v (.int .i64 aq), .v (.int .i64 sq)])] [] (Bv (largeS ⟨cellsOf ca, valsOf sh, strsOf tx, threadsOf th, endsOf en, valsOf sd, aq, sq⟩)) [] := by
 have := slarge_c ⟨cellsOf ca, valsOf sh, strsOf tx, threadsOf th, endsOf en, valsOf sd, aq, sq⟩ h.2
 rwa [state_atP _ _ _ _ _ _ _ _ h.1] at this
def sp_slarge' (args : List AV) (K : AV → Prop) : Prop := match args with
 | [.r (.rp [.rs 4 ca, .rs 2 sh, .rs 1 tx, .rs 5 th, .rs 3 en, .rs 2 sd, .v (.int .i64 aq), .v (.int .i64 sq)])] => ((ca = (cellsOf ca).map cellR ∧ sh = (valsOf sh).map valR ∧ tx = (strsOf tx).map strR ∧ th = (threadsOf th).map threadR ∧ en = (endsOf en).map endR ∧ sd = (valsOf sd).map valR) ∧ Slen ⟨cellsOf ca, valsOf sh, strsOf tx, threadsOf th, endsOf en, valsOf sd, aq, sq⟩) ∧ K (Bv (largeS ⟨cellsOf ca, valsOf sh, strsOf tx, threadsOf th, endsOf en, valsOf sd, aq, sq⟩))
 | _ => False
noncomputable abbrev ct_slarge' : Ct Cx := .pure 108 sp_slarge' fun args K h => by
 unfold sp_slarge' at h; split at h; exact ⟨_, CallOk_of (slarge'_c _ _ _ _ _ _ _ _ h.1) en108 rfl rfl, h.2⟩; exact h.elim
@[go_sem] theorem sp_slarge'_eq : type_of% @sp_slarge'.eq_def := @sp_slarge'.eq_def
def textsF (l : List ByteArray) : Bool := decide (19 ≤ l.length) && decide (l.take 19 = wordsL) && decide l.Nodup
theorem texts_bad {l : List ByteArray} {k : Nat} {t : ByteArray} (h : l[k]? = some t) (hb : t ∈ l.take k ∨ k < 19 ∧ wordsL[k]? ≠ some t) : textsF l = false := by
 unfold textsF
 rcases hb with hb | ⟨h1, h2⟩
 ·rw [decide_eq_false (not_nodup h hb)]; simp
 ·have : ¬ l.take 19 = wordsL := fun he => h2 (by rw [← he, List.getElem?_take, if_pos h1]; exact h)
  rw [decide_eq_false this]; simp
theorem texts_ok {l : List ByteArray} (h : ∀ j t, l[j]? = some t → t ∉ l.take j ∧ (j < 19 → wordsL[j]? = some t)) : textsF l = decide (19 ≤ l.length) := by
 unfold textsF
 have hn : l.Nodup := by
  have := nodup_take l.length (Nat.le_refl _) fun j t _ ht => (h j t ht).1
  rwa [List.take_length] at this
 by_cases h19 : 19 ≤ l.length
 ·have : l.take 19 = wordsL := List.ext_getElem? fun j => by
   rw [List.getElem?_take]
   by_cases hj : j < 19
   ·rw [if_pos hj]
    have hx : l[j]? = some (l[j]'(by omega)) := List.getElem?_eq_getElem _
    rw [hx, (h j _ hx).2 hj]
   ·rw [if_neg hj, List.getElem?_eq_none (by rw [show wordsL.length = 19 from rfl]; omega)]
  rw [decide_eq_true this, decide_eq_true hn, decide_eq_true h19]; rfl
 ·rw [decide_eq_false h19]; rfl
theorem stexts_c (l : List ByteArray) (hl : l.length ≤ 300) (h2 : ∀ t ∈ l, t.size ≤ 200) : FC Cx 110 [strsV l] [] (Bv (textsF l)) [] := by
 have l1 : (l.map strR).length = l.length := List.length_map ..
 refine FCp_st [ct_words] Tryz.func110 Tryz.ntmps110 Tryz.results110 ?_
 (any_goals refine go lv110 0 ?_)
 refine Rn_loopS (fun x : Nat × Nat => x.1 ≤ l.length ∧ ∀ j t, j < x.1 → l[j]? = some t → t ∉ l.take j ∧ (j < 19 → wordsL[j]? = some t))
  (fun x => ⟨42, [(0, strsV l), (3, strsV wordsL), (4, .os 8 1), (9, strsV l), (10, Iv l.length), (11, Iv x.1)], [(8, 1, .mp (seenT (l.take x.1)) x.2)]⟩) (fun x => l.length - x.1) (0, 0) ⟨Nat.zero_le _, fun j t hj => by omega⟩ ?_ rfl ?_ ⟨rfl, .inl ⟨rfl, by simp [seenT_nil]⟩, trivial⟩
 rotate_left
 ·exact ⟨rfl, rfl, rfl, rfl, by simp [lookT], rfl, trivial⟩
 rintro ⟨k, n⟩ ⟨hk, hno⟩
 dsimp only at hk hno ⊢
 by_cases hlt : k < l.length
 case neg =>
  obtain rfl : k = l.length := by omega
  have e1 : decide ((l.length : Int) < (l.length : Int)) = false := by rw [decide_eq_false_iff_not]; omega
  have hF := texts_ok (l := l) fun j t hj => hno j t (List.getElem?_eq_some_iff.1 hj).1 hj
  (any_goals refine go lv110 0 ?_)
  all_goals (try simp only [go_sem])
  rw [hF]
  refine congrArg (fun b => Bv b) ?_
  rw [decide_eq_decide]; omega
 have e1 : decide ((k : Int) < (l.length : Int)) = true := by rw [decide_eq_true_eq]; omega
 have t1 : Int.toNat (k : Int) = k := by omega
 have w1 : IntKind.i64.wrap ((k : Int) + 1) = ((k + 1 : Nat) : Int) := by rw [wrap_id] <;> omega
 obtain ⟨t, ht⟩ : ∃ v, l[k]? = some v := ⟨l[k], List.getElem?_eq_getElem hlt⟩
 have hg := getD_map strR ht ([] : List RV)
 have hM : MapOk Tryz.prog 154 (seenT (l.take k)) (.string t) := seenT_ok (fun q hq => h2 q (List.mem_of_mem_take hq)) (h2 t (List.mem_of_getElem? ht))
 by_cases hin : t ∈ l.take k
 ·have d6 := seenT_yes hin
  have hF := texts_bad ht (.inl hin)
  (any_goals refine go lv110 0 ?_)
  all_goals (try simp only [go_sem, hF])
 have d6 := seenT_no hin
 have fin : (k < 19 → wordsL[k]? = some t) → ∃ y : Nat × Nat, (y.1 ≤ l.length ∧ ∀ j t, j < y.1 → l[j]? = some t → t ∉ l.take j ∧ (j < 19 → wordsL[j]? = some t)) ∧ l.length - y.1 < l.length - k ∧ y.1 = k + 1 ∧ Res.mp (updF (seenT (l.take k)) (.string t) (.int .i64 1)) (updN (seenT (l.take k)) (.string t) n) = Res.mp (seenT (l.take y.1)) y.2 := fun hw => by
  have et : l.take (k + 1) = l.take k ++ [t] := by rw [List.take_add_one, ht]; rfl
  refine ⟨(k + 1, updN (seenT (l.take k)) (.string t) n), ⟨by dsimp only; omega, fun j q hj hq => ?_⟩, by dsimp only; omega, rfl, ?_⟩
  ·rcases Nat.lt_succ_iff_lt_or_eq.1 hj with h3 | h3
   ·exact hno j q h3 hq
   ·subst h3
    rw [ht] at hq; cases hq; exact ⟨hin, hw⟩
  ·refine congrArg (fun f => Res.mp f _) ?_
   rw [seenT_upd]
   dsimp only
   refine seenT_same fun q => ?_
   rw [et]
   simp [or_comm]
 by_cases h19 : k < 19
 ·have e2 : decide ((k : Int) < 19) = true := by rw [decide_eq_true_eq]; omega
  obtain ⟨x, hx⟩ : ∃ x, wordsL[k]? = some x := ⟨wordsL[k]'(by rw [show wordsL.length = 19 from rfl]; omega), List.getElem?_eq_getElem _⟩
  have hgw := getD_map strR hx ([] : List RV)
  by_cases htx : t = x
  ·have e3 : decide (t = x) = true := by simpa using htx
   replace fin := fin fun _ => by rw [hx, htx]
   clear htx
   (any_goals refine go lv110 0 ?_)
   obtain ⟨y, y1, y2, y3, y4⟩ := fin
   refine ⟨y, y1, y2, ⟨rfl, subTs_ok ⟨rfl, rfl, rfl, rfl, rfl, by rw [y3]; rfl, trivial⟩, leRs_ok ⟨rfl, .inl ⟨rfl, y4⟩, trivial⟩⟩⟩
  ·have e3 : decide (t = x) = false := by simpa using htx
   have hF := texts_bad ht (.inr ⟨h19, by rw [hx]; intro h; exact htx (by cases h; rfl)⟩)
   (any_goals refine go lv110 0 ?_)
   all_goals (try simp only [go_sem, hF])
 ·have e2 : decide ((k : Int) < 19) = false := by rw [decide_eq_false_iff_not]; omega
  (any_goals refine go lv110 0 ?_)
  obtain ⟨y, y1, y2, y3, y4⟩ := fin fun h => absurd h h19
  refine ⟨y, y1, y2, ⟨rfl, subTs_ok ⟨rfl, rfl, rfl, rfl, rfl, by rw [y3]; rfl, trivial⟩, leRs_ok ⟨rfl, .inl ⟨rfl, y4⟩, trivial⟩⟩⟩
theorem stexts'_c (xs : List (List RV)) (h : xs = (strsOf xs).map strR ∧ (strsOf xs).length ≤ 300 ∧ ∀ t ∈ strsOf xs, t.size ≤ 200) : FC Cx 110 [.r (.rs 1 xs)] [] (Bv (textsF (strsOf xs))) [] := by
 have := stexts_c (strsOf xs) h.2.1 h.2.2
 rwa [strsOf_at h.1] at this
def sp_stexts' (args : List AV) (K : AV → Prop) : Prop := match args with
 | [.r (.rs 1 xs)] => (xs = (strsOf xs).map strR ∧ (strsOf xs).length ≤ 300 ∧ ∀ t ∈ strsOf xs, t.size ≤ 200) ∧ K (Bv (textsF (strsOf xs)))
 | _ => False
noncomputable abbrev ct_stexts' : Ct Cx := .pure 110 sp_stexts' fun args K h => by
 unfold sp_stexts' at h; split at h; exact ⟨_, CallOk_of (stexts'_c _ h.1) en110 rfl rfl, h.2⟩; exact h.elim
@[go_sem] theorem sp_stexts'_eq : type_of% @sp_stexts'.eq_def := @sp_stexts'.eq_def
theorem idxfShape_c (l : List (Int × Int)) (f : Nat) (caps : List RV) (dom : AV → Prop) (pv : AV → Bool) (h : ∀ y, dom y → CallOk Cx f (y :: caps.map AV.r) (Bv (pv y))) (hd : ∀ x ∈ l, dom (valA x)) (hl : l.length ≤ 9223372036854775807) :
  FC Cx 165 [valsV l, .r (.fn f caps)] [] (Iv (fidx (fun x => pv (valA x)) l)) [] := by
 have hlen : (l.map valR).length = l.length := List.length_map ..
 refine FCp_st [ctF f caps dom pv h] Tryz.func165 Tryz.ntmps165 Tryz.results165 ?_
 (any_goals refine go lv165 0 ?_)
 refine Rn_loopT [0, 1, 7, 8] (fun i => i ≤ l.length ∧ ∀ j x, j < i → l[j]? = some x → pv (valA x) = false) (fun (i : Nat) => ⟨19, [(0, valsV l), (1, .r (.fn f caps)), (7, Iv l.length), (8, Iv i)], []⟩) (fun i => l.length - i) 0 rfl (by rw [← hlen]; rfl) rfl ⟨Nat.zero_le _, fun j x hj => by omega⟩ ?_
 rintro i ⟨hi, hno⟩
 by_cases hlt : i < l.length
 ·obtain ⟨x, hx⟩ : ∃ x, l[i]? = some x := ⟨l[i], List.getElem?_eq_getElem hlt⟩
  have hg := getD_map valR hx ([] : List RV)
  have hdx := hd x (List.mem_of_getElem? hx)
  have hw : IntKind.i64.wrap ((i : Int) + 1) = ((i + 1 : Nat) : Int) := by rw [wrap_id] <;> omega
  have h1 : decide ((i : Int) < (l.length : Int)) = true := by rw [decide_eq_true_eq]; omega
  have h2 : Int.toNat (i : Int) = i := by omega
  cases hp : pv (valA x) with
  | true =>
   (any_goals refine go lv165 0 ?_)
   all_goals (try simp only [go_sem])
   rw [fidx_hit hx hp fun j y hj hy => hno j y hj hy]
  | false =>
   (any_goals refine go lv165 0 ?_)
   refine ⟨i + 1, ⟨by omega, fun j y hj hy => ?_⟩, by omega, Le_keep [0, 1, 7, 8] rfl rfl rfl⟩
   rcases Nat.lt_succ_iff_lt_or_eq.1 hj with h3 | h3
   ·exact hno j y h3 hy
   ·subst h3; rw [hx] at hy; cases hy; exact hp
 ·have h1 : decide ((i : Int) < (l.length : Int)) = false := by rw [decide_eq_false_iff_not]; omega
  (any_goals refine go lv165 0 ?_)
  all_goals (try simp only [go_sem])
  rw [fidx_none fun j y hy => hno j y (by have := (List.getElem?_eq_some_iff.1 hy).1; omega) hy]
theorem anyShape_c (l : List (Int × Int)) (f : Nat) (caps : List RV) (dom : AV → Prop) (pv : AV → Bool) (h : ∀ y, dom y → CallOk Cx f (y :: caps.map AV.r) (Bv (pv y))) (hd : ∀ x ∈ l, dom (valA x)) (hl : l.length ≤ 9223372036854775807) :
  FC Cx 111 [valsV l, .r (.fn f caps)] [] (Bv (l.any fun x => pv (valA x))) [] := by
 have hA : ∀ y, y = [valsV l, .r (.fn f caps)] → CallOk Cx 165 y (Iv (fidx (fun x => pv (valA x)) l)) := fun y hy => by
  subst hy; exact CallOk_of (idxfShape_c l f caps dom pv h hd hl) en165 rfl rfl
 refine FCp_st [ctE 165 [valsV l, .r (.fn f caps)] (Iv (fidx (fun x => pv (valA x)) l)) hA] Tryz.func111 Tryz.ntmps111 Tryz.results111 ?_
 (any_goals refine go lv111 0 ?_)
 all_goals (try simp only [go_sem])
 all_goals (try rw [fidx_any])
theorem idxfEnd_c (l : List EndT) (f : Nat) (caps : List RV) (dom : AV → Prop) (pv : AV → Bool) (h : ∀ y, dom y → CallOk Cx f (y :: caps.map AV.r) (Bv (pv y))) (hd : ∀ x ∈ l, dom (endA x)) (hl : l.length ≤ 9223372036854775807) :
  FC Cx 173 [endsV l, .r (.fn f caps)] [] (Iv (fidx (fun x => pv (endA x)) l)) [] := by
 have hlen : (l.map endR).length = l.length := List.length_map ..
 refine FCp_st [ctF f caps dom pv h] Tryz.func173 Tryz.ntmps173 Tryz.results173 ?_
 (any_goals refine go lv173 0 ?_)
 refine Rn_loopT [0, 1, 7, 8] (fun i => i ≤ l.length ∧ ∀ j x, j < i → l[j]? = some x → pv (endA x) = false) (fun (i : Nat) => ⟨19, [(0, endsV l), (1, .r (.fn f caps)), (7, Iv l.length), (8, Iv i)], []⟩) (fun i => l.length - i) 0 rfl (by rw [← hlen]; rfl) rfl ⟨Nat.zero_le _, fun j x hj => by omega⟩ ?_
 rintro i ⟨hi, hno⟩
 by_cases hlt : i < l.length
 ·obtain ⟨x, hx⟩ : ∃ x, l[i]? = some x := ⟨l[i], List.getElem?_eq_getElem hlt⟩
  have hg := getD_map endR hx ([] : List RV)
  have hdx := hd x (List.mem_of_getElem? hx)
  have hw : IntKind.i64.wrap ((i : Int) + 1) = ((i + 1 : Nat) : Int) := by rw [wrap_id] <;> omega
  have h1 : decide ((i : Int) < (l.length : Int)) = true := by rw [decide_eq_true_eq]; omega
  have h2 : Int.toNat (i : Int) = i := by omega
  cases hp : pv (endA x) with
  | true =>
   (any_goals refine go lv173 0 ?_)
   all_goals (try simp only [go_sem])
   rw [fidx_hit hx hp fun j y hj hy => hno j y hj hy]
  | false =>
   (any_goals refine go lv173 0 ?_)
   refine ⟨i + 1, ⟨by omega, fun j y hj hy => ?_⟩, by omega, Le_keep [0, 1, 7, 8] rfl rfl rfl⟩
   rcases Nat.lt_succ_iff_lt_or_eq.1 hj with h3 | h3
   ·exact hno j y h3 hy
   ·subst h3; rw [hx] at hy; cases hy; exact hp
 ·have h1 : decide ((i : Int) < (l.length : Int)) = false := by rw [decide_eq_false_iff_not]; omega
  (any_goals refine go lv173 0 ?_)
  all_goals (try simp only [go_sem])
  rw [fidx_none fun j y hy => hno j y (by have := (List.getElem?_eq_some_iff.1 hy).1; omega) hy]
theorem anyEnd_c (l : List EndT) (f : Nat) (caps : List RV) (dom : AV → Prop) (pv : AV → Bool) (h : ∀ y, dom y → CallOk Cx f (y :: caps.map AV.r) (Bv (pv y))) (hd : ∀ x ∈ l, dom (endA x)) (hl : l.length ≤ 9223372036854775807) :
  FC Cx 118 [endsV l, .r (.fn f caps)] [] (Bv (l.any fun x => pv (endA x))) [] := by
 have hA : ∀ y, y = [endsV l, .r (.fn f caps)] → CallOk Cx 173 y (Iv (fidx (fun x => pv (endA x)) l)) := fun y hy => by
  subst hy; exact CallOk_of (idxfEnd_c l f caps dom pv h hd hl) en173 rfl rfl
 refine FCp_st [ctE 173 [endsV l, .r (.fn f caps)] (Iv (fidx (fun x => pv (endA x)) l)) hA] Tryz.func118 Tryz.ntmps118 Tryz.results118 ?_
 (any_goals refine go lv118 0 ?_)
 all_goals (try simp only [go_sem])
 all_goals (try rw [fidx_any])
def endV : AV → EndT
 | .agg [.r (.v (.int _ a)), .r (.v (.int _ b)), .r (.v (.int _ c))] => ⟨a, (b, c)⟩
 | _ => ⟨0, (0, 0)⟩
def badE (s : StateT) (e : EndT) : Bool := !decide (0 ≤ e.cell ∧ e.cell ≤ (s.cells.length : Int) - 1) || !isF' s e.fn 4
def badS (s : StateT) (v : Int × Int) : Bool := !decide (v.1 = 4) || !fitsF s v
noncomputable def checkS (s : StateT) : Int :=
 if largeS s = true then 2 else if Sh.checkF s.shapes ≠ 0 then Sh.checkF s.shapes else
 if (!textsF s.texts || (s.shapes.any fun x => decide ((s.texts.length : Int) ≤ x.2)) || (s.cells.any fun c => !cellF s c)) = true then 3 else
 if s.said.any (badS s) = true then 3 else if s.ends.any (badE s) = true then 3 else 0
theorem schk1_c (s : StateT) (a b : Int) : FC Cx 112 [VV a b, .r (.rp (stateR s))] [] (Bv (decide ((s.texts.length : Int) ≤ b))) [] := by
 have l1 : (s.texts.map strR).length = s.texts.length := List.length_map ..
 refine FCp_st [] Tryz.func112 Tryz.ntmps112 Tryz.results112 ?_
 refine goR ?_
 refine fzB 2 ?_
 (any_goals refine go lv112 0 ?_)
 all_goals (try simp only [go_sem])
theorem schk2_c (s : StateT) (c : CellT) (hs : Swf s) (hc : Cwf c) (h6 : c.vals.length ≤ 600) : FC Cx 114 [cellA c, stateP s] [] (Bv (!cellF s c)) [] := by
 refine FCp_st [ct_cell'] Tryz.func114 Tryz.ntmps114 Tryz.results114 ?_
 refine goR ?_
 refine fzB 2 ?_
 (any_goals refine go lv114 0 ?_)
 all_goals (try simp only [go_sem])
theorem schk3_c (s : StateT) (k n : Int) : FC Cx 116 [VV k n, stateP s] [] (Bv (badS s (k, n))) [] := by
 unfold badS
 refine FCp_st [ct_fits'] Tryz.func116 Tryz.ntmps116 Tryz.results116 ?_
 refine goR ?_
 refine fzB 2 ?_
 (any_goals refine go lv116 0 ?_)
 repeat' (first | (refine Br.go (fun h h' => ?_) (fun h h' => ?_)) | (refine Br.mk (fun h => ?_) (fun h => ?_)))
 all_goals (try simp only [go_sem])
 all_goals (simp_all; done)
theorem schk4_c (s : StateT) (e : EndT) (hs : s.cells.length ≤ 300) : FC Cx 119 [endA e, stateP s] [] (Bv (badE s e)) [] := by
 have l1 : (s.cells.map cellR).length = s.cells.length := List.length_map ..
 have w1 : IntKind.i64.wrap ((s.cells.length : Int) - 1) = (s.cells.length : Int) - 1 := by rw [wrap_id] <;> omega
 unfold badE
 cases hb : decide (0 ≤ e.cell ∧ e.cell ≤ (s.cells.length : Int) - 1)
 all_goals
  refine FCp_st [ct_kwithin, ct_is'] Tryz.func119 Tryz.ntmps119 Tryz.results119 ?_
  refine goR ?_
  refine fzB 2 ?_
  (any_goals refine go lv119 0 ?_)
  all_goals (try simp only [go_sem])
structure Sok (s : StateT) : Prop where
 cells : s.cells.length ≤ 300
 texts : s.texts.length ≤ 300
 said : s.said.length ≤ 200
 ends : s.ends.length ≤ 100
 bytes : ∀ t ∈ s.texts, t.size ≤ 200
 vals : ∀ c ∈ s.cells, c.vals.length ≤ 600
theorem large_no {s : StateT} (h : largeS s = false) : Sok s := by
 simp only [largeS, Bool.or_eq_false_iff, decide_eq_false_iff_not] at h
 obtain ⟨⟨⟨⟨⟨h1, h2⟩, h3⟩, h4⟩, h5⟩, h6⟩ := h
 refine ⟨by omega, by omega, by omega, by omega, fun t ht => ?_, fun c hc => ?_⟩
 ·have := List.any_eq_false.1 h5 t ht
  simp [bigS] at this; omega
 ·have := List.any_eq_false.1 h6 c hc
  simp [bigC] at this; omega
theorem scheck_c (s : StateT) (hs : Swf s) : FC Cx 57 [stateV s] [] (Iv (checkS s)) [] := by
 have hl := hs.len
 have hw := hs.shapes
 unfold checkS
 cases hL : largeS s with
 | true =>
  rw [if_pos rfl]
  refine FCp_st [ct_slarge'] Tryz.func57 Tryz.ntmps57 Tryz.results57 ?_
  refine goR ?_
  refine fzB 1 ?_
  (any_goals refine go lv57 0 ?_)
  all_goals (try simp only [go_sem])
 | false =>
 rw [if_neg (by simp)]
 have ok := large_no hL
 by_cases hsh : Sh.checkF s.shapes = 0
 case neg =>
  rw [if_pos hsh]
  have d0 : decide (Sh.checkF s.shapes = 0) = false := by simpa using hsh
  refine FCp_st [ct_slarge', Sh.ct_check'] Tryz.func57 Tryz.ntmps57 Tryz.results57 ?_
  refine goR ?_
  refine fzB 1 ?_
  (any_goals refine go lv57 0 ?_)
  all_goals (try simp only [go_sem])
 rw [if_neg (by simpa using hsh)]
 have d0 : decide (Sh.checkF s.shapes = 0) = true := by simpa using hsh
 have ot := ok.texts
 have ob := ok.bytes
 have hA : ∀ y, y = [valsV s.shapes, .r (.fn 112 [.rp (stateR s)])] → CallOk Cx 111 y (Bv (s.shapes.any fun x => decide ((s.texts.length : Int) ≤ x.2))) := fun y hy => by
  subst hy
  have h := anyShape_c s.shapes 112 [.rp (stateR s)] (fun y => ∃ v, y = valA v) (fun y => decide ((s.texts.length : Int) ≤ (valV y).2)) (by
   rintro _ ⟨v, rfl⟩
   exact CallOk_of (schk1_c s v.1 v.2) en112 rfl rfl) (fun x _ => ⟨x, rfl⟩) hl.shapes
  exact CallOk_of h en111 rfl rfl
 have hB : ∀ y, y = [cellsV s.cells, .r (.fn 114 [.rp (stateR s)])] → CallOk Cx 113 y (Bv (s.cells.any fun c => !cellF s c)) := fun y hy => by
  subst hy
  have h := anyCell_c s.cells 114 [.rp (stateR s)] (fun y => ∃ c, (Cwf c ∧ c.vals.length ≤ 600) ∧ y = cellA c) (fun y => !cellF s (cellV y)) (by
   rintro _ ⟨c, ⟨h1, h2⟩, rfl⟩
   rw [cellV_A]
   exact CallOk_of (schk2_c s c hs h1 h2) en114 rfl rfl) (fun x hx => ⟨x, ⟨hs.cell x hx, ok.vals x hx⟩, rfl⟩) hl.cells
  simp only [cellV_A] at h
  exact CallOk_of h en113 rfl rfl
 have hC : ∀ y, y = [valsV s.said, .r (.fn 116 [.rp (stateR s)])] → CallOk Cx 102 y (Bv (s.said.any (badS s))) := fun y hy => by
  subst hy
  have h := anyVal_c s.said 116 [.rp (stateR s)] (fun y => ∃ v, y = valA v) (fun y => badS s (valV y)) (by
   rintro _ ⟨v, rfl⟩
   exact CallOk_of (schk3_c s v.1 v.2) en116 rfl rfl) (fun x _ => ⟨x, rfl⟩) hl.said
  exact CallOk_of h en102 rfl rfl
 have hE : ∀ y, y = [endsV s.ends, .r (.fn 119 [.rp (stateR s)])] → CallOk Cx 118 y (Bv (s.ends.any (badE s))) := fun y hy => by
  subst hy
  have h := anyEnd_c s.ends 119 [.rp (stateR s)] (fun y => ∃ v, y = endA v) (fun y => badE s (endV y)) (by
   rintro _ ⟨v, rfl⟩
   exact CallOk_of (schk4_c s v ok.cells) en119 rfl rfl) (fun x _ => ⟨x, rfl⟩) hl.ends
  exact CallOk_of h en118 rfl rfl
 generalize hb1 : textsF s.texts = b1 at *
 generalize (s.shapes.any fun x => decide ((s.texts.length : Int) ≤ x.2)) = b2 at *
 generalize (s.cells.any fun c => !cellF s c) = b3 at *
 generalize s.said.any (badS s) = b4 at *
 generalize s.ends.any (badE s) = b5 at *
 refine FCp_st [ct_slarge', Sh.ct_check', ct_stexts', ctE 111 [valsV s.shapes, .r (.fn 112 [.rp (stateR s)])] (Bv b2) hA, ctE 113 [cellsV s.cells, .r (.fn 114 [.rp (stateR s)])] (Bv b3) hB, ctE 102 [valsV s.said, .r (.fn 116 [.rp (stateR s)])] (Bv b4) hC, ctE 118 [endsV s.ends, .r (.fn 119 [.rp (stateR s)])] (Bv b5) hE] Tryz.func57 Tryz.ntmps57 Tryz.results57 ?_
 refine goR ?_
 refine fzB 1 ?_
 (any_goals refine go lv57 0 ?_)
 repeat' (first | (refine Br.go (fun h h' => ?_) (fun h h' => ?_)) | (refine Br.mk (fun h => ?_) (fun h => ?_)))
 all_goals (try simp only [go_sem])
 all_goals (clear hA hB hC hE; simp_all; done)
theorem scheck'_c (ca sh tx th en sd : List (List RV)) (aq sq : Int) (h : (ca = (cellsOf ca).map cellR ∧ sh = (valsOf sh).map valR ∧ tx = (strsOf tx).map strR ∧ th = (threadsOf th).map threadR ∧ en = (endsOf en).map endR ∧ sd = (valsOf sd).map valR) ∧ Swf ⟨cellsOf ca, valsOf sh, strsOf tx, threadsOf th, endsOf en, valsOf sd, aq, sq⟩) : FC Cx 57 [.agg [.r (.rs 4 ca), .r (.rs 2 sh), .r (.rs 1 tx), .r (.rs 5 th), .r (.rs 3 en), .r (.rs 2 sd), Iv aq, Iv sq]] [] (Iv (checkS ⟨cellsOf ca, valsOf sh, strsOf tx, threadsOf th, endsOf en, valsOf sd, aq, sq⟩)) [] := by
 have := scheck_c ⟨cellsOf ca, valsOf sh, strsOf tx, threadsOf th, endsOf en, valsOf sd, aq, sq⟩ h.2
 rwa [state_at _ _ _ _ _ _ _ _ h.1] at this
def sp_scheck' (args : List AV) (K : AV → Prop) : Prop := match args with
 | [.agg [.r (.rs 4 ca), .r (.rs 2 sh), .r (.rs 1 tx), .r (.rs 5 th), .r (.rs 3 en), .r (.rs 2 sd), .r (.v (.int .i64 aq)), .r (.v (.int .i64 sq))]] => ((ca = (cellsOf ca).map cellR ∧ sh = (valsOf sh).map valR ∧ tx = (strsOf tx).map strR ∧ th = (threadsOf th).map threadR ∧ en = (endsOf en).map endR ∧ sd = (valsOf sd).map valR) ∧ Swf ⟨cellsOf ca, valsOf sh, strsOf tx, threadsOf th, endsOf en, valsOf sd, aq, sq⟩) ∧ K (Iv (checkS ⟨cellsOf ca, valsOf sh, strsOf tx, threadsOf th, endsOf en, valsOf sd, aq, sq⟩))
 | _ => False
noncomputable abbrev ct_scheck' : Ct Cx := .pure 57 sp_scheck' fun args K h => by
 unfold sp_scheck' at h; split at h; exact ⟨_, CallOk_of (scheck'_c _ _ _ _ _ _ _ _ h.1) en57 rfl rfl, h.2⟩; exact h.elim
@[go_sem] theorem sp_scheck'_eq : type_of% @sp_scheck'.eq_def := @sp_scheck'.eq_def
@[go_sem] theorem lendR_ro {α : Type} (n : Nat) (st : St) (g : α → RV) : ∀ (l : List α) (K : List Loc → List (List RV) → Prop), lendR (lendC n st) (l.map fun x => [AV.r (g x)]) K = K [] (l.map fun x => [g x])
 | [], K => rfl
 | x :: l, K => by
  cases n <;> (simp only [List.map_cons, lendR, lendL, lendC]; rw [lendR_ro _ st g l]; rfl)
abbrev outR (f : FnT) : RV := .rs 1 ((walkF f).out.map trsR)
abbrev seenR (f : FnT) : RV := .rs 1 ((walkF f).seen.map boolR)
abbrev outC (f : FnT) : List AV := [.r (outR f)]
abbrev seenC (f : FnT) : List AV := [.r (seenR f)]
theorem All_c (p : ProgT) (hl : p.fns.length ≤ 60) (hc : ∀ f ∈ p.fns, Cok f) : FC Cx 60 [progV p] [] (.tup [.r (.rs 1 (p.fns.map fun f => [outR f])), .r (.rs 1 (p.fns.map fun f => [seenR f]))]) [] := by
 have l1 : (p.fns.map fnR).length = p.fns.length := List.length_map ..
 refine FCf_of [ct_triesR'] Tryz.func60 rfl Tryz.ntmps60 (by simp) Tryz.results60 rfl ?_
 refine rnst ?_
 refine goR ?_
 refine fzB 1 ?_
 (any_goals refine go lv60 0 ?_)
 (apply Rn_ownnil 4 1004 160 1; (exact rfl); (exact rfl); (intro K0; (try simp only [go_sem]); exact ⟨id⟩))
 (apply Rn_ownnil 5 1005 147 1; (exact rfl); (exact rfl); (intro K0; (try simp only [go_sem]); exact ⟨id⟩))
 refine Rn_loopS (fun x : Nat × Nat => x.1 ≤ p.fns.length) (fun x => ⟨35, [(4, .os 1004 (1 + x.1)), (5, .os 1005 (1 + x.1)), (12, fnsV p.fns), (13, Iv p.fns.length), (14, Iv x.1)], [(1, 2, .gone), (1004, 1 + x.1, .sl 160 1 ((p.fns.take x.1).map outC)), (1005, 1 + x.1, .sl 147 1 ((p.fns.take x.1).map seenC)), (7, x.2, .gone), (26, x.2, .gone), (30, x.2, .gone)]⟩) (fun x => p.fns.length - x.1) (0, 0) (Nat.zero_le _) ?_
 rintro ⟨i, u⟩ hi
 dsimp only at hi ⊢
 by_cases hlt : i < p.fns.length
 case neg =>
  obtain rfl : i = p.fns.length := by omega
  have e1 : decide ((p.fns.length : Int) < (p.fns.length : Int)) = false := by rw [decide_eq_false_iff_not]; omega
  rw [List.take_length]
  (any_goals refine go lv60 0 ?_)
  all_goals (try simp only [go_sem])
 have e1 : decide ((i : Int) < (p.fns.length : Int)) = true := by rw [decide_eq_true_eq]; omega
 have t1 : Int.toNat (i : Int) = i := by omega
 have w1 : IntKind.i64.wrap ((i : Int) + 1) = ((i + 1 : Nat) : Int) := by rw [wrap_id] <;> omega
 obtain ⟨f, hf⟩ : ∃ v, p.fns[i]? = some v := ⟨p.fns[i], List.getElem?_eq_getElem hlt⟩
 have hg := getD_map fnR hf ([] : List RV)
 have hcf := hc f (List.mem_of_getElem? hf)
 have lt1 : ((p.fns.take i).map outC).length = i := by simp; omega
 have lt2 : ((p.fns.take i).map seenC).length = i := by simp; omega
 (any_goals refine go lv60 0 ?_)
 have hm1 : (p.fns.take (i + 1)).map outC = (p.fns.take i).map outC ++ [[trssV (walkF f).out]] := by rw [List.take_add_one, hf]; simp
 have hm2 : (p.fns.take (i + 1)).map seenC = (p.fns.take i).map seenC ++ [[boolsV (walkF f).seen]] := by rw [List.take_add_one, hf]; simp
 refine ⟨(i + 1, u + 9), by dsimp only; omega, by dsimp only; omega, ?_⟩
 dsimp only
 rw [hm1, hm2]
 exact Le_subA
theorem All'_c (xs ys zs : List (List RV)) (h : (xs = (fnsOf xs).map fnR ∧ ys = (valsOf ys).map valR ∧ zs = (strsOf zs).map strR) ∧ (fnsOf xs).length ≤ 60 ∧ ∀ f ∈ fnsOf xs, Cok f) : FC Cx 60 [.agg [.r (.rs 5 xs), .r (.rs 2 ys), .r (.rs 1 zs)]] [] (.tup [.r (.rs 1 ((fnsOf xs).map fun f => [outR f])), .r (.rs 1 ((fnsOf xs).map fun f => [seenR f]))]) [] := by
 have := All_c ⟨fnsOf xs, valsOf ys, strsOf zs⟩ h.2.1 h.2.2
 rwa [prog_at h.1] at this
def sp_All' (args : List AV) (K : AV → Prop) : Prop := match args with
 | [.agg [.r (.rs 5 xs), .r (.rs 2 ys), .r (.rs 1 zs)]] => ((xs = (fnsOf xs).map fnR ∧ ys = (valsOf ys).map valR ∧ zs = (strsOf zs).map strR) ∧ (fnsOf xs).length ≤ 60 ∧ ∀ f ∈ fnsOf xs, Cok f) ∧ K (.tup [.r (.rs 1 ((fnsOf xs).map fun f => [outR f])), .r (.rs 1 ((fnsOf xs).map fun f => [seenR f]))])
 | _ => False
noncomputable abbrev ct_All' : Ct Cx := .pure 60 sp_All' fun args K h => by
 unfold sp_All' at h; split at h; exact ⟨_, CallOk_of (All'_c _ _ _ h.1) en60 rfl rfl, h.2⟩; exact h.elim
@[go_sem] theorem sp_All'_eq : type_of% @sp_All'.eq_def := @sp_All'.eq_def
abbrev lkR (p : ProgT) (s : StateT) : List RV := [.rs 5 (p.fns.map fnR), .rs 2 (p.consts.map valR), .rs 1 (p.texts.map strR), .rp (stateR s), .rs 1 (p.fns.map fun f => [outR f]), .rs 1 (p.fns.map fun f => [seenR f]), .un]
abbrev lkP (p : ProgT) (s : StateT) : AV := .r (.rp (lkR p s))
theorem lk_at (xs ys zs ca sh tx th en sd tr wy : List (List RV)) (aq sq : Int) (h : ((xs = (fnsOf xs).map fnR ∧ ys = (valsOf ys).map valR ∧ zs = (strsOf zs).map strR) ∧ ca = (cellsOf ca).map cellR ∧ sh = (valsOf sh).map valR ∧ tx = (strsOf tx).map strR ∧ th = (threadsOf th).map threadR ∧ en = (endsOf en).map endR ∧ sd = (valsOf sd).map valR) ∧ (tr = (fnsOf xs).map fun f => [outR f]) ∧ (wy = (fnsOf xs).map fun f => [seenR f])) : lkP ⟨fnsOf xs, valsOf ys, strsOf zs⟩ ⟨cellsOf ca, valsOf sh, strsOf tx, threadsOf th, endsOf en, valsOf sd, aq, sq⟩ = .r (.rp [.rs 5 xs, .rs 2 ys, .rs 1 zs, .rp [.rs 4 ca, .rs 2 sh, .rs 1 tx, .rs 5 th, .rs 3 en, .rs 2 sd, .v (.int .i64 aq), .v (.int .i64 sq)], .rs 1 tr, .rs 1 wy, .un]) := by
 obtain ⟨⟨⟨h1, h2, h3⟩, h4⟩, h5, h6⟩ := h
 show AV.r (.rp [.rs 5 ((fnsOf xs).map fnR), .rs 2 ((valsOf ys).map valR), .rs 1 ((strsOf zs).map strR), .rp (stateR ⟨cellsOf ca, valsOf sh, strsOf tx, threadsOf th, endsOf en, valsOf sd, aq, sq⟩), .rs 1 ((fnsOf xs).map fun f => [outR f]), .rs 1 ((fnsOf xs).map fun f => [seenR f]), .un]) = _
 rw [state_atR _ _ _ _ _ _ _ _ h4, ← h1, ← h2, ← h3, ← h5, ← h6]
theorem swithin_c (n lo hi : Int) : FC Cx 123 [Iv n, Iv lo, Iv hi] [] (Bv (decide (lo ≤ n ∧ n ≤ hi))) [] := by
 refine FCp_st [] Tryz.func123 Tryz.ntmps123 Tryz.results123 ?_
 (any_goals refine go lv123 0 ?_)
 all_goals (try simp only [go_sem])
 all_goals simp_all
 all_goals omega
def sp_swithin (args : List AV) (K : AV → Prop) : Prop := match args with
 | [.r (.v (.int .i64 n)), .r (.v (.int .i64 lo)), .r (.v (.int .i64 hi))] => K (Bv (decide (lo ≤ n ∧ n ≤ hi)))
 | _ => False
noncomputable abbrev ct_swithin : Ct Cx := .pure 123 sp_swithin fun args K h => by
 unfold sp_swithin at h; split at h; exact ⟨_, CallOk_of (swithin_c _ _ _) en123 rfl rfl, h⟩; exact h.elim
@[go_sem] theorem sp_swithin_eq : type_of% @sp_swithin.eq_def := @sp_swithin.eq_def
def refF (s : StateT) (v : Int × Int) (q : Int) : Bool := decide (v.1 = 5) && decide (0 ≤ v.2) && decide (v.2 < (s.cells.length : Int)) && decide ((s.cells.getD v.2.toNat cell0).kind = q)
def zeroC : AV := .agg [Iv 0, Iv 0, .r (.v (.slice none 0 0)), .r (.v (.slice none 0 0))]
def cellX (s : StateT) (v : Int × Int) (q : Int) : AV := bif refF s v q then cellA (s.cells.getD v.2.toNat cell0) else zeroC
theorem lcell_c (p : ProgT) (s : StateT) (k n q : Int) : FC Cx 175 [lkP p s, VV k n, Iv q] [] (.tup [cellX s (k, n) q, Bv (refF s (k, n) q)]) [] := by
 have l1 : (s.cells.map cellR).length = s.cells.length := List.length_map ..
 cases hr : refF s (k, n) q with
 | true =>
  have hr' := hr
  unfold refF at hr'
  simp only [Bool.and_eq_true, decide_eq_true_eq] at hr'
  obtain ⟨⟨⟨rfl, h0⟩, h1⟩, h2⟩ := hr'
  obtain ⟨c, hc⟩ : ∃ c, s.cells[n.toNat]? = some c := ⟨s.cells[n.toNat]'(by omega), List.getElem?_eq_getElem _⟩
  have hg := getD_map cellR hc ([] : List RV)
  rw [kind_at hc] at h2
  have d1 : decide (n < 0) = false := by rw [decide_eq_false_iff_not]; omega
  have d2 : decide ((s.cells.length : Int) ≤ n) = false := by rw [decide_eq_false_iff_not]; omega
  have d3 : decide (c.kind = q) = true := by simpa using h2
  have e : cellX s (5, n) q = cellA c := by unfold cellX; rw [hr, kind_at hc]; rfl
  rw [e]
  clear h2
  refine FCp_st [] Tryz.func175 Tryz.ntmps175 Tryz.results175 ?_
  refine goR ?_
  refine fzB 4 ?_
  (any_goals refine go lv175 0 ?_)
  all_goals (try simp only [go_sem])
 | false =>
  have e : cellX s (k, n) q = zeroC := by unfold cellX; rw [hr]; rfl
  rw [e]
  unfold zeroC
  by_cases k5 : k = 5
  case neg =>
   have d0 : decide (k = 5) = false := by simpa using k5
   refine FCp_st [] Tryz.func175 Tryz.ntmps175 Tryz.results175 ?_
   refine goR ?_
   refine fzB 4 ?_
   (any_goals refine go lv175 0 ?_)
   all_goals (try simp only [go_sem])
  subst k5
  by_cases h0 : n < 0
  ·have d1 : decide (n < 0) = true := by simpa using h0
   refine FCp_st [] Tryz.func175 Tryz.ntmps175 Tryz.results175 ?_
   refine goR ?_
   refine fzB 4 ?_
   (any_goals refine go lv175 0 ?_)
   all_goals (try simp only [go_sem])
  have d1 : decide (n < 0) = false := by simpa using h0
  by_cases h1 : (s.cells.length : Int) ≤ n
  ·have d2 : decide ((s.cells.length : Int) ≤ n) = true := by simpa using h1
   refine FCp_st [] Tryz.func175 Tryz.ntmps175 Tryz.results175 ?_
   refine goR ?_
   refine fzB 4 ?_
   (any_goals refine go lv175 0 ?_)
   all_goals (try simp only [go_sem])
  have d2 : decide ((s.cells.length : Int) ≤ n) = false := by simpa using h1
  obtain ⟨c, hc⟩ : ∃ c, s.cells[n.toNat]? = some c := ⟨s.cells[n.toNat]'(by omega), List.getElem?_eq_getElem _⟩
  have hg := getD_map cellR hc ([] : List RV)
  have d3 : decide (c.kind = q) = false := by
   unfold refF at hr
   rw [kind_at hc] at hr
   cases hd : decide (c.kind = q) with
   | false => rfl
   | true =>
    rw [hd] at hr
    simp at hr; omega
  refine FCp_st [] Tryz.func175 Tryz.ntmps175 Tryz.results175 ?_
  refine goR ?_
  refine fzB 4 ?_
  (any_goals refine go lv175 0 ?_)
  all_goals (try simp only [go_sem])
theorem lcell'_c (xs ys zs ca sh tx th en sd tr wy : List (List RV)) (aq sq : Int) (k n q : Int) (h : ((xs = (fnsOf xs).map fnR ∧ ys = (valsOf ys).map valR ∧ zs = (strsOf zs).map strR) ∧ ca = (cellsOf ca).map cellR ∧ sh = (valsOf sh).map valR ∧ tx = (strsOf tx).map strR ∧ th = (threadsOf th).map threadR ∧ en = (endsOf en).map endR ∧ sd = (valsOf sd).map valR) ∧ (tr = (fnsOf xs).map fun f => [outR f]) ∧ (wy = (fnsOf xs).map fun f => [seenR f])) : FC Cx 175 [.r (.rp [.rs 5 xs, .rs 2 ys, .rs 1 zs, .rp [.rs 4 ca, .rs 2 sh, .rs 1 tx, .rs 5 th, .rs 3 en, .rs 2 sd, .v (.int .i64 aq), .v (.int .i64 sq)], .rs 1 tr, .rs 1 wy, .un]), VV k n, Iv q] [] (.tup [cellX ⟨cellsOf ca, valsOf sh, strsOf tx, threadsOf th, endsOf en, valsOf sd, aq, sq⟩ (k, n) q, Bv (refF ⟨cellsOf ca, valsOf sh, strsOf tx, threadsOf th, endsOf en, valsOf sd, aq, sq⟩ (k, n) q)]) [] := by
 have := lcell_c ⟨fnsOf xs, valsOf ys, strsOf zs⟩ ⟨cellsOf ca, valsOf sh, strsOf tx, threadsOf th, endsOf en, valsOf sd, aq, sq⟩ k n q
 rwa [lk_at _ _ _ _ _ _ _ _ _ _ _ _ _ h] at this
@[go_sem] theorem within_cellX (s : StateT) (v : Int × Int) (q : Int) : within none0 (cellX s v q) = true := by unfold cellX; cases refF s v q <;> rfl
def sp_lcell' (args : List AV) (K : AV → Prop) : Prop := match args with
 | [.r (.rp [.rs 5 xs, .rs 2 ys, .rs 1 zs, .rp [.rs 4 ca, .rs 2 sh, .rs 1 tx, .rs 5 th, .rs 3 en, .rs 2 sd, .v (.int .i64 aq), .v (.int .i64 sq)], .rs 1 tr, .rs 1 wy, .un]), .agg [.r (.v (.int .i64 k)), .r (.v (.int .i64 n))], .r (.v (.int .i64 q))] => (((xs = (fnsOf xs).map fnR ∧ ys = (valsOf ys).map valR ∧ zs = (strsOf zs).map strR) ∧ ca = (cellsOf ca).map cellR ∧ sh = (valsOf sh).map valR ∧ tx = (strsOf tx).map strR ∧ th = (threadsOf th).map threadR ∧ en = (endsOf en).map endR ∧ sd = (valsOf sd).map valR) ∧ (tr = (fnsOf xs).map fun f => [outR f]) ∧ (wy = (fnsOf xs).map fun f => [seenR f])) ∧ K (.tup [cellX ⟨cellsOf ca, valsOf sh, strsOf tx, threadsOf th, endsOf en, valsOf sd, aq, sq⟩ (k, n) q, Bv (refF ⟨cellsOf ca, valsOf sh, strsOf tx, threadsOf th, endsOf en, valsOf sd, aq, sq⟩ (k, n) q)])
 | _ => False
noncomputable abbrev ct_lcell' : Ct Cx := .pure 175 sp_lcell' fun args K h => by
 unfold sp_lcell' at h; split at h; exact ⟨_, CallOk_of (lcell'_c _ _ _ _ _ _ _ _ _ _ _ _ _ _ _ _ h.1) en175 rfl (by simp only [within, withinL, within_cellX]; rfl), h.2⟩; exact h.elim
@[go_sem] theorem sp_lcell'_eq : type_of% @sp_lcell'.eq_def := @sp_lcell'.eq_def
structure Pgo (p : ProgT) : Prop where
 fns : p.fns.length ≤ 60
 cok : ∀ f ∈ p.fns, Cok f
 go : ∀ f ∈ p.fns, (walkF f).bad = false
theorem check_go {p : ProgT} (hw : Pwf p) (h : checkF p = 0) : Pgo p := by
 have hL : largeF p = false := by
  unfold checkF at h
  split at h
  ·cases h
  ·rename_i h1; simpa using h1
 exact ⟨(large_ok hw hL).fns, fun f hf => (check_fn hw h hf).2.2.1, fun f hf => (check_fn hw h hf).2.2.2⟩
def frameF (p : ProgT) (s : StateT) (f : FrameT) : Bool :=
 decide (0 ≤ f.fn ∧ f.fn ≤ (p.fns.length : Int) - 1) && refF s f.self 4 && decide ((s.cells.getD f.self.2.toNat cell0).num = f.fn) && decide ((f.regs.length : Int) = (p.fns.getD f.fn.toNat fn0).regs) &&
 decide (0 ≤ f.pc ∧ f.pc ≤ ((p.fns.getD f.fn.toNat fn0).code.length : Int) - 1) && (walkF (p.fns.getD f.fn.toNat fn0)).seen.getD f.pc.toNat false &&
 decide (f.tries = (walkF (p.fns.getD f.fn.toNat fn0)).out.getD f.pc.toNat []) && f.regs.all (fitsF s)
theorem frame1_c (p : ProgT) (s : StateT) (k n : Int) : FC Cx 192 [VV k n, .r (.rp [.rp (lkR p s)])] [] (Bv (!fitsF s (k, n))) [] := by
 refine FCp_st [ct_Fits'] Tryz.func192 Tryz.ntmps192 Tryz.results192 ?_
 refine goR ?_
 refine fzB 2 ?_
 (any_goals refine go lv192 0 ?_)
 all_goals (try simp only [go_sem])
theorem frame_c (p : ProgT) (s : StateT) (f : FrameT) (hp : Pgo p) (hf : Gwf f) : FC Cx 189 [lkP p s, frameA f] [] (Bv (frameF p s f)) [] := by
 have l0 : (p.fns.map fnR).length = p.fns.length := List.length_map ..
 have l1 : (f.regs.map valR).length = f.regs.length := List.length_map ..
 have l2 : (p.fns.map fun f => [seenR f]).length = p.fns.length := List.length_map ..
 have l3 : (p.fns.map fun f => [outR f]).length = p.fns.length := List.length_map ..
 have h60 := hp.fns
 have w1 : IntKind.i64.wrap ((p.fns.length : Int) - 1) = (p.fns.length : Int) - 1 := by rw [wrap_id] <;> omega
 have lt : (f.tries.map tryR).length = f.tries.length := List.length_map ..
 have ht := hf.tries
 have hA : ∀ y, y = [valsV f.regs, .r (.fn 192 [.rp [.rp (lkR p s)]])] → CallOk Cx 102 y (Bv (f.regs.any fun v => !fitsF s v)) := fun y hy => by
  subst hy
  have h := anyVal_c f.regs 192 [.rp [.rp (lkR p s)]] (fun y => ∃ v, y = valA v) (fun y => !fitsF s (valV y)) (by
   rintro _ ⟨v, rfl⟩
   exact CallOk_of (frame1_c p s v.1 v.2) en192 rfl rfl) (fun x _ => ⟨x, rfl⟩) hf.regs
  exact CallOk_of h en102 rfl rfl
 have eF : frameF p s f = (decide (0 ≤ f.fn ∧ f.fn ≤ (p.fns.length : Int) - 1) && refF s f.self 4 && decide ((s.cells.getD f.self.2.toNat cell0).num = f.fn) && decide ((f.regs.length : Int) = (p.fns.getD f.fn.toNat fn0).regs) &&
  decide (0 ≤ f.pc ∧ f.pc ≤ ((p.fns.getD f.fn.toNat fn0).code.length : Int) - 1) && (walkF (p.fns.getD f.fn.toNat fn0)).seen.getD f.pc.toNat false &&
  decide (f.tries = (walkF (p.fns.getD f.fn.toNat fn0)).out.getD f.pc.toNat []) && !(f.regs.any fun v => !fitsF s v)) := by unfold frameF; rw [all_any f.regs]
 rw [eF]
 generalize hb4 : (f.regs.any fun v => !fitsF s v) = b4 at *
 obtain ⟨fn, pc, tov, gen, ⟨sk, sn⟩, regs, tries⟩ := f
 dsimp only at *
 cases hfn : decide (0 ≤ fn ∧ fn ≤ (p.fns.length : Int) - 1) with
 | false =>
  simp only [Bool.false_and]
  refine FCp_st [ct_swithin, ct_lcell', ct_eqTry', ctE 102 [valsV regs, .r (.fn 192 [.rp [.rp (lkR p s)]])] (Bv b4) hA] Tryz.func189 Tryz.ntmps189 Tryz.results189 ?_
  refine goR ?_
  refine fzB 2 ?_
  refine fzB 3 ?_
  (any_goals refine go lv189 0 ?_)
  all_goals (try simp only [go_sem])
 | true =>
 have hfn' : 0 ≤ fn ∧ fn ≤ (p.fns.length : Int) - 1 := by simpa using hfn
 obtain ⟨F, hF⟩ : ∃ F, p.fns[fn.toNat]? = some F := ⟨p.fns[fn.toNat]'(by omega), List.getElem?_eq_getElem _⟩
 have gF := getD_map fnR hF ([] : List RV)
 have gS := getD_map (fun f => [seenR f]) hF ([] : List RV)
 have gO := getD_map (fun f => [outR f]) hF ([] : List RV)
 have eFn : p.fns.getD fn.toNat fn0 = F := by simp [List.getD, hF]
 rw [eFn]
 have hcok := hp.cok F (List.mem_of_getElem? hF)
 have iv := walk_iv hcok
 have h600 := hcok.len
 have lc : (F.code.map insR).length = F.code.length := List.length_map ..
 have w2 : IntKind.i64.wrap ((F.code.length : Int) - 1) = (F.code.length : Int) - 1 := by rw [wrap_id] <;> omega
 cases hre : refF s (sk, sn) 4 with
 | false =>
  have hX : cellX s (sk, sn) 4 = zeroC := by unfold cellX; rw [hre]; rfl
  unfold zeroC at hX
  simp only [Bool.and_false, Bool.false_and]
  refine FCp_st [ct_swithin, ct_lcell', ct_eqTry', ctE 102 [valsV regs, .r (.fn 192 [.rp [.rp (lkR p s)]])] (Bv b4) hA] Tryz.func189 Tryz.ntmps189 Tryz.results189 ?_
  refine goR ?_
  refine fzB 2 ?_
  refine fzB 3 ?_
  (any_goals refine go lv189 0 ?_)
  all_goals (try simp only [go_sem])
 | true =>
 have hX : cellX s (sk, sn) 4 = cellA (s.cells.getD sn.toNat cell0) := by unfold cellX; rw [hre]; rfl
 generalize s.cells.getD sn.toNat cell0 = c at *
 cases hnum : decide (c.num = fn) with
 | false =>
  simp only [Bool.and_false, Bool.false_and]
  refine FCp_st [ct_swithin, ct_lcell', ct_eqTry', ctE 102 [valsV regs, .r (.fn 192 [.rp [.rp (lkR p s)]])] (Bv b4) hA] Tryz.func189 Tryz.ntmps189 Tryz.results189 ?_
  refine goR ?_
  refine fzB 2 ?_
  refine fzB 3 ?_
  (any_goals refine go lv189 0 ?_)
  all_goals (try simp only [go_sem])
 | true =>
 cases hre2 : decide ((regs.length : Int) = F.regs) with
 | false =>
  simp only [Bool.and_false, Bool.false_and]
  refine FCp_st [ct_swithin, ct_lcell', ct_eqTry', ctE 102 [valsV regs, .r (.fn 192 [.rp [.rp (lkR p s)]])] (Bv b4) hA] Tryz.func189 Tryz.ntmps189 Tryz.results189 ?_
  refine goR ?_
  refine fzB 2 ?_
  refine fzB 3 ?_
  (any_goals refine go lv189 0 ?_)
  all_goals (try simp only [go_sem])
 | true =>
 cases hpc : decide (0 ≤ pc ∧ pc ≤ (F.code.length : Int) - 1) with
 | false =>
  simp only [Bool.and_false, Bool.false_and]
  refine FCp_st [ct_swithin, ct_lcell', ct_eqTry', ctE 102 [valsV regs, .r (.fn 192 [.rp [.rp (lkR p s)]])] (Bv b4) hA] Tryz.func189 Tryz.ntmps189 Tryz.results189 ?_
  refine goR ?_
  refine fzB 2 ?_
  refine fzB 3 ?_
  (any_goals refine go lv189 0 ?_)
  all_goals (try simp only [go_sem])
 | true =>
 have hpc' : 0 ≤ pc ∧ pc ≤ (F.code.length : Int) - 1 := by simpa using hpc
 have q1 : pc.toNat < (walkF F).seen.length := by rw [iv.seen]; omega
 have q2 : pc.toNat < (walkF F).out.length := by rw [iv.out]; omega
 have ls : ((walkF F).seen.map boolR).length = F.code.length := by rw [List.length_map, iv.seen]
 have lo : ((walkF F).out.map trsR).length = F.code.length := by rw [List.length_map, iv.out]
 obtain ⟨b, hbi⟩ : ∃ b, (walkF F).seen[pc.toNat]? = some b := ⟨_, List.getElem?_eq_getElem q1⟩
 obtain ⟨o, hoi⟩ : ∃ b, (walkF F).out[pc.toNat]? = some b := ⟨_, List.getElem?_eq_getElem q2⟩
 have gb := getD_map boolR hbi ([] : List RV)
 have go' := getD_map trsR hoi ([] : List RV)
 have eb : (walkF F).seen.getD pc.toNat false = b := by simp [List.getD, hbi]
 have eo : (walkF F).out.getD pc.toNat [] = o := by simp [List.getD, hoi]
 rw [eb, eo]
 cases b with
 | false =>
  simp only [Bool.and_false, Bool.false_and]
  refine FCp_st [ct_swithin, ct_lcell', ct_eqTry', ctE 102 [valsV regs, .r (.fn 192 [.rp [.rp (lkR p s)]])] (Bv b4) hA] Tryz.func189 Tryz.ntmps189 Tryz.results189 ?_
  refine goR ?_
  refine fzB 2 ?_
  refine fzB 3 ?_
  (any_goals refine go lv189 0 ?_)
  all_goals (try simp only [go_sem])
 | true =>
  simp only [Bool.and_true, Bool.true_and]
  cases hto : decide (tries = o)
  all_goals
   refine FCp_st [ct_swithin, ct_lcell', ct_eqTry', ctE 102 [valsV regs, .r (.fn 192 [.rp [.rp (lkR p s)]])] (Bv b4) hA] Tryz.func189 Tryz.ntmps189 Tryz.results189 ?_
   refine goR ?_
   refine fzB 2 ?_
   refine fzB 3 ?_
   (any_goals refine go lv189 0 ?_)
   all_goals (try simp only [go_sem])
theorem frame'_c (xs ys zs ca sh tx th en sd tr wy : List (List RV)) (aq sq : Int) (f1 f2 f3 f4 f5 f6 : Int) (us vs : List (List RV)) (h : (((xs = (fnsOf xs).map fnR ∧ ys = (valsOf ys).map valR ∧ zs = (strsOf zs).map strR) ∧ ca = (cellsOf ca).map cellR ∧ sh = (valsOf sh).map valR ∧ tx = (strsOf tx).map strR ∧ th = (threadsOf th).map threadR ∧ en = (endsOf en).map endR ∧ sd = (valsOf sd).map valR) ∧ (tr = (fnsOf xs).map fun f => [outR f]) ∧ (wy = (fnsOf xs).map fun f => [seenR f])) ∧ (us = (valsOf us).map valR ∧ vs = (triesOf vs).map tryR) ∧ Pgo ⟨fnsOf xs, valsOf ys, strsOf zs⟩ ∧ Gwf ⟨f1, f2, f3, f4, (f5, f6), valsOf us, triesOf vs⟩) : FC Cx 189 [.r (.rp [.rs 5 xs, .rs 2 ys, .rs 1 zs, .rp [.rs 4 ca, .rs 2 sh, .rs 1 tx, .rs 5 th, .rs 3 en, .rs 2 sd, .v (.int .i64 aq), .v (.int .i64 sq)], .rs 1 tr, .rs 1 wy, .un]), .agg [Iv f1, Iv f2, Iv f3, Iv f4, Iv f5, Iv f6, .r (.rs 2 us), .r (.rs 2 vs)]] [] (Bv (frameF ⟨fnsOf xs, valsOf ys, strsOf zs⟩ ⟨cellsOf ca, valsOf sh, strsOf tx, threadsOf th, endsOf en, valsOf sd, aq, sq⟩ ⟨f1, f2, f3, f4, (f5, f6), valsOf us, triesOf vs⟩)) [] := by
 have := frame_c ⟨fnsOf xs, valsOf ys, strsOf zs⟩ ⟨cellsOf ca, valsOf sh, strsOf tx, threadsOf th, endsOf en, valsOf sd, aq, sq⟩ ⟨f1, f2, f3, f4, (f5, f6), valsOf us, triesOf vs⟩ h.2.2.1 h.2.2.2
 rwa [lk_at _ _ _ _ _ _ _ _ _ _ _ _ _ h.1, show frameA ⟨f1, f2, f3, f4, (f5, f6), valsOf us, triesOf vs⟩ = .agg [Iv f1, Iv f2, Iv f3, Iv f4, Iv f5, Iv f6, .r (.rs 2 us), .r (.rs 2 vs)] from by
  show AV.agg [Iv f1, Iv f2, Iv f3, Iv f4, Iv f5, Iv f6, valsV (valsOf us), triesV (triesOf vs)] = _
  rw [valsOf_at h.2.1.1, triesOf_at h.2.1.2]] at this
def sp_frame' (args : List AV) (K : AV → Prop) : Prop := match args with
 | [.r (.rp [.rs 5 xs, .rs 2 ys, .rs 1 zs, .rp [.rs 4 ca, .rs 2 sh, .rs 1 tx, .rs 5 th, .rs 3 en, .rs 2 sd, .v (.int .i64 aq), .v (.int .i64 sq)], .rs 1 tr, .rs 1 wy, .un]), .agg [.r (.v (.int .i64 f1)), .r (.v (.int .i64 f2)), .r (.v (.int .i64 f3)), .r (.v (.int .i64 f4)), .r (.v (.int .i64 f5)), .r (.v (.int .i64 f6)), .r (.rs 2 us), .r (.rs 2 vs)]] => ((((xs = (fnsOf xs).map fnR ∧ ys = (valsOf ys).map valR ∧ zs = (strsOf zs).map strR) ∧ ca = (cellsOf ca).map cellR ∧ sh = (valsOf sh).map valR ∧ tx = (strsOf tx).map strR ∧ th = (threadsOf th).map threadR ∧ en = (endsOf en).map endR ∧ sd = (valsOf sd).map valR) ∧ (tr = (fnsOf xs).map fun f => [outR f]) ∧ (wy = (fnsOf xs).map fun f => [seenR f])) ∧ (us = (valsOf us).map valR ∧ vs = (triesOf vs).map tryR) ∧ Pgo ⟨fnsOf xs, valsOf ys, strsOf zs⟩ ∧ Gwf ⟨f1, f2, f3, f4, (f5, f6), valsOf us, triesOf vs⟩) ∧ K (Bv (frameF ⟨fnsOf xs, valsOf ys, strsOf zs⟩ ⟨cellsOf ca, valsOf sh, strsOf tx, threadsOf th, endsOf en, valsOf sd, aq, sq⟩ ⟨f1, f2, f3, f4, (f5, f6), valsOf us, triesOf vs⟩))
 | _ => False
noncomputable abbrev ct_frame' : Ct Cx := .pure 189 sp_frame' fun args K h => by
 unfold sp_frame' at h; split at h; exact ⟨_, CallOk_of (frame'_c _ _ _ _ _ _ _ _ _ _ _ _ _ _ _ _ _ _ _ _ _ h.1) en189 rfl rfl, h.2⟩; exact h.elim
@[go_sem] theorem sp_frame'_eq : type_of% @sp_frame'.eq_def := @sp_frame'.eq_def
theorem frame_fn {p : ProgT} {s : StateT} {f : FrameT} (h : frameF p s f = true) : (0 ≤ f.fn ∧ f.fn < (p.fns.length : Int)) ∧ 0 ≤ f.pc ∧ f.pc < ((p.fns.getD f.fn.toNat fn0).code.length : Int) := by
 unfold frameF at h
 simp only [Bool.and_eq_true, decide_eq_true_eq] at h
 obtain ⟨⟨⟨⟨⟨⟨⟨h1, _⟩, _⟩, _⟩, h2⟩, _⟩, _⟩, _⟩ := h
 exact ⟨⟨h1.1, by omega⟩, h2.1, by omega⟩
def savedF (p : ProgT) (s : StateT) (f : FrameT) : Bool := frameF p s f && decide (f.tov = -1) && decide (f.gen = -1) && (p.fns.getD f.fn.toNat fn0).gen && (decide (f.pc = 0) || decide (((p.fns.getD f.fn.toNat fn0).code.getD (f.pc - 1).toNat ins0).op = 32))
theorem saved_c (p : ProgT) (s : StateT) (f : FrameT) (hp : Pgo p) (hf : Gwf f) : FC Cx 174 [lkP p s, frameA f] [] (Bv (savedF p s f)) [] := by
 have l0 : (p.fns.map fnR).length = p.fns.length := List.length_map ..
 obtain ⟨fn, pc, tov, gen, ⟨sk, sn⟩, regs, tries⟩ := f
 cases hfr : frameF p s ⟨fn, pc, tov, gen, (sk, sn), regs, tries⟩ with
 | false =>
  have e : savedF p s ⟨fn, pc, tov, gen, (sk, sn), regs, tries⟩ = false := by unfold savedF; rw [hfr]; rfl
  rw [e]
  refine FCp_st [ct_frame'] Tryz.func174 Tryz.ntmps174 Tryz.results174 ?_
  refine goR ?_
  refine fzB 3 ?_
  (any_goals refine go lv174 0 ?_)
  all_goals (try simp only [go_sem])
 | true =>
  obtain ⟨⟨h1, h2⟩, h3, h4⟩ := frame_fn hfr
  dsimp only at h1 h2 h3 h4
  obtain ⟨F, hF⟩ : ∃ F, p.fns[fn.toNat]? = some F := ⟨p.fns[fn.toNat]'(by omega), List.getElem?_eq_getElem _⟩
  have gF := getD_map fnR hF ([] : List RV)
  have gF2 : p.fns.getD fn.toNat fn0 = F := by simp [List.getD, hF]
  have lc : (F.code.map insR).length = F.code.length := List.length_map ..
  rw [gF2] at h4
  have e : savedF p s ⟨fn, pc, tov, gen, (sk, sn), regs, tries⟩ = (decide (tov = -1) && decide (gen = -1) && F.gen && (decide (pc = 0) || decide ((F.code.getD (pc - 1).toNat ins0).op = 32))) := by
   unfold savedF; rw [hfr, Bool.true_and]; dsimp only; rw [gF2]
  rw [e]
  clear gF2 e
  by_cases hp0 : pc = 0
  ·have d0 : decide (pc = 0) = true := by simpa using hp0
   clear hp0
   rw [d0]
   cases t1 : decide (tov = -1) <;> cases t2 : decide (gen = -1) <;> cases t3 : F.gen
   all_goals
    refine FCp_st [ct_frame'] Tryz.func174 Tryz.ntmps174 Tryz.results174 ?_
    refine goR ?_
    refine fzB 3 ?_
    (any_goals refine go lv174 0 ?_)
    all_goals (try simp only [go_sem])
  ·have d0 : decide (pc = 0) = false := by simpa using hp0
   have w1 : IntKind.i64.wrap (pc - 1) = pc - 1 := by have := hp.fns; have := (hp.cok F (List.mem_of_getElem? hF)).len; rw [wrap_id] <;> omega
   obtain ⟨I, hI⟩ : ∃ I, F.code[(pc - 1).toNat]? = some I := ⟨F.code[(pc - 1).toNat]'(by omega), List.getElem?_eq_getElem _⟩
   have gI := getD_map insR hI ([] : List RV)
   have gI2 : F.code.getD (pc - 1).toNat ins0 = I := by rw [List.getD_eq_getElem?_getD, hI]; rfl
   have hp1 : 1 ≤ pc := by omega
   rw [d0, gI2]
   clear gI2 hp0
   cases t1 : decide (tov = -1) <;> cases t2 : decide (gen = -1) <;> cases t3 : F.gen
   all_goals
    refine FCp_st [ct_frame'] Tryz.func174 Tryz.ntmps174 Tryz.results174 ?_
    refine goR ?_
    refine fzB 3 ?_
    (any_goals refine go lv174 0 ?_)
    all_goals (try simp only [go_sem])
theorem saved'_c (xs ys zs ca sh tx th en sd tr wy : List (List RV)) (aq sq : Int) (f1 f2 f3 f4 f5 f6 : Int) (us vs : List (List RV)) (h : (((xs = (fnsOf xs).map fnR ∧ ys = (valsOf ys).map valR ∧ zs = (strsOf zs).map strR) ∧ ca = (cellsOf ca).map cellR ∧ sh = (valsOf sh).map valR ∧ tx = (strsOf tx).map strR ∧ th = (threadsOf th).map threadR ∧ en = (endsOf en).map endR ∧ sd = (valsOf sd).map valR) ∧ (tr = (fnsOf xs).map fun f => [outR f]) ∧ (wy = (fnsOf xs).map fun f => [seenR f])) ∧ (us = (valsOf us).map valR ∧ vs = (triesOf vs).map tryR) ∧ Pgo ⟨fnsOf xs, valsOf ys, strsOf zs⟩ ∧ Gwf ⟨f1, f2, f3, f4, (f5, f6), valsOf us, triesOf vs⟩) : FC Cx 174 [.r (.rp [.rs 5 xs, .rs 2 ys, .rs 1 zs, .rp [.rs 4 ca, .rs 2 sh, .rs 1 tx, .rs 5 th, .rs 3 en, .rs 2 sd, .v (.int .i64 aq), .v (.int .i64 sq)], .rs 1 tr, .rs 1 wy, .un]), .agg [Iv f1, Iv f2, Iv f3, Iv f4, Iv f5, Iv f6, .r (.rs 2 us), .r (.rs 2 vs)]] [] (Bv (savedF ⟨fnsOf xs, valsOf ys, strsOf zs⟩ ⟨cellsOf ca, valsOf sh, strsOf tx, threadsOf th, endsOf en, valsOf sd, aq, sq⟩ ⟨f1, f2, f3, f4, (f5, f6), valsOf us, triesOf vs⟩)) [] := by
 have := saved_c ⟨fnsOf xs, valsOf ys, strsOf zs⟩ ⟨cellsOf ca, valsOf sh, strsOf tx, threadsOf th, endsOf en, valsOf sd, aq, sq⟩ ⟨f1, f2, f3, f4, (f5, f6), valsOf us, triesOf vs⟩ h.2.2.1 h.2.2.2
 rwa [lk_at _ _ _ _ _ _ _ _ _ _ _ _ _ h.1, show frameA ⟨f1, f2, f3, f4, (f5, f6), valsOf us, triesOf vs⟩ = .agg [Iv f1, Iv f2, Iv f3, Iv f4, Iv f5, Iv f6, .r (.rs 2 us), .r (.rs 2 vs)] from by
  show AV.agg [Iv f1, Iv f2, Iv f3, Iv f4, Iv f5, Iv f6, valsV (valsOf us), triesV (triesOf vs)] = _
  rw [valsOf_at h.2.1.1, triesOf_at h.2.1.2]] at this
def sp_saved' (args : List AV) (K : AV → Prop) : Prop := match args with
 | [.r (.rp [.rs 5 xs, .rs 2 ys, .rs 1 zs, .rp [.rs 4 ca, .rs 2 sh, .rs 1 tx, .rs 5 th, .rs 3 en, .rs 2 sd, .v (.int .i64 aq), .v (.int .i64 sq)], .rs 1 tr, .rs 1 wy, .un]), .agg [.r (.v (.int .i64 f1)), .r (.v (.int .i64 f2)), .r (.v (.int .i64 f3)), .r (.v (.int .i64 f4)), .r (.v (.int .i64 f5)), .r (.v (.int .i64 f6)), .r (.rs 2 us), .r (.rs 2 vs)]] => ((((xs = (fnsOf xs).map fnR ∧ ys = (valsOf ys).map valR ∧ zs = (strsOf zs).map strR) ∧ ca = (cellsOf ca).map cellR ∧ sh = (valsOf sh).map valR ∧ tx = (strsOf tx).map strR ∧ th = (threadsOf th).map threadR ∧ en = (endsOf en).map endR ∧ sd = (valsOf sd).map valR) ∧ (tr = (fnsOf xs).map fun f => [outR f]) ∧ (wy = (fnsOf xs).map fun f => [seenR f])) ∧ (us = (valsOf us).map valR ∧ vs = (triesOf vs).map tryR) ∧ Pgo ⟨fnsOf xs, valsOf ys, strsOf zs⟩ ∧ Gwf ⟨f1, f2, f3, f4, (f5, f6), valsOf us, triesOf vs⟩) ∧ K (Bv (savedF ⟨fnsOf xs, valsOf ys, strsOf zs⟩ ⟨cellsOf ca, valsOf sh, strsOf tx, threadsOf th, endsOf en, valsOf sd, aq, sq⟩ ⟨f1, f2, f3, f4, (f5, f6), valsOf us, triesOf vs⟩))
 | _ => False
noncomputable abbrev ct_saved' : Ct Cx := .pure 174 sp_saved' fun args K h => by
 unfold sp_saved' at h; split at h; exact ⟨_, CallOk_of (saved'_c _ _ _ _ _ _ _ _ _ _ _ _ _ _ _ _ _ _ _ _ _ h.1) en174 rfl rfl, h.2⟩; exact h.elim
@[go_sem] theorem sp_saved'_eq : type_of% @sp_saved'.eq_def := @sp_saved'.eq_def
def heapF (p : ProgT) (s : StateT) (c : CellT) : Bool :=
 if c.kind = 4 then decide (c.num < (p.fns.length : Int)) && decide ((c.vals.length : Int) = ((p.fns.getD c.num.toNat fn0).caught.length : Int)) else if c.kind = 5 then !decide (c.num = 0) || savedF p s (c.frames.getD 0 frame0) else true
theorem heap_c (p : ProgT) (s : StateT) (c : CellT) (hp : Pgo p) (hc : Cwf c) (h4 : c.kind = 4 → 0 ≤ c.num) (h5 : c.kind = 5 → c.num = 0 → c.frames.length = 1) : FC Cx 125 [lkP p s, cellA c] [] (Bv (heapF p s c)) [] := by
 have l0 : (p.fns.map fnR).length = p.fns.length := List.length_map ..
 have lv : (c.vals.map valR).length = c.vals.length := List.length_map ..
 have lf : (c.frames.map frameR).length = c.frames.length := List.length_map ..
 obtain ⟨kind, num, vals, frames⟩ := c
 dsimp only at *
 by_cases k4 : kind = 4
 ·subst k4
  have n0 := h4 rfl
  clear h4 h5
  have e : heapF p s ⟨4, num, vals, frames⟩ = (decide (num < (p.fns.length : Int)) && decide ((vals.length : Int) = ((p.fns.getD num.toNat fn0).caught.length : Int))) := by unfold heapF; rw [if_pos rfl]
  rw [e]
  clear e
  cases hl : decide (num < (p.fns.length : Int)) with
  | false =>
   refine FCp_st [ct_saved'] Tryz.func125 Tryz.ntmps125 Tryz.results125 ?_
   refine goR ?_
   refine fzB 3 ?_
   (any_goals refine go lv125 0 ?_)
   all_goals (try simp only [go_sem])
  | true =>
   have hl' : num < (p.fns.length : Int) := by simpa using hl
   obtain ⟨F, hF⟩ : ∃ F, p.fns[num.toNat]? = some F := ⟨p.fns[num.toNat]'(by omega), List.getElem?_eq_getElem _⟩
   have gF := getD_map fnR hF ([] : List RV)
   have gF2 : p.fns.getD num.toNat fn0 = F := by simp [List.getD, hF]
   have lc : (F.caught.map intR).length = F.caught.length := List.length_map ..
   rw [gF2]
   clear gF2
   refine FCp_st [ct_saved'] Tryz.func125 Tryz.ntmps125 Tryz.results125 ?_
   refine goR ?_
   refine fzB 3 ?_
   (any_goals refine go lv125 0 ?_)
   all_goals (try simp only [go_sem])
 have d4 : decide (kind = 4) = false := by simpa using k4
 by_cases k5 : kind = 5
 ·subst k5
  by_cases n0 : num = 0
  ·subst n0
   have hl := h5 rfl rfl
   clear h4 h5
   obtain ⟨f0, rfl⟩ : ∃ f0, frames = [f0] := by
    match frames, hl with
    | [f0], _ => exact ⟨f0, rfl⟩
   have hf0 := hc.frame f0 (List.mem_singleton.2 rfl)
   have e : heapF p s ⟨5, 0, vals, [f0]⟩ = savedF p s f0 := by unfold heapF; rw [if_neg (show ¬ (5 : Int) = 4 from by decide), if_pos rfl]; rfl
   rw [e]
   clear e hc
   obtain ⟨fn, pc, tov, gen, ⟨sk, sn⟩, regs, tries⟩ := f0
   refine FCp_st [ct_saved'] Tryz.func125 Tryz.ntmps125 Tryz.results125 ?_
   refine goR ?_
   refine fzB 3 ?_
   (any_goals refine go lv125 0 ?_)
   all_goals (try simp only [go_sem])
  ·have dn : decide (num = 0) = false := by simpa using n0
   have e : heapF p s ⟨5, num, vals, frames⟩ = true := by unfold heapF; rw [if_neg (show ¬ (5 : Int) = 4 from by decide), if_pos rfl]; dsimp only; rw [dn]; rfl
   rw [e]
   clear e h4 h5
   refine FCp_st [ct_saved'] Tryz.func125 Tryz.ntmps125 Tryz.results125 ?_
   refine goR ?_
   refine fzB 3 ?_
   (any_goals refine go lv125 0 ?_)
   all_goals (try simp only [go_sem])
 have d5 : decide (kind = 5) = false := by simpa using k5
 have e : heapF p s ⟨kind, num, vals, frames⟩ = true := by unfold heapF; rw [if_neg k4, if_neg k5]
 rw [e]
 clear e h4 h5
 refine FCp_st [ct_saved'] Tryz.func125 Tryz.ntmps125 Tryz.results125 ?_
 refine goR ?_
 refine fzB 3 ?_
 (any_goals refine go lv125 0 ?_)
 all_goals (try simp only [go_sem])
def onF (p : ProgT) (s : StateT) (low : Int) (f : FrameT) : Bool := frameF p s f && decide (-1 ≤ f.tov ∧ f.tov ≤ low - 1) && ((p.fns.getD f.fn.toNat fn0).gen == decide (0 ≤ f.gen)) && !decide (f.gen < -1)
def goesF (s : StateT) (k : Nat) (f : FrameT) : Bool := !decide (k = 0) && refF s (5, f.gen) 5 && decide ((s.cells.getD f.gen.toNat cell0).num = 1)
noncomputable def stackG (p : ProgT) (s : StateT) : Nat → Int → List FrameT → List Int → Bool × List Int
 | _, _, [], S => (true, S)
 | k, low, f :: fs, S =>
  if onF p s low f = true then
   if (p.fns.getD f.fn.toNat fn0).gen = true then
    if goesF s k f = true ∧ f.gen ∉ S then stackG p s (k + 1) f.regs.length fs (f.gen :: S) else (false, S)
   else stackG p s (k + 1) f.regs.length fs S
  else (false, S)
def lowAt (fs : List FrameT) (i : Nat) : Int := if i = 0 then 0 else ((fs.getD (i - 1) frame0).regs.length : Int)
def headF (p : ProgT) (s : StateT) (t : ThreadT) : Bool :=
 (decide (t.state = 3 ∨ t.state = 4) == decide (t.frames.length = 0)) && (decide (t.state = 3 ∨ t.state = 4) || decide (t.val = (0, 0))) && fitsF s t.val && decide (0 ≤ t.state ∧ t.state ≤ 4) &&
 (if t.state = 1 then refF s (5, t.on) 6 else if t.state = 2 then decide (0 ≤ t.on ∧ t.on ≤ (s.threads.length : Int) - 1) else decide (t.on = 0))
noncomputable def threadG (p : ProgT) (s : StateT) (t : ThreadT) (S : List Int) : Bool × List Int := if headF p s t = true then stackG p s 0 0 t.frames S else (false, S)
noncomputable def threadsG (p : ProgT) (s : StateT) : List ThreadT → List Int → Bool × List Int
 | [], S => (true, S)
 | t :: ts, S => if (threadG p s t S).1 = true then threadsG p s ts (threadG p s t S).2 else (false, (threadG p s t S).2)
def gensL (fs : List FrameT) : List Int := (fs.filter fun f => decide (0 ≤ f.gen)).map (·.gen)
def stackR (p : ProgT) (s : StateT) : Nat → Int → List FrameT → Prop
 | _, _, [] => True
 | k, low, f :: fs => (onF p s low f = true ∧ (0 ≤ f.gen → goesF s k f = true)) ∧ stackR p s (k + 1) f.regs.length fs
theorem onF_gen {p : ProgT} {s : StateT} {low : Int} {f : FrameT} (h : onF p s low f = true) : (p.fns.getD f.fn.toNat fn0).gen = decide (0 ≤ f.gen) := by
 unfold onF at h
 simp only [Bool.and_eq_true, beq_iff_eq] at h
 exact h.1.2
theorem stackG_iff (p : ProgT) (s : StateT) : ∀ (fs : List FrameT) (k : Nat) (low : Int) (S S' : List Int), S.Nodup → (stackG p s k low fs S = (true, S') ↔ stackR p s k low fs ∧ S' = (gensL fs).reverse ++ S ∧ S'.Nodup)
 | [], k, low, S, S', hS => by
  unfold stackG stackR gensL
  simp only [Prod.mk.injEq, true_and, List.filter_nil, List.map_nil, List.reverse_nil, List.nil_append]
  exact ⟨fun h => ⟨h.symm, h ▸ hS⟩, fun h => h.1.symm⟩
 | f :: fs, k, low, S, S', hS => by
  unfold stackG stackR
  by_cases h1 : onF p s low f = true
  ·rw [if_pos h1, onF_gen h1]
   by_cases h2 : 0 ≤ f.gen
   ·rw [if_pos (by simpa using h2)]
    have eg : gensL (f :: fs) = f.gen :: gensL fs := by unfold gensL; rw [List.filter_cons_of_pos (by simpa using h2), List.map_cons]
    rw [eg, List.reverse_cons, List.append_assoc, List.singleton_append]
    by_cases h3 : goesF s k f = true ∧ f.gen ∉ S
    ·rw [if_pos h3, stackG_iff p s fs (k + 1) f.regs.length (f.gen :: S) S' (List.nodup_cons.2 ⟨h3.2, hS⟩)]
     exact ⟨fun h => ⟨⟨⟨h1, fun _ => h3.1⟩, h.1⟩, h.2⟩, fun h => ⟨h.1.2, h.2⟩⟩
    ·rw [if_neg h3]
     refine ⟨fun h => by simp at h, fun ⟨⟨⟨_, h5⟩, _⟩, h6, h7⟩ => absurd ⟨h5 h2, fun h8 => ?_⟩ h3⟩
     rw [h6] at h7
     have := (List.nodup_append.1 h7).2.1
     exact (List.nodup_cons.1 this).1 h8
   ·rw [if_neg (by simpa using h2)]
    have eg : gensL (f :: fs) = gensL fs := by unfold gensL; rw [List.filter_cons_of_neg (by simpa using h2)]
    rw [eg, stackG_iff p s fs (k + 1) f.regs.length S S' hS]
    exact ⟨fun h => ⟨⟨⟨h1, fun h => absurd h h2⟩, h.1⟩, h.2⟩, fun h => ⟨h.1.2, h.2⟩⟩
  ·rw [if_neg h1]
   exact ⟨fun h => by simp at h, fun h => absurd h.1.1.1 h1⟩
theorem nodup_rev {α : Type} {l : List α} : l.reverse.Nodup ↔ l.Nodup := by
 unfold List.Nodup
 rw [List.pairwise_reverse]
 exact ⟨fun h => h.imp fun h => h.symm, fun h => h.imp fun h => h.symm⟩
def gensT (ts : List ThreadT) : List Int := (ts.map fun t => gensL t.frames).flatten
def threadR' (p : ProgT) (s : StateT) (t : ThreadT) : Prop := headF p s t = true ∧ stackR p s 0 0 t.frames
theorem threadG_iff (p : ProgT) (s : StateT) (t : ThreadT) (S S' : List Int) (hS : S.Nodup) : threadG p s t S = (true, S') ↔ threadR' p s t ∧ S' = (gensL t.frames).reverse ++ S ∧ S'.Nodup := by
 unfold threadG threadR'
 by_cases h : headF p s t = true
 ·rw [if_pos h, stackG_iff p s _ _ _ _ _ hS]
  exact ⟨fun h1 => ⟨⟨h, h1.1⟩, h1.2⟩, fun h1 => ⟨h1.1.2, h1.2⟩⟩
 ·rw [if_neg h]
  exact ⟨fun h1 => by simp at h1, fun h1 => absurd h1.1.1 h⟩
theorem threadsG_iff (p : ProgT) (s : StateT) : ∀ (ts : List ThreadT) (S S' : List Int), S.Nodup → (threadsG p s ts S = (true, S') ↔ (∀ t ∈ ts, threadR' p s t) ∧ S' = (gensT ts).reverse ++ S ∧ S'.Nodup)
 | [], S, S', hS => by
  unfold threadsG gensT
  simp only [Prod.mk.injEq, true_and, List.map_nil, List.flatten_nil, List.reverse_nil, List.nil_append]
  exact ⟨fun h => ⟨(fun _ h1 => by simp at h1), h.symm, h ▸ hS⟩, fun h => h.2.1.symm⟩
 | t :: ts, S, S', hS => by
  have eg : gensT (t :: ts) = gensL t.frames ++ gensT ts := rfl
  unfold threadsG
  rw [eg, List.reverse_append, List.append_assoc]
  by_cases h : (threadG p s t S).1 = true
  ·obtain ⟨h1, h2, h3⟩ := (threadG_iff p s t S (threadG p s t S).2 hS).1 (by rw [← h])
   rw [if_pos h, threadsG_iff p s ts _ S' h3, h2]
   exact ⟨fun h4 => ⟨fun u hu => (List.mem_cons.1 hu).elim (fun e => e ▸ h1) (h4.1 u), h4.2⟩, fun h4 => ⟨fun u hu => h4.1 u (List.mem_cons_of_mem _ hu), h4.2⟩⟩
  ·rw [if_neg h]
   refine ⟨fun h1 => by simp at h1, fun ⟨h1, h2, h3⟩ => absurd ?_ h⟩
   rw [(threadG_iff p s t S _ hS).2 ⟨h1 t (List.mem_cons_self ..), rfl, ?_⟩]
   rw [h2] at h3
   exact (List.nodup_append.1 h3).2.1
theorem threadsG_true {p : ProgT} {s : StateT} {ts : List ThreadT} : (threadsG p s ts []).1 = true ↔ (∀ t ∈ ts, threadR' p s t) ∧ (gensT ts).Nodup := by
 constructor
 ·intro h
  have := (threadsG_iff p s ts [] (threadsG p s ts []).2 List.nodup_nil).1 (by rw [← h])
  refine ⟨this.1, ?_⟩
  have h2 := this.2.2
  rw [this.2.1, List.append_nil] at h2
  exact nodup_rev.1 h2
 ·intro h
  rw [(threadsG_iff p s ts [] _ List.nodup_nil).2 ⟨h.1, rfl, by rw [List.append_nil]; exact nodup_rev.2 h.2⟩]
theorem threadsG_mem {p : ProgT} {s : StateT} {ts : List ThreadT} (h : (threadsG p s ts []).1 = true) (g : Int) : g ∈ (threadsG p s ts []).2 ↔ g ∈ gensT ts := by
 have := (threadsG_iff p s ts [] (threadsG p s ts []).2 List.nodup_nil).1 (by rw [← h])
 rw [this.2.1, List.append_nil, List.mem_reverse]
noncomputable def rightS (p : ProgT) (s : StateT) : Bool :=
 decide (p.texts.length ≤ s.texts.length) && decide (s.texts.take p.texts.length = p.texts) && decide (0 ≤ s.steps ∧ s.steps ≤ 1000000000) && decide (0 ≤ s.asked ∧ s.asked ≤ 1000000000) && !decide (s.threads.length = 0) &&
 s.cells.all (heapF p s) && (threadsG p s s.threads []).1 && (s.cells.zipIdx.all fun x => !(decide (x.1.kind = 5) && decide (x.1.num = 1)) || decide ((x.2 : Int) ∈ (threadsG p s s.threads []).2))
def manyS (s : StateT) : Bool := decide ((5 : Int) < (s.threads.length : Int)) || s.threads.any fun t => decide ((30 : Int) < (t.frames.length : Int))
noncomputable def faultS (p : ProgT) (s : StateT) : Int :=
 if checkF p ≠ 0 then checkF p else if checkS s ≠ 0 then checkS s else if manyS s = true then 2 else if rightS p s = true then 0 else 3
structure RightS (p : ProgT) (s : StateT) : Prop where
 prog : checkF p = 0
 heap : checkS s = 0
 few : manyS s = false
 texts : s.texts.take p.texts.length = p.texts
 steps : 0 ≤ s.steps ∧ s.steps ≤ 1000000000
 asked : 0 ≤ s.asked ∧ s.asked ≤ 1000000000
 any : s.threads.length ≠ 0
 cells : ∀ c ∈ s.cells, heapF p s c = true
 threads : ∀ t ∈ s.threads, threadR' p s t
 gens : (gensT s.threads).Nodup
 runs : ∀ (k : Nat) (c : CellT), s.cells[k]? = some c → c.kind = 5 → c.num = 1 → (k : Int) ∈ gensT s.threads
theorem rightS_iff {p : ProgT} {s : StateT} : faultS p s = 0 ↔ RightS p s := by
 unfold faultS
 constructor
 ·intro h
  split at h
  ·rename_i h1; exact absurd h h1
  rename_i h1
  split at h
  ·rename_i h2; exact absurd h h2
  rename_i h2
  split at h
  ·cases h
  rename_i h3
  split at h
  ·rename_i h4
   unfold rightS at h4
   simp only [Bool.and_eq_true, decide_eq_true_eq, Bool.not_eq_true', decide_eq_false_iff_not] at h4
   obtain ⟨⟨⟨⟨⟨⟨⟨_, a2⟩, a3⟩, a4⟩, a5⟩, a6⟩, a7⟩, a8⟩ := h4
   have a9 := threadsG_true.1 a7
   refine ⟨Classical.not_not.1 h1, Classical.not_not.1 h2, by simpa using h3, a2, a3, a4, a5, List.all_eq_true.1 a6, a9.1, a9.2, fun k c hk k5 n1 => ?_⟩
   have := List.all_eq_true.1 a8 (c, k) (by rw [List.mem_zipIdx_iff_getElem?]; exact hk)
   simp only [k5, n1, decide_true, Bool.and_true, Bool.not_true, Bool.false_or, decide_eq_true_eq] at this
   exact (threadsG_mem a7 _).1 this
  ·cases h
 ·intro h
  have a7 : (threadsG p s s.threads []).1 = true := threadsG_true.2 ⟨h.threads, h.gens⟩
  rw [if_neg (fun h1 => h1 h.prog), if_neg (fun h1 => h1 h.heap), h.few, if_neg (by simp), if_pos]
  unfold rightS
  simp only [Bool.and_eq_true, decide_eq_true_eq, Bool.not_eq_true', decide_eq_false_iff_not]
  refine ⟨⟨⟨⟨⟨⟨⟨?_, h.texts⟩, h.steps⟩, h.asked⟩, h.any⟩, List.all_eq_true.2 h.cells⟩, a7⟩, List.all_eq_true.2 fun x hx => ?_⟩
  ·have := congrArg List.length h.texts
   rw [List.length_take] at this; omega
  ·obtain ⟨c, k⟩ := x
   rw [List.mem_zipIdx_iff_getElem?] at hx
   dsimp only
   cases hb : decide (c.kind = 5) && decide (c.num = 1) with
   | false => rfl
   | true =>
    simp only [Bool.and_eq_true, decide_eq_true_eq] at hb
    simp only [Bool.not_true, Bool.false_or, decide_eq_true_eq]
    exact (threadsG_mem a7 _).2 (h.runs k c hx hb.1 hb.2)
theorem FC.weak {C : Ctx} {f : Nat} {args : List AV} {rs0 rs1 : List (Nat × Nat × Res)} {r r' : AV} (h : FC C f args rs0 r rs1) (hw : ∀ (cur : Nat → Nat) (g : Gh) (w : World) (N : Nat → Prop) (v : Value), AR cur g w N r v → AR cur g w N r' v) : FC C f args rs0 r' rs1 :=
 ⟨fun e g w vs hok hs hvs => (h.run e g w vs hok hs hvs).mono fun _ _ ⟨v, g', h1, h2, h3, h4⟩ => ⟨v, g', h1, h2, hw _ _ _ _ _ h3, h4⟩⟩
inductive Lss : AV → AV → Prop
 | same (x : AV) : Lss x x
 | ln (sz : Nat) (rows : List (List RV)) : Lss (.r (.rs sz rows)) (.r (.ln rows.length))
 | nil : Lss NilS (.r (.ln 0))
 | agg (cs ds : List AV) (hn : ds.length = cs.length) (h : ∀ (j : Nat) (x y : AV), cs[j]? = some x → ds[j]? = some y → Lss x y) : Lss (.agg cs) (.agg ds)
 | tup (cs ds : List AV) (hn : ds.length = cs.length) (h : ∀ (j : Nat) (x y : AV), cs[j]? = some x → ds[j]? = some y → Lss x y) : Lss (.tup cs) (.tup ds)
theorem Lss.ok {x y : AV} (h : Lss x y) {cur : Nat → Nat} {g : Gh} {w : World} {N : Nat → Prop} : ∀ {v : Value}, AR cur g w N x v → AR cur g w N y v := by
 induction h with
 | same x => exact id
 | ln sz rows =>
  intro v hv
  cases hv with | r h => cases h with
   | nil => exact .r (.ln 0 none 0)
   | rs _ _ a cap => exact .r (.ln _ _ _)
 | nil => intro v hv; rw [inv_v hv]; exact .r (.ln 0 none 0)
 | agg cs ds hn _ ih =>
  intro v hv
  cases hv with
  | agg _ xs hs h =>
   refine .agg ds xs (by omega) fun j y u hy hu => ?_
   ·have hj := (List.getElem?_eq_some_iff.1 hy).1
    have hx : cs[j]? = some (cs[j]'(by omega)) := List.getElem?_eq_getElem (by omega)
    exact ih j _ y hx hy (h j _ u hx hu)
 | tup cs ds hn _ ih =>
  intro v hv
  cases hv with
  | tup _ xs hs h =>
   refine .tup ds xs (by omega) fun j y u hy hu => ?_
   ·have hj := (List.getElem?_eq_some_iff.1 hy).1
    have hx : cs[j]? = some (cs[j]'(by omega)) := List.getElem?_eq_getElem (by omega)
    exact ih j _ y hx hy (h j _ u hx hu)
abbrev cellL (c : CellT) : AV := .agg [Iv c.kind, Iv c.num, .r (.ln c.vals.length), .r (.ln c.frames.length)]
def cellY (s : StateT) (v : Int × Int) (q : Int) : CellT := bif refF s v q then s.cells.getD v.2.toNat cell0 else ⟨0, 0, [], []⟩
theorem cellX_Y (s : StateT) (v : Int × Int) (q : Int) : Lss (cellX s v q) (cellL (cellY s v q)) := by
 unfold cellX cellY
 cases refF s v q
 all_goals
  refine .agg _ _ rfl fun j x y hx hy => ?_
  match j with
  | 0 => simp at hx hy; subst hx; subst hy; exact .same _
  | 1 => simp at hx hy; subst hx; subst hy; exact .same _
  | 2 => simp at hx hy; subst hx; subst hy; first | exact .nil | (have := Lss.ln 2 ((s.cells.getD v.2.toNat cell0).vals.map valR); rwa [List.length_map] at this)
  | 3 => simp at hx hy; subst hx; subst hy; first | exact .nil | (have := Lss.ln 8 ((s.cells.getD v.2.toNat cell0).frames.map frameR); rwa [List.length_map] at this)
  | j + 4 => simp at hx
theorem lcellL_c (xs ys zs ca sh tx th en sd tr wy : List (List RV)) (aq sq : Int) (k n q : Int) (h : ((xs = (fnsOf xs).map fnR ∧ ys = (valsOf ys).map valR ∧ zs = (strsOf zs).map strR) ∧ ca = (cellsOf ca).map cellR ∧ sh = (valsOf sh).map valR ∧ tx = (strsOf tx).map strR ∧ th = (threadsOf th).map threadR ∧ en = (endsOf en).map endR ∧ sd = (valsOf sd).map valR) ∧ (tr = (fnsOf xs).map fun f => [outR f]) ∧ (wy = (fnsOf xs).map fun f => [seenR f])) : FC Cx 175 [.r (.rp [.rs 5 xs, .rs 2 ys, .rs 1 zs, .rp [.rs 4 ca, .rs 2 sh, .rs 1 tx, .rs 5 th, .rs 3 en, .rs 2 sd, .v (.int .i64 aq), .v (.int .i64 sq)], .rs 1 tr, .rs 1 wy, .un]), VV k n, Iv q] [] (.tup [cellL (cellY ⟨cellsOf ca, valsOf sh, strsOf tx, threadsOf th, endsOf en, valsOf sd, aq, sq⟩ (k, n) q), Bv (refF ⟨cellsOf ca, valsOf sh, strsOf tx, threadsOf th, endsOf en, valsOf sd, aq, sq⟩ (k, n) q)]) [] := by
 refine (lcell'_c xs ys zs ca sh tx th en sd tr wy aq sq k n q h).weak fun cur g w N v hv => (Lss.tup [cellX ⟨cellsOf ca, valsOf sh, strsOf tx, threadsOf th, endsOf en, valsOf sd, aq, sq⟩ (k, n) q, Bv (refF ⟨cellsOf ca, valsOf sh, strsOf tx, threadsOf th, endsOf en, valsOf sd, aq, sq⟩ (k, n) q)] [cellL (cellY ⟨cellsOf ca, valsOf sh, strsOf tx, threadsOf th, endsOf en, valsOf sd, aq, sq⟩ (k, n) q), Bv (refF ⟨cellsOf ca, valsOf sh, strsOf tx, threadsOf th, endsOf en, valsOf sd, aq, sq⟩ (k, n) q)] rfl fun j x y hx hy => ?_).ok hv
 match j with
 | 0 => simp at hx hy; subst hx; subst hy; exact cellX_Y _ _ _
 | 1 => simp at hx hy; subst hx; subst hy; exact .same _
 | j + 2 => simp at hx
def sp_lcellL (args : List AV) (K : AV → Prop) : Prop := match args with
 | [.r (.rp [.rs 5 xs, .rs 2 ys, .rs 1 zs, .rp [.rs 4 ca, .rs 2 sh, .rs 1 tx, .rs 5 th, .rs 3 en, .rs 2 sd, .v (.int .i64 aq), .v (.int .i64 sq)], .rs 1 tr, .rs 1 wy, .un]), .agg [.r (.v (.int .i64 k)), .r (.v (.int .i64 n))], .r (.v (.int .i64 q))] => (((xs = (fnsOf xs).map fnR ∧ ys = (valsOf ys).map valR ∧ zs = (strsOf zs).map strR) ∧ ca = (cellsOf ca).map cellR ∧ sh = (valsOf sh).map valR ∧ tx = (strsOf tx).map strR ∧ th = (threadsOf th).map threadR ∧ en = (endsOf en).map endR ∧ sd = (valsOf sd).map valR) ∧ (tr = (fnsOf xs).map fun f => [outR f]) ∧ (wy = (fnsOf xs).map fun f => [seenR f])) ∧ K (.tup [cellL (cellY ⟨cellsOf ca, valsOf sh, strsOf tx, threadsOf th, endsOf en, valsOf sd, aq, sq⟩ (k, n) q), Bv (refF ⟨cellsOf ca, valsOf sh, strsOf tx, threadsOf th, endsOf en, valsOf sd, aq, sq⟩ (k, n) q)])
 | _ => False
noncomputable abbrev ct_lcellL : Ct Cx := .pure 175 sp_lcellL fun args K h => by
 unfold sp_lcellL at h; split at h; exact ⟨_, CallOk_of (lcellL_c _ _ _ _ _ _ _ _ _ _ _ _ _ _ _ _ h.1) en175 rfl rfl, h.2⟩; exact h.elim
@[go_sem] theorem sp_lcellL_eq : type_of% @sp_lcellL.eq_def := @sp_lcellL.eq_def
abbrev lkC (p : ProgT) (s : StateT) : List AV := [.r (.rs 5 (p.fns.map fnR)), .r (.rs 2 (p.consts.map valR)), .r (.rs 1 (p.texts.map strR)), .r (.rp (stateR s)), .r (.rs 1 (p.fns.map fun f => [outR f])), .r (.rs 1 (p.fns.map fun f => [seenR f])), .os 1 0]
noncomputable abbrev lkRs (p : ProgT) (s : StateT) (S : List Int) : List (Nat × Nat × Res) := [(0, 0, .bx (lkC p s)), (1, 0, .mp (seenI S) S.length)]
theorem insLk (p : ProgT) (s : StateT) (S : List Int) (k : Nat) : withinRes (domR (lkRs p s S)) (lookR k (lkRs p s S)).2 := by
 have e : lookR k (lkRs p s S) = if k = 0 then (0, .bx (lkC p s)) else if k = 1 then (0, .mp (seenI S) S.length) else (0, .gone) := rfl
 rw [e]
 split
 ·rfl
 ·split <;> trivial
theorem stack_c (p : ProgT) (s : StateT) (fs : List FrameT) (S : List Int) (hp : Pgo p) (hn : 0 < p.fns.length) (hfs : ∀ f ∈ fs, Gwf f) (hl : fs.length ≤ 9223372036854775807) (hS : ∀ g ∈ S, WI g) :
  FC Cx 176 [.os 0 0, framesV fs] (lkRs p s S) (Bv (stackG p s 0 0 fs S).1) (lkRs p s (stackG p s 0 0 fs S).2) := by
 have l0 : (p.fns.map fnR).length = p.fns.length := List.length_map ..
 have l1 : (fs.map frameR).length = fs.length := List.length_map ..
 refine FCm_of [ct_frame', ct_swithin, ct_lcellL]  Tryz.func176 rfl Tryz.ntmps176 (by simp) Tryz.results176 rfl (insLk _ _ _) ?_
 refine rnst ?_
 (any_goals refine go lv176 0 ?_)
 refine Rn_loopS (fun x : Nat × List Int × Nat => x.1 ≤ fs.length ∧ (∀ g ∈ x.2.1, WI g) ∧ stackG p s 0 0 fs S = stackG p s x.1 (lowAt fs x.1) (fs.drop x.1) x.2.1) (fun x => ⟨108, [(0, .os 0 0), (1, framesV fs), (11, framesV fs), (12, Iv fs.length), (13, Iv x.1)], [(0, 0, .bx (lkC p s)), (1, 0, .mp (seenI x.2.1) x.2.1.length), (6, x.2.2, .gone), (9, x.2.2, .gone)]⟩) (fun x => fs.length - x.1) (0, S, 0) ⟨Nat.zero_le _, hS, rfl⟩ ?_
 rintro ⟨i, S', u⟩ ⟨hi, hS', hG⟩
 dsimp only at hi hS' hG ⊢
 by_cases hlt : i < fs.length
 case neg =>
  obtain rfl : i = fs.length := by omega
  have e1 : decide ((fs.length : Int) < (fs.length : Int)) = false := by rw [decide_eq_false_iff_not]; omega
  rw [List.drop_length] at hG
  have hG' : stackG p s 0 0 fs S = (true, S') := hG
  rw [hG']
  clear hG hG'
  (any_goals refine go lv176 0 ?_)
  all_goals (try simp only [go_sem])
 have e1 : decide ((i : Int) < (fs.length : Int)) = true := by rw [decide_eq_true_eq]; omega
 have t1 : Int.toNat (i : Int) = i := by omega
 have w1 : IntKind.i64.wrap ((i : Int) + 1) = ((i + 1 : Nat) : Int) := by rw [wrap_id] <;> omega
 obtain ⟨f, hf⟩ : ∃ v, fs[i]? = some v := ⟨fs[i], List.getElem?_eq_getElem hlt⟩
 have hg := getD_map frameR hf ([] : List RV)
 have hwf := hfs f (List.mem_of_getElem? hf)
 have hd : fs.drop i = f :: fs.drop (i + 1) := by rw [← List.getElem_cons_drop hlt]; congr 1; exact (List.getElem?_eq_some_iff.1 hf).2
 rw [hd] at hG
 have h60 := hp.fns
 have wn : IntKind.i64.wrap ((p.fns.length : Int) - 1) = (p.fns.length : Int) - 1 := by rw [wrap_id] <;> omega
 obtain ⟨fn, pc, tov, gen, ⟨sk, sn⟩, regs, tries⟩ := f
 have lr : (regs.map valR).length = regs.length := List.length_map ..
 obtain ⟨F, hF⟩ : ∃ F, p.fns[(if (if (p.fns.length : Int) - 1 < fn then (p.fns.length : Int) - 1 else fn) > 0 then if (p.fns.length : Int) - 1 < fn then (p.fns.length : Int) - 1 else fn else 0).toNat]? = some F :=
  ⟨p.fns[(if (if (p.fns.length : Int) - 1 < fn then (p.fns.length : Int) - 1 else fn) > 0 then if (p.fns.length : Int) - 1 < fn then (p.fns.length : Int) - 1 else fn else 0).toNat]'(by omega), List.getElem?_eq_getElem _⟩
 have gF := getD_map fnR hF ([] : List RV)
 have hFf : 0 ≤ fn ∧ fn < (p.fns.length : Int) → p.fns.getD fn.toNat fn0 = F := fun h => by
  have e : (if (if (p.fns.length : Int) - 1 < fn then (p.fns.length : Int) - 1 else fn) > 0 then if (p.fns.length : Int) - 1 < fn then (p.fns.length : Int) - 1 else fn else 0).toNat = fn.toNat := by
   congr 1; omega
  rw [e] at hF
  rw [List.getD_eq_getElem?_getD, hF]; rfl
 have eR : Int.toNat ((i : Int) - 1) = i - 1 := by omega
 cases hfr : frameF p s ⟨fn, pc, tov, gen, (sk, sn), regs, tries⟩ with
 | false =>
  have hG' : stackG p s 0 0 fs S = (false, S') := by
   rw [hG]; unfold stackG; rw [if_neg]; unfold onF; rw [hfr]; simp
  rw [hG']
  clear hG hG' hFf hF
  by_cases i0 : i = 0
  ·have e0 : decide ((0 : Int) < (i : Int)) = false := by rw [decide_eq_false_iff_not]; omega
   clear i0
   (any_goals refine go lv176 0 ?_)
   all_goals (try simp only [go_sem])
  ·have e0 : decide ((0 : Int) < (i : Int)) = true := by rw [decide_eq_true_eq]; omega
   have w2 : IntKind.i64.wrap ((i : Int) - 1) = (i : Int) - 1 := by rw [wrap_id] <;> omega
   obtain ⟨f0, hf0⟩ : ∃ v, fs[i - 1]? = some v := ⟨fs[i - 1], List.getElem?_eq_getElem (by omega)⟩
   have hg0 := getD_map frameR hf0 ([] : List RV)
   have lr0 : (f0.regs.map valR).length = f0.regs.length := List.length_map ..
   have i1 : 1 ≤ i := by omega
   clear i0
   (any_goals refine go lv176 0 ?_)
   all_goals (try simp only [go_sem])
 | true =>
 obtain ⟨⟨f1, f2⟩, _, _⟩ := frame_fn hfr
 dsimp only at f1 f2
 have hFn := hFf ⟨f1, f2⟩
 obtain ⟨b4, h4⟩ : ∃ b, F.gen = b := ⟨_, rfl⟩
 obtain ⟨b1, h1⟩ : ∃ b, decide (-1 ≤ tov ∧ tov ≤ lowAt fs i - 1) = b := ⟨_, rfl⟩
 obtain ⟨b2, h2⟩ : ∃ b, decide (0 ≤ gen) = b := ⟨_, rfl⟩
 obtain ⟨b3, h3⟩ : ∃ b, decide (gen < -1) = b := ⟨_, rfl⟩
 have hon : onF p s (lowAt fs i) ⟨fn, pc, tov, gen, (sk, sn), regs, tries⟩ = (b1 && (b4 == b2) && !b3) := by
  unfold onF; dsimp only; rw [hfr, h1, h2, h3, hFn, h4, Bool.true_and]
 have hst : stackG p s i (lowAt fs i) (⟨fn, pc, tov, gen, (sk, sn), regs, tries⟩ :: fs.drop (i + 1)) S' =
   if (b1 && (b4 == b2) && !b3) = true then
    if b4 = true then
     if goesF s i ⟨fn, pc, tov, gen, (sk, sn), regs, tries⟩ = true ∧ gen ∉ S' then stackG p s (i + 1) regs.length (fs.drop (i + 1)) (gen :: S') else (false, S')
    else stackG p s (i + 1) regs.length (fs.drop (i + 1)) S'
   else (false, S') := by
  rw [show stackG p s i (lowAt fs i) (⟨fn, pc, tov, gen, (sk, sn), regs, tries⟩ :: fs.drop (i + 1)) S' = if onF p s (lowAt fs i) ⟨fn, pc, tov, gen, (sk, sn), regs, tries⟩ = true then
   if (p.fns.getD fn.toNat fn0).gen = true then
    if goesF s i ⟨fn, pc, tov, gen, (sk, sn), regs, tries⟩ = true ∧ gen ∉ S' then stackG p s (i + 1) regs.length (fs.drop (i + 1)) (gen :: S') else (false, S')
   else stackG p s (i + 1) regs.length (fs.drop (i + 1)) S'
   else (false, S') from rfl, hon, hFn, h4]
 have hnx : lowAt fs (i + 1) = regs.length := by
  unfold lowAt
  rw [if_neg (by omega), Nat.add_sub_cancel, List.getD_eq_getElem?_getD, hf]; rfl
 rw [hst] at hG
 clear hst hon hFf hF hFn hd
 by_cases i0 : i = 0
 ·have e0 : decide ((0 : Int) < (i : Int)) = false := by rw [decide_eq_false_iff_not]; omega
  have e2 : decide ((i : Int) = 0) = true := by rw [decide_eq_true_eq]; omega
  have hgo : goesF s i ⟨fn, pc, tov, gen, (sk, sn), regs, tries⟩ = false := by unfold goesF; rw [decide_eq_true i0]; rfl
  have h1' : decide (-1 ≤ tov ∧ tov ≤ -1) = b1 := by rw [← h1]; unfold lowAt; rw [if_pos i0]; rfl
  clear i0 h1
  cases b1 with
  | false =>
   rw [if_neg (by simp)] at hG
   rw [hG]
   clear hG hnx
   (any_goals refine go lv176 0 ?_)
   all_goals (try simp only [go_sem])
  | true =>
  cases b4 <;> cases b2
  ·cases b3
   ·replace hG := (hG.trans (if_pos rfl)).trans (if_neg (by simp))
    (any_goals refine go lv176 0 ?_)
    refine ⟨(i + 1, S', u + 9), ⟨by dsimp only; omega, hS', by dsimp only; rw [hG, hnx]⟩, by dsimp only; omega, ?_⟩
    dsimp only
    exact Le_subA
   ·rw [if_neg (by simp)] at hG
    rw [hG]
    clear hG hnx
    (any_goals refine go lv176 0 ?_)
    all_goals (try simp only [go_sem])
  ·rw [if_neg (by simp)] at hG
   rw [hG]
   clear hG hnx
   (any_goals refine go lv176 0 ?_)
   all_goals (try simp only [go_sem])
  ·rw [if_neg (by simp)] at hG
   rw [hG]
   clear hG hnx
   (any_goals refine go lv176 0 ?_)
   all_goals (try simp only [go_sem])
  ·cases b3
   ·replace hG := (hG.trans (if_pos rfl)).trans (if_pos rfl)
    have hM : MapOk Tryz.prog 109 (seenI S') (.int .i64 gen) := seenI_ok hS' hwf.gen
    rw [if_neg (fun h => by rw [hgo] at h; cases h.1)] at hG
    clear hgo
    rw [hG]
    clear hG hnx
    (any_goals refine go lv176 0 ?_)
    all_goals (try simp only [go_sem])
   ·rw [if_neg (by simp)] at hG
    rw [hG]
    clear hG hnx
    (any_goals refine go lv176 0 ?_)
    all_goals (try simp only [go_sem])
 ·have e0 : decide ((0 : Int) < (i : Int)) = true := by rw [decide_eq_true_eq]; omega
  have e2 : decide ((i : Int) = 0) = false := by rw [decide_eq_false_iff_not]; omega
  have w2 : IntKind.i64.wrap ((i : Int) - 1) = (i : Int) - 1 := by rw [wrap_id] <;> omega
  obtain ⟨f0, hf0⟩ : ∃ v, fs[i - 1]? = some v := ⟨fs[i - 1], List.getElem?_eq_getElem (by omega)⟩
  have hg0 := getD_map frameR hf0 ([] : List RV)
  have lr0 : (f0.regs.map valR).length = f0.regs.length := List.length_map ..
  have hwf0 := (hfs f0 (List.mem_of_getElem? hf0)).regs
  have w3 : IntKind.i64.wrap ((f0.regs.length : Int) - 1) = (f0.regs.length : Int) - 1 := by rw [wrap_id] <;> omega
  have i1 : 1 ≤ i := by omega
  have hgo : goesF s i ⟨fn, pc, tov, gen, (sk, sn), regs, tries⟩ = (refF s (5, gen) 5 && decide ((s.cells.getD gen.toNat cell0).num = 1)) := by unfold goesF; rw [decide_eq_false i0]; rfl
  have h1' : decide (-1 ≤ tov ∧ tov ≤ (f0.regs.length : Int) - 1) = b1 := by rw [← h1]; unfold lowAt; rw [if_neg i0, List.getD_eq_getElem?_getD, hf0]; rfl
  clear i0 h1
  cases b1 with
  | false =>
   rw [if_neg (by simp)] at hG
   rw [hG]
   clear hG hnx
   (any_goals refine go lv176 0 ?_)
   all_goals (try simp only [go_sem])
  | true =>
  cases b4 <;> cases b2
  ·cases b3
   ·replace hG := (hG.trans (if_pos rfl)).trans (if_neg (by simp))
    (any_goals refine go lv176 0 ?_)
    refine ⟨(i + 1, S', u + 9), ⟨by dsimp only; omega, hS', by dsimp only; rw [hG, hnx]⟩, by dsimp only; omega, ?_⟩
    dsimp only
    exact Le_subA
   ·rw [if_neg (by simp)] at hG
    rw [hG]
    clear hG hnx
    (any_goals refine go lv176 0 ?_)
    all_goals (try simp only [go_sem])
  ·rw [if_neg (by simp)] at hG
   rw [hG]
   clear hG hnx
   (any_goals refine go lv176 0 ?_)
   all_goals (try simp only [go_sem])
  ·rw [if_neg (by simp)] at hG
   rw [hG]
   clear hG hnx
   (any_goals refine go lv176 0 ?_)
   all_goals (try simp only [go_sem])
  ·cases b3
   ·replace hG := (hG.trans (if_pos rfl)).trans (if_pos rfl)
    have hM : MapOk Tryz.prog 109 (seenI S') (.int .i64 gen) := seenI_ok hS' hwf.gen
    cases hr : refF s (5, gen) 5 with
    | false =>
     rw [if_neg (fun h => by rw [hgo, hr] at h; simp at h)] at hG
     clear hgo
     rw [hG]
     clear hG hnx
     (any_goals refine go lv176 0 ?_)
     all_goals (try simp only [go_sem])
    | true =>
    have hY : cellY s (5, gen) 5 = s.cells.getD gen.toNat cell0 := by unfold cellY; rw [hr]; rfl
    generalize s.cells.getD gen.toNat cell0 = c at *
    cases hnum : decide (c.num = 1) with
    | false =>
     rw [if_neg (fun h => by rw [hgo, hnum] at h; simp at h)] at hG
     clear hgo
     rw [hG]
     clear hG hnx
     (any_goals refine go lv176 0 ?_)
     all_goals (try simp only [go_sem])
    | true =>
    by_cases hin : gen ∈ S'
    ·have d6 := seenI_yes hin
     rw [if_neg (fun h => h.2 hin)] at hG
     clear hgo hin
     rw [hG]
     clear hG hnx
     (any_goals refine go lv176 0 ?_)
     all_goals (try simp only [go_sem])
    ·have d6 := seenI_no hin
     have d7 := seenI_upd S' gen
     have d8 : updN (seenI S') (.int .i64 gen) S'.length = S'.length + 1 := by unfold updN; rw [d6]
     have hS2 : ∀ g ∈ gen :: S', WI g := fun g hg => (List.mem_cons.1 hg).elim (fun e => e ▸ hwf.gen) (hS' g)
     rw [if_pos ⟨by rw [hgo, hr, hnum]; rfl, hin⟩] at hG
     clear hgo hin
     (any_goals refine go lv176 0 ?_)
     refine ⟨(i + 1, gen :: S', u + 9), ⟨by dsimp only; omega, hS2, by dsimp only; rw [hG, hnx]⟩, by dsimp only; omega, ?_⟩
     dsimp only
     exact Le_subA
   ·rw [if_neg (by simp)] at hG
    rw [hG]
    clear hG hnx
    (any_goals refine go lv176 0 ?_)
    all_goals (try simp only [go_sem])
theorem lk_Q {p : ProgT} {s : StateT} {S S2 : List Int} {f : Nat} {args : List AV} {r : AV} (h : FC Cx f args (lkRs p s S) r (lkRs p s S2)) (ha : withinL (fun k => k == 0 || k == 1) args = true) (hr : within none0 r = true) (v0 v1 a b : Nat) (hab : (a == b) = false) :
  QOk (C := Cx) f [(0, a, v0), (1, b, v1)] args (lkRs p s S) r (lkRs p s S2) := by
 have hd : ∀ S, domR (lkRs p s S) = fun k => k == 0 || k == 1 := fun S => by
  funext k
  unfold domR
  rw [show lookR k (lkRs p s S) = if k = 0 then (0, .bx (lkC p s)) else if k = 1 then (0, .mp (seenI S) S.length) else (0, .gone) from rfl]
  by_cases h0 : k = 0
  ·subst h0; rfl
  ·by_cases h1 : k = 1
   ·subst h1; rfl
   ·rw [if_neg h0, if_neg h1]; simp [h0, h1]
 have hab' : a ≠ b := by simpa using hab
 refine ⟨h, rfl, by simp [ndB, memN, hab'], rfl, by rw [hd]; exact ha, within_none hr, fun q hq => ?_, fun q hq => ?_⟩
 ·rw [hd]
  rcases List.mem_cons.1 hq with rfl | hq
  ·rfl
  ·obtain rfl := List.mem_singleton.1 hq; trivial
 ·rw [hd]
  rcases List.mem_cons.1 hq with rfl | hq
  ·rfl
  ·obtain rfl := List.mem_singleton.1 hq; trivial
theorem headF_eq (p : ProgT) (s : StateT) (frames : List FrameT) (state on vk vn : Int) : headF p s ⟨frames, state, on, (vk, vn)⟩ = (((decide (state = 3) || decide (state = 4)) == decide ((frames.length : Int) = 0)) && ((decide (state = 3) || decide (state = 4)) || (decide (vk = 0) && decide (vn = 0))) && fitsF s (vk, vn) && decide (0 ≤ state ∧ state ≤ 4) &&
 (if state = 1 then refF s (5, on) 6 else if state = 2 then decide (0 ≤ on ∧ on ≤ (s.threads.length : Int) - 1) else decide (on = 0))) := by
 unfold headF
 dsimp only
 rw [Bool.decide_or, show decide (frames.length = 0) = decide ((frames.length : Int) = 0) by rw [decide_eq_decide]; omega, show decide ((vk, vn) = ((0, 0) : Int × Int)) = (decide (vk = 0) && decide (vn = 0)) by rw [← Bool.decide_and, decide_eq_decide, Prod.mk.injEq]]
theorem thread_c (p : ProgT) (s : StateT) (t : ThreadT) (S : List Int) (hp : Pgo p) (hn : 0 < p.fns.length) (hfs : ∀ f ∈ t.frames, Gwf f) (hl : t.frames.length ≤ 9223372036854775807) (hl2 : s.threads.length ≤ 9223372036854775807) (hS : ∀ g ∈ S, WI g) :
    FC Cx 127 [.os 0 0, threadA t] (lkRs p s S) (Bv (threadG p s t S).1) (lkRs p s (threadG p s t S).2) := by
  have l0 : (t.frames.map frameR).length = t.frames.length := List.length_map ..
  have l1 : (s.threads.map threadR).length = s.threads.length := List.length_map ..
  have hq := lk_Q (stack_c p s t.frames S hp hn hfs hl hS) rfl rfl 0 0 0 1 rfl
  have en : Enters Cx.P 176 := en176
  obtain ⟨frames, state, on, ⟨vk, vn⟩⟩ := t
  dsimp only at *
  have w1 : IntKind.i64.wrap ((s.threads.length : Int) - 1) = (s.threads.length : Int) - 1 := by rw [wrap_id] <;> omega
  refine FCm_of [ct_Fits', ct_swithin, ct_lcellL, ctQ 176 [(0, 0, 0), (1, 1, 0)] [.os 0 0, framesV frames] (lkRs p s S) (Bv (stackG p s 0 0 frames S).1) (lkRs p s (stackG p s 0 0 frames S).2) en hq]  Tryz.func127 rfl Tryz.ntmps127 (by simp) Tryz.results127 rfl (insLk _ _ _) ?_
  refine rnst ?_
  (any_goals refine go lv127 0 ?_)
  repeat' (first | (refine Br.go (fun h h' => ?_) (fun h h' => ?_)) | (refine Br.mk (fun h => ?_) (fun h => ?_)))
  all_goals (try simp only [go_sem])
  all_goals clear hq en hS hl hfs l0 l1 w1 hl2 hp hn
  all_goals
    first
    | (have hH : headF p s ⟨frames, state, on, (vk, vn)⟩ = false := by
        rw [headF_eq]
        generalize (decide (state = 3) || decide (state = 4)) = o at *
        generalize decide ((frames.length : Int) = 0) = e at *
        generalize (decide (vk = 0) && decide (vn = 0)) = v at *
        generalize fitsF s (vk, vn) = f at *
        generalize decide (0 ≤ state ∧ state ≤ 4) = w at *
        cases o <;> cases e <;> cases v <;> cases f <;> cases w <;> (first | (refine False.elim ?_; simp at *; done) | (simp [*]; done))
       have hT : threadG p s ⟨frames, state, on, (vk, vn)⟩ S = (false, S) := by unfold threadG; rw [hH]; rfl
       rw [hT]
       exact ⟨rfl, rfl⟩)
    | (have hH : headF p s ⟨frames, state, on, (vk, vn)⟩ = true := by
        rw [headF_eq]
        generalize (decide (state = 3) || decide (state = 4)) = o at *
        generalize decide ((frames.length : Int) = 0) = e at *
        generalize (decide (vk = 0) && decide (vn = 0)) = v at *
        generalize fitsF s (vk, vn) = f at *
        generalize decide (0 ≤ state ∧ state ≤ 4) = w at *
        cases o <;> cases e <;> cases v <;> cases f <;> cases w <;> (first | (refine False.elim ?_; simp at *; done) | (simp [*]; done))
       have hT : threadG p s ⟨frames, state, on, (vk, vn)⟩ S = stackG p s 0 0 frames S := by unfold threadG; rw [if_pos hH]
       rw [hT]
       exact ⟨rfl, rfl⟩)
    | skip
theorem stackG_WI {p : ProgT} {s : StateT} : ∀ {fs : List FrameT} {k : Nat} {low : Int} {S : List Int}, (∀ f ∈ fs, Gwf f) → (∀ g ∈ S, WI g) → ∀ g ∈ (stackG p s k low fs S).2, WI g
 | [], _, _, _, _, hS => hS
 | f :: fs, k, low, S, hf, hS => by
  have h1 := fun g hg => hf g (List.mem_cons_of_mem f hg)
  unfold stackG
  split
  ·split
   ·split
    ·exact stackG_WI h1 fun g hg => (List.mem_cons.1 hg).elim (fun e => e ▸ (hf f (List.mem_cons_self ..)).gen) (hS g)
    ·exact hS
   ·exact stackG_WI h1 hS
  ·exact hS
theorem threadG_WI {p : ProgT} {s : StateT} {t : ThreadT} {S : List Int} (hf : ∀ f ∈ t.frames, Gwf f) (hS : ∀ g ∈ S, WI g) : ∀ g ∈ (threadG p s t S).2, WI g := by
 unfold threadG
 split
 ·exact stackG_WI hf hS
 ·exact hS
noncomputable def thrI (p : ProgT) (s : StateT) : Nat → List ThreadT → List Int → Int × List Int
 | _, [], S => (-1, S)
 | k, t :: ts, S => if (threadG p s t S).1 = true then thrI p s (k + 1) ts (threadG p s t S).2 else ((k : Int), (threadG p s t S).2)
theorem thrI_G (p : ProgT) (s : StateT) : ∀ (ts : List ThreadT) (k : Nat) (S : List Int), decide (0 ≤ (thrI p s k ts S).1) = !(threadsG p s ts S).1 ∧ (thrI p s k ts S).2 = (threadsG p s ts S).2
 | [], _, _ => ⟨rfl, rfl⟩
 | t :: ts, k, S => by
  unfold thrI threadsG
  by_cases h : (threadG p s t S).1 = true
  ·rw [if_pos h, if_pos h]; exact thrI_G p s ts _ _
  ·rw [if_neg h, if_neg h]
   exact ⟨by simp, rfl⟩
noncomputable abbrev lkRb (p : ProgT) (s : StateT) (S : List Int) : List (Nat × Nat × Res) := [(0, 0, .bx (lkC p s)), (1, 0, .mp (seenI S) S.length), (10, 0, .bx [.os 0 0])]
theorem lkRb_at (p : ProgT) (s : StateT) (S : List Int) (k : Nat) : lookR k (lkRb p s S) = if k = 0 then (0, .bx (lkC p s)) else if k = 1 then (0, .mp (seenI S) S.length) else if k = 10 then (0, .bx [.os 0 0]) else (0, .gone) := rfl
theorem insLkb (p : ProgT) (s : StateT) (S : List Int) (k : Nat) : withinRes (domR (lkRb p s S)) (lookR k (lkRb p s S)).2 := by
 rw [lkRb_at]
 split
 ·rfl
 ·split
  ·trivial
  ·split
   ·rfl
   ·trivial
theorem lkb_Q {p : ProgT} {s : StateT} {S S2 : List Int} {f : Nat} {args : List AV} {r : AV} (h : FC Cx f args (lkRb p s S) r (lkRb p s S2)) (ha : withinL (fun k => k == 0 || k == 1 || k == 10) args = true) (hr : within none0 r = true) (v0 v1 v2 a b c : Nat) (hab : (a == b || a == c || b == c) = false) :
  QOk (C := Cx) f [(0, a, v0), (1, b, v1), (10, c, v2)] args (lkRb p s S) r (lkRb p s S2) := by
 have hd : ∀ S, domR (lkRb p s S) = fun k => k == 0 || k == 1 || k == 10 := fun S => by
  funext k
  unfold domR
  rw [lkRb_at]
  by_cases h0 : k = 0
  ·subst h0; rfl
  ·by_cases h1 : k = 1
   ·subst h1; rfl
   ·by_cases h2 : k = 10
    ·subst h2; rfl
    ·rw [if_neg h0, if_neg h1, if_neg h2]; simp [h0, h1, h2]
 have hab' : (a ≠ b ∧ a ≠ c) ∧ b ≠ c := by simpa using hab
 have hi : ∀ S, ∀ q ∈ lkRb p s S, withinRes (fun k => k == 0 || k == 1 || k == 10) q.2.2 := fun S q hq => by
  rcases List.mem_cons.1 hq with rfl | hq
  ·rfl
  ·rcases List.mem_cons.1 hq with rfl | hq
   ·trivial
   ·obtain rfl := List.mem_singleton.1 hq; rfl
 exact ⟨h, rfl, by simp [ndB, memN, hab'], rfl, by rw [hd]; exact ha, within_none hr, by rw [hd]; exact hi S, by rw [hd]; exact hi S2⟩
theorem right2_c (p : ProgT) (s : StateT) (t : ThreadT) (S : List Int) (hp : Pgo p) (hn : 0 < p.fns.length) (hfs : ∀ f ∈ t.frames, Gwf f) (hl : t.frames.length ≤ 9223372036854775807) (hl2 : s.threads.length ≤ 9223372036854775807) (hS : ∀ g ∈ S, WI g) :
  FC Cx 126 [threadA t, .os 10 0] (lkRb p s S) (Bv (!(threadG p s t S).1)) (lkRb p s (threadG p s t S).2) := by
 have hq := lk_Q (thread_c p s t S hp hn hfs hl hl2 hS) rfl rfl 0 0 0 1 rfl
 have en : Enters Cx.P 127 := en127
 refine FCm_of [ctQ 127 [(0, 0, 0), (1, 1, 0)] [.os 0 0, threadA t] (lkRs p s S) (Bv (threadG p s t S).1) (lkRs p s (threadG p s t S).2) en hq]  Tryz.func126 rfl Tryz.ntmps126 (by simp) Tryz.results126 rfl (insLkb _ _ _) ?_
 refine rnst ?_
 (any_goals refine go lv126 0 ?_)
 all_goals (try simp only [go_sem])
theorem idxThr_c (p : ProgT) (s : StateT) (ts : List ThreadT) (S : List Int) (hp : Pgo p) (hn : 0 < p.fns.length) (hfs : ∀ t ∈ ts, t.frames.length ≤ 9223372036854775807 ∧ ∀ f ∈ t.frames, Gwf f) (hl : ts.length ≤ 9223372036854775807) (hl2 : s.threads.length ≤ 9223372036854775807) (hS : ∀ g ∈ S, WI g) :
  FC Cx 122 [threadsV ts, .cl 126 [.os 10 0]] (lkRb p s S) (Iv (thrI p s 0 ts S).1) (lkRb p s (thrI p s 0 ts S).2) := by
 have l1 : (ts.map threadR).length = ts.length := List.length_map ..
 have en : Enters Cx.P 126 := en126
 refine FCm_of []  Tryz.func122 rfl Tryz.ntmps122 (by simp) Tryz.results122 rfl (insLkb _ _ _) ?_
 refine rnst ?_
 (any_goals refine go lv122 0 ?_)
 refine Rn_loopS (fun x : Nat × List Int => x.1 ≤ ts.length ∧ (∀ g ∈ x.2, WI g) ∧ thrI p s 0 ts S = thrI p s x.1 (ts.drop x.1) x.2) (fun x => ⟨19, [(0, threadsV ts), (1, .cl 126 [.os 10 0]), (7, Iv ts.length), (8, Iv x.1)], lkRb p s x.2⟩) (fun x => ts.length - x.1) (0, S) ⟨Nat.zero_le _, hS, rfl⟩ ?_
 rintro ⟨i, S'⟩ ⟨hi, hS', hG⟩
 dsimp only at hi hS' hG ⊢
 by_cases hlt : i < ts.length
 case neg =>
  obtain rfl : i = ts.length := by omega
  have e1 : decide ((ts.length : Int) < (ts.length : Int)) = false := by rw [decide_eq_false_iff_not]; omega
  rw [List.drop_length] at hG
  have hG' : thrI p s 0 ts S = (-1, S') := hG
  rw [hG']
  clear hG hG'
  (any_goals refine go lv122 0 ?_)
  all_goals (try simp only [go_sem])
 have e1 : decide ((i : Int) < (ts.length : Int)) = true := by rw [decide_eq_true_eq]; omega
 have t1 : Int.toNat (i : Int) = i := by omega
 have w1 : IntKind.i64.wrap ((i : Int) + 1) = ((i + 1 : Nat) : Int) := by rw [wrap_id] <;> omega
 obtain ⟨t, ht⟩ : ∃ v, ts[i]? = some v := ⟨ts[i], List.getElem?_eq_getElem hlt⟩
 have hg := getD_map threadR ht ([] : List RV)
 have hwf := hfs t (List.mem_of_getElem? ht)
 have hd : ts.drop i = t :: ts.drop (i + 1) := by rw [← List.getElem_cons_drop hlt]; congr 1; exact (List.getElem?_eq_some_iff.1 ht).2
 rw [hd] at hG
 have hq := lkb_Q (right2_c p s t S' hp hn hwf.2 hwf.1 hl2 hS') rfl rfl 0 0 0 0 1 10 rfl
 have hS2 := threadG_WI (p := p) (s := s) hwf.2 hS'
 refine Rn_T [ctQ 126 [(0, 0, 0), (1, 1, 0), (10, 10, 0)] [threadA t, .os 10 0] (lkRb p s S') (Bv (!(threadG p s t S').1)) (lkRb p s (threadG p s t S').2) en hq] ?_
 have hT : thrI p s i (t :: ts.drop (i + 1)) S' = if (threadG p s t S').1 = true then thrI p s (i + 1) (ts.drop (i + 1)) (threadG p s t S').2 else ((i : Int), (threadG p s t S').2) := rfl
 rw [hT] at hG
 clear hT hd
 rcases Bool.eq_false_or_eq_true (threadG p s t S').1 with hb | hb
 ·rw [if_pos hb] at hG
  (any_goals refine go lv122 0 ?_)
  refine ⟨(i + 1, (threadG p s t S').2), ⟨by dsimp only; omega, hS2, hG⟩, by dsimp only; omega, ?_⟩
  dsimp only
  exact Le_subA
 ·rw [if_neg (by rw [hb]; simp)] at hG
  rw [hG]
  clear hG
  (any_goals refine go lv122 0 ?_)
  all_goals (try simp only [go_sem])
theorem anyThr_c (p : ProgT) (s : StateT) (ts : List ThreadT) (S : List Int) (hp : Pgo p) (hn : 0 < p.fns.length) (hfs : ∀ t ∈ ts, t.frames.length ≤ 9223372036854775807 ∧ ∀ f ∈ t.frames, Gwf f) (hl : ts.length ≤ 9223372036854775807) (hl2 : s.threads.length ≤ 9223372036854775807) (hS : ∀ g ∈ S, WI g) :
  FC Cx 58 [threadsV ts, .cl 126 [.os 10 0]] (lkRb p s S) (Bv (!(threadsG p s ts S).1)) (lkRb p s (threadsG p s ts S).2) := by
 have hq := lkb_Q (idxThr_c p s ts S hp hn hfs hl hl2 hS) rfl rfl 0 0 0 0 1 10 rfl
 have en : Enters Cx.P 122 := en122
 obtain ⟨h1, h2⟩ := thrI_G p s ts 0 S
 rw [← h1, ← h2]
 clear h1 h2
 refine FCm_of [ctQ 122 [(0, 0, 0), (1, 1, 0), (10, 10, 0)] [threadsV ts, .cl 126 [.os 10 0]] (lkRb p s S) (Iv (thrI p s 0 ts S).1) (lkRb p s (thrI p s 0 ts S).2) en hq]  Tryz.func58 rfl Tryz.ntmps58 (by simp) Tryz.results58 rfl (insLkb _ _ _) ?_
 refine rnst ?_
 (any_goals refine go lv58 0 ?_)
 all_goals (try simp only [go_sem])
theorem right1_c (p : ProgT) (s : StateT) (c : CellT) (hp : Pgo p) (hc : Cwf c) (h4 : c.kind = 4 → 0 ≤ c.num) (h5 : c.kind = 5 → c.num = 0 → c.frames.length = 1) : FC Cx 124 [cellA c, .r (.rp [.rp (lkR p s)])] [] (Bv (!heapF p s c)) [] := by
 have hA : ∀ y, y = [lkP p s, cellA c] → CallOk Cx 125 y (Bv (heapF p s c)) := fun y hy => by
  subst hy; exact CallOk_of (heap_c p s c hp hc h4 h5) en125 rfl rfl
 refine FCp_st [ctE 125 [lkP p s, cellA c] (Bv (heapF p s c)) hA] Tryz.func124 Tryz.ntmps124 Tryz.results124 ?_
 refine goR ?_
 refine fzB 2 ?_
 (any_goals refine go lv124 0 ?_)
 all_goals (try simp only [go_sem])
theorem cell_num {s : StateT} {c : CellT} (h : cellF s c = true) : (c.kind = 4 → 0 ≤ c.num) ∧ (c.kind = 5 → c.num = 0 → c.frames.length = 1) := by
 unfold cellF at h
 simp only [Bool.and_eq_true, decide_eq_true_eq] at h
 obtain ⟨⟨⟨⟨⟨_, h1⟩, _⟩, h2⟩, _⟩, _⟩ := h
 refine ⟨fun k4 => ?_, fun k5 n0 => ?_⟩
 ·unfold numF at h1
  rw [if_neg (by omega), if_pos k4] at h1
  simpa using h1
 ·unfold framesN at h2
  rw [if_pos ⟨k5, n0⟩] at h2
  omega
theorem checkS_cells {s : StateT} (h : checkS s = 0) : Sok s ∧ ∀ c ∈ s.cells, cellF s c = true := by
 unfold checkS at h
 split at h
 ·cases h
 rename_i h0
 split at h
 ·rename_i h1; exact absurd h h1
 split at h
 ·cases h
 rename_i h2
 refine ⟨large_no (by simpa using h0), fun c hc => ?_⟩
 simp only [Bool.or_eq_true, not_or] at h2
 have := h2.2
 simp only [List.any_eq_true, not_exists, not_and] at this
 simpa using this c hc
def preS (p : ProgT) (s : StateT) : Bool := decide (p.texts.length ≤ s.texts.length) && decide (s.texts.take p.texts.length = p.texts) && decide (0 ≤ s.steps ∧ s.steps ≤ 1000000000) && decide (0 ≤ s.asked ∧ s.asked ≤ 1000000000) && !decide (s.threads.length = 0)
noncomputable def runsS (s : StateT) (S : List Int) : Bool := s.cells.zipIdx.all fun x => !(decide (x.1.kind = 5) && decide (x.1.num = 1)) || decide ((x.2 : Int) ∈ S)
noncomputable def rightG (p : ProgT) (s : StateT) : Bool × List Int := if (preS p s && s.cells.all (heapF p s)) = true then ((threadsG p s s.threads []).1 && runsS s (threadsG p s s.threads []).2, (threadsG p s s.threads []).2) else (false, [])
theorem rightG_1 (p : ProgT) (s : StateT) : (rightG p s).1 = rightS p s := by
 unfold rightG rightS
 rw [show (decide (p.texts.length ≤ s.texts.length) && decide (s.texts.take p.texts.length = p.texts) && decide (0 ≤ s.steps ∧ s.steps ≤ 1000000000) && decide (0 ≤ s.asked ∧ s.asked ≤ 1000000000) && !decide (s.threads.length = 0)) = preS p s from rfl]
 cases hb : (preS p s && s.cells.all (heapF p s)) with
 | false => simp
 | true => simp [runsS]
theorem runsS_yes {s : StateT} {S : List Int} (h : ∀ (j : Nat) (c : CellT), s.cells[j]? = some c → (decide (c.kind = 5) && decide (c.num = 1)) = true → (j : Int) ∈ S) : runsS s S = true := by
 unfold runsS
 refine List.all_eq_true.2 fun x hx => ?_
 obtain ⟨c, k⟩ := x
 rw [List.mem_zipIdx_iff_getElem?] at hx
 dsimp only
 cases hb : decide (c.kind = 5) && decide (c.num = 1) with
 | false => rfl
 | true => simp [h k c hx hb]
theorem runsS_no {s : StateT} {S : List Int} {j : Nat} {c : CellT} (hj : s.cells[j]? = some c) (hb : (decide (c.kind = 5) && decide (c.num = 1)) = true) (h : (j : Int) ∉ S) : runsS s S = false := by
 unfold runsS
 rw [Bool.eq_false_iff]
 intro hall
 have := List.all_eq_true.1 hall (c, j) (by rw [List.mem_zipIdx_iff_getElem?]; exact hj)
 dsimp only at this
 rw [hb] at this
 simp at this
 exact h this
theorem threadsG_WI {p : ProgT} {s : StateT} : ∀ {ts : List ThreadT} {S : List Int}, (∀ t ∈ ts, ∀ f ∈ t.frames, Gwf f) → (∀ g ∈ S, WI g) → ∀ g ∈ (threadsG p s ts S).2, WI g
 | [], _, _, hS => hS
 | t :: ts, S, hf, hS => by
  unfold threadsG
  split
  ·exact threadsG_WI (fun u hu => hf u (List.mem_cons_of_mem _ hu)) (threadG_WI (hf t (List.mem_cons_self ..)) hS)
  ·exact threadG_WI (hf t (List.mem_cons_self ..)) hS
theorem WI_nat {k : Nat} (h : k ≤ 300) : WI (k : Int) := by
 have h1 : IntKind.i64.min = -9223372036854775808 := rfl
 have h2 : IntKind.i64.max = 9223372036854775807 := rfl
 show (decide (IntKind.i64.min ≤ (k : Int)) && decide ((k : Int) ≤ IntKind.i64.max)) = true
 rw [h1, h2]
 simp only [Bool.and_eq_true, decide_eq_true_eq]
 omega
abbrev lkD (p : ProgT) (s : StateT) : List AV := [.r (.rs 5 (p.fns.map fnR)), .r (.rs 2 (p.consts.map valR)), .r (.rs 1 (p.texts.map strR)), .r (.rp (stateR s)), .r (.rs 1 (p.fns.map fun f => [outR f])), .r (.rs 1 (p.fns.map fun f => [seenR f])), .os 2001 0]
noncomputable abbrev lkRd (p : ProgT) (s : StateT) (S : List Int) : List (Nat × Nat × Res) := [(2000, 0, .bx (lkD p s)), (2001, 0, .mp (seenI S) S.length)]
theorem lkRd_at (p : ProgT) (s : StateT) (S : List Int) (k : Nat) : lookR k (lkRd p s S) = if k = 2000 then (0, .bx (lkD p s)) else if k = 2001 then (0, .mp (seenI S) S.length) else (0, .gone) := rfl
theorem insLkd (p : ProgT) (s : StateT) (S : List Int) (k : Nat) : withinRes (domR (lkRd p s S)) (lookR k (lkRd p s S)).2 := by
 rw [lkRd_at]
 split
 ·rfl
 ·split <;> trivial
theorem lright_c (p : ProgT) (s : StateT) (hp : Pgo p) (hn : 0 < p.fns.length) (hs : Swf s) (hck : checkS s = 0) :
  FC Cx 61 [.os 2000 0] (lkRd p s []) (Bv (rightG p s).1) (lkRd p s (rightG p s).2) := by
 obtain ⟨hok, hcs⟩ := checkS_cells hck
 have hl := hs.len
 have hl1 := hl.threads
 have hlt := hl.texts
 have l0 : (s.cells.map cellR).length = s.cells.length := List.length_map ..
 have l1 : (s.threads.map threadR).length = s.threads.length := List.length_map ..
 have l2 : (s.texts.map strR).length = s.texts.length := List.length_map ..
 have l3 : (p.texts.map strR).length = p.texts.length := List.length_map ..
 have hA : ∀ y, y = [cellsV s.cells, .r (.fn 124 [.rp [.rp (lkR p s)]])] → CallOk Cx 113 y (Bv (!(s.cells.all (heapF p s)))) := fun y hy => by
  subst hy
  have h := anyCell_c s.cells 124 [.rp [.rp (lkR p s)]] (fun y => ∃ c ∈ s.cells, y = cellA c) (fun y => !heapF p s (cellV y)) (by
   rintro _ ⟨c, hc, rfl⟩
   rw [cellV_A]
   exact CallOk_of (right1_c p s c hp (hs.cell c hc) (cell_num (hcs c hc)).1 (cell_num (hcs c hc)).2) en124 rfl rfl) (fun x hx => ⟨x, hx, rfl⟩) hl.cells
  simp only [cellV_A] at h
  rw [all_any s.cells, Bool.not_not]
  exact CallOk_of h en113 rfl rfl
 have hq := lkb_Q (anyThr_c p s s.threads [] hp hn hs.thread hl1 hl1 (fun _ h => by simp at h)) rfl rfl 0 0 1 2000 2001 1 rfl
 have en : Enters Cx.P 58 := en58
 have hWI := threadsG_WI (p := p) (s := s) (S := []) (fun t ht => (hs.thread t ht).2) (fun _ h => by simp at h)
 by_cases hx : p.texts.length ≤ s.texts.length
 case neg =>
  have d0 : decide ((s.texts.length : Int) < (p.texts.length : Int)) = true := by rw [decide_eq_true_eq]; omega
  have hG : rightG p s = (false, []) := by unfold rightG preS; rw [decide_eq_false hx]; rfl
  rw [hG]
  refine FCm_of [ct_eqStr', ct_swithin, ctE 113 [cellsV s.cells, .r (.fn 124 [.rp [.rp (lkR p s)]])] (Bv (!(s.cells.all (heapF p s)))) hA, ctQ 58 [(0, 2000, 0), (1, 2001, 0), (10, 1, 1)] [threadsV s.threads, .cl 126 [.os 10 0]] (lkRb p s []) (Bv (!(threadsG p s s.threads []).1)) (lkRb p s (threadsG p s s.threads []).2) en hq]  Tryz.func61 rfl Tryz.ntmps61 (by simp) Tryz.results61 rfl (insLkd _ _ _) ?_
  refine rnst ?_
  (any_goals refine go lv61 0 ?_)
  all_goals (try simp only [go_sem])
 have d0 : decide ((s.texts.length : Int) < (p.texts.length : Int)) = false := by rw [decide_eq_false_iff_not]; omega
 have hx' : (p.texts.length : Int) ≤ (s.texts.length : Int) := by omega
 have tn : Int.toNat (p.texts.length : Int) = p.texts.length := by omega
 have k1 : List.drop 0 (List.take p.texts.length (s.texts.map strR)) = (s.texts.take p.texts.length).map strR := by rw [List.map_take]; rfl
 have l4 : ((s.texts.take p.texts.length).map strR).length = p.texts.length := by simp; omega
 have l5 : (s.texts.take p.texts.length).length = p.texts.length := by simp; omega
 refine FCm_of [ct_eqStr', ct_swithin, ctE 113 [cellsV s.cells, .r (.fn 124 [.rp [.rp (lkR p s)]])] (Bv (!(s.cells.all (heapF p s)))) hA, ctQ 58 [(0, 2000, 0), (1, 2001, 0), (10, 1, 1)] [threadsV s.threads, .cl 126 [.os 10 0]] (lkRb p s []) (Bv (!(threadsG p s s.threads []).1)) (lkRb p s (threadsG p s s.threads []).2) en hq]  Tryz.func61 rfl Tryz.ntmps61 (by simp) Tryz.results61 rfl (insLkd _ _ _) ?_
 refine rnst ?_
 (any_goals refine go (dropL 4 lv61) 0 ?_)
 repeat' (first | (refine Br.go (fun h h' => ?_) (fun h h' => ?_)) | (refine Br.mk (fun h => ?_) (fun h => ?_)))
 all_goals (try simp only [go_sem])
 rotate_right
 ·have hP : preS p s = true := by
   have g4 : ¬ s.threads.length = 0 := by omega
   unfold preS
   rw [decide_eq_true hx, Bool.true_and]
   simp only [*]
   simp [g4]
  clear h h' 
  rcases Bool.eq_false_or_eq_true (s.cells.all (heapF p s)) with ha | ha
  ·rcases Bool.eq_false_or_eq_true (threadsG p s s.threads []).1 with hb | hb
   ·have hG : rightG p s = (runsS s (threadsG p s s.threads []).2, (threadsG p s s.threads []).2) := by
     unfold rightG; rw [hP, ha, hb]; rfl
    rw [hG]
    clear hG hP
    generalize (threadsG p s s.threads []).2 = S at *
    (any_goals refine go lv61 0 ?_)
    refine Rn_loopS (fun x : Nat × Nat => x.1 ≤ s.cells.length ∧ ∀ (j : Nat) (c : CellT), j < x.1 → s.cells[j]? = some c → (decide (c.kind = 5) && decide (c.num = 1)) = true → (j : Int) ∈ S)
     (fun x => ⟨124, [(1, .os 1 1), (99, cellsV s.cells), (100, Iv s.cells.length), (101, Iv x.1)], [(2000, 0, .bx (lkD p s)), (2001, 0, .mp (seenI S) S.length), (1, 1, .bx [.os 2000 0]), (5, x.2, .gone)]⟩) (fun x => s.cells.length - x.1) (0, 0) ⟨Nat.zero_le _, fun j c hj => by omega⟩ ?_
    rintro ⟨i, u⟩ ⟨hi, hno⟩
    dsimp only at hi hno ⊢
    have h300 := hok.cells
    by_cases hlt2 : i < s.cells.length
    case neg =>
     obtain rfl : i = s.cells.length := by omega
     have e1 : decide ((s.cells.length : Int) < (s.cells.length : Int)) = false := by rw [decide_eq_false_iff_not]; omega
     have hR := runsS_yes (s := s) (S := S) fun j c hj => hno j c (List.getElem?_eq_some_iff.1 hj).1 hj
     rw [hR]
     clear hno
     (any_goals refine go lv61 0 ?_)
     all_goals (try simp only [go_sem])
    have e1 : decide ((i : Int) < (s.cells.length : Int)) = true := by rw [decide_eq_true_eq]; omega
    have t1 : Int.toNat (i : Int) = i := by omega
    have w1 : IntKind.i64.wrap ((i : Int) + 1) = ((i + 1 : Nat) : Int) := by rw [wrap_id] <;> omega
    obtain ⟨c, hc⟩ : ∃ v, s.cells[i]? = some v := ⟨s.cells[i], List.getElem?_eq_getElem hlt2⟩
    have hg := getD_map cellR hc ([] : List RV)
    have hM : MapOk Tryz.prog 109 (seenI S) (.int .i64 (i : Int)) := seenI_ok hWI (WI_nat (by omega))
    have nx : ((decide (c.kind = 5) && decide (c.num = 1)) = true → (i : Int) ∈ S) → ∀ (j : Nat) (c : CellT), j < i + 1 → s.cells[j]? = some c → (decide (c.kind = 5) && decide (c.num = 1)) = true → (j : Int) ∈ S := fun hin j c' hj hc' hb' => by
     rcases Nat.lt_succ_iff_lt_or_eq.1 hj with h3 | h3
     ·exact hno j c' h3 hc' hb'
     ·subst h3
      rw [hc] at hc'; cases hc'; exact hin hb'
    rcases Bool.eq_false_or_eq_true (decide (c.kind = 5) && decide (c.num = 1)) with hr | hr
    ·by_cases hin : (i : Int) ∈ S
     ·have d6 := seenI_yes hin
      replace nx := nx fun _ => hin
      simp only [Bool.and_eq_true] at hr
      obtain ⟨r1, r2⟩ := hr
      clear hin hno
      (any_goals refine go lv61 0 ?_)
      refine ⟨(i + 1, u + 9), ⟨by dsimp only; omega, nx⟩, by dsimp only; omega, ?_⟩
      dsimp only
      exact Le_subA
     ·have d6 := seenI_no hin
      have hR := runsS_no hc hr hin
      rw [hR]
      simp only [Bool.and_eq_true] at hr
      obtain ⟨r1, r2⟩ := hr
      clear hin hno nx
      (any_goals refine go lv61 0 ?_)
      all_goals (try simp only [go_sem])
    ·replace nx := nx fun h => by rw [hr] at h; cases h
     rcases Bool.eq_false_or_eq_true (decide (c.kind = 5)) with r1 | r1
     ·have r2 : decide (c.num = 1) = false := by rw [r1] at hr; exact hr
      clear hno hr
      (any_goals refine go lv61 0 ?_)
      refine ⟨(i + 1, u + 9), ⟨by dsimp only; omega, nx⟩, by dsimp only; omega, ?_⟩
      dsimp only
      exact Le_subA
     ·clear hno hr
      (any_goals refine go lv61 0 ?_)
      refine ⟨(i + 1, u + 9), ⟨by dsimp only; omega, nx⟩, by dsimp only; omega, ?_⟩
      dsimp only
      exact Le_subA
   ·have hG : rightG p s = (false, (threadsG p s s.threads []).2) := by
     unfold rightG; rw [hP, ha, hb]; rfl
    rw [hG]
    clear hG hP
    (any_goals refine go lv61 0 ?_)
    all_goals (try simp only [go_sem])
  ·have hG : rightG p s = (false, []) := by
    unfold rightG; rw [hP, ha]; rfl
   rw [hG]
   clear hG hP
   (any_goals refine go lv61 0 ?_)
   all_goals (try simp only [go_sem])
 all_goals
  have hG : rightG p s = (false, []) := by
   unfold rightG
   rw [show preS p s = false from by unfold preS; first | (simp [*]; done) | (rw [decide_eq_true (show s.threads.length = 0 by omega)]; simp; done)]
   rfl
  rw [hG]
  exact ⟨rfl, rfl⟩
theorem idxfThread_c (l : List ThreadT) (f : Nat) (caps : List RV) (dom : AV → Prop) (pv : AV → Bool) (h : ∀ y, dom y → CallOk Cx f (y :: caps.map AV.r) (Bv (pv y))) (hd : ∀ x ∈ l, dom (threadA x)) (hl : l.length ≤ 9223372036854775807) :
  FC Cx 122 [threadsV l, .r (.fn f caps)] [] (Iv (fidx (fun x => pv (threadA x)) l)) [] := by
 have hlen : (l.map threadR).length = l.length := List.length_map ..
 refine FCp_st [ctF f caps dom pv h] Tryz.func122 Tryz.ntmps122 Tryz.results122 ?_
 (any_goals refine go lv122 0 ?_)
 refine Rn_loopT [0, 1, 7, 8] (fun i => i ≤ l.length ∧ ∀ j x, j < i → l[j]? = some x → pv (threadA x) = false) (fun (i : Nat) => ⟨19, [(0, threadsV l), (1, .r (.fn f caps)), (7, Iv l.length), (8, Iv i)], []⟩) (fun i => l.length - i) 0 rfl (by rw [← hlen]; rfl) rfl ⟨Nat.zero_le _, fun j x hj => by omega⟩ ?_
 rintro i ⟨hi, hno⟩
 by_cases hlt : i < l.length
 ·obtain ⟨x, hx⟩ : ∃ x, l[i]? = some x := ⟨l[i], List.getElem?_eq_getElem hlt⟩
  have hg := getD_map threadR hx ([] : List RV)
  have hdx := hd x (List.mem_of_getElem? hx)
  have hw : IntKind.i64.wrap ((i : Int) + 1) = ((i + 1 : Nat) : Int) := by rw [wrap_id] <;> omega
  have h1 : decide ((i : Int) < (l.length : Int)) = true := by rw [decide_eq_true_eq]; omega
  have h2 : Int.toNat (i : Int) = i := by omega
  cases hp : pv (threadA x) with
  | true =>
   (any_goals refine go lv122 0 ?_)
   all_goals (try simp only [go_sem])
   rw [fidx_hit hx hp fun j y hj hy => hno j y hj hy]
  | false =>
   (any_goals refine go lv122 0 ?_)
   refine ⟨i + 1, ⟨by omega, fun j y hj hy => ?_⟩, by omega, Le_keep [0, 1, 7, 8] rfl rfl rfl⟩
   rcases Nat.lt_succ_iff_lt_or_eq.1 hj with h3 | h3
   ·exact hno j y h3 hy
   ·subst h3; rw [hx] at hy; cases hy; exact hp
 ·have h1 : decide ((i : Int) < (l.length : Int)) = false := by rw [decide_eq_false_iff_not]; omega
  (any_goals refine go lv122 0 ?_)
  all_goals (try simp only [go_sem])
  rw [fidx_none fun j y hy => hno j y (by have := (List.getElem?_eq_some_iff.1 hy).1; omega) hy]
theorem anyThread_c (l : List ThreadT) (f : Nat) (caps : List RV) (dom : AV → Prop) (pv : AV → Bool) (h : ∀ y, dom y → CallOk Cx f (y :: caps.map AV.r) (Bv (pv y))) (hd : ∀ x ∈ l, dom (threadA x)) (hl : l.length ≤ 9223372036854775807) :
  FC Cx 58 [threadsV l, .r (.fn f caps)] [] (Bv (l.any fun x => pv (threadA x))) [] := by
 have hA : ∀ y, y = [threadsV l, .r (.fn f caps)] → CallOk Cx 122 y (Iv (fidx (fun x => pv (threadA x)) l)) := fun y hy => by
  subst hy; exact CallOk_of (idxfThread_c l f caps dom pv h hd hl) en122 rfl rfl
 refine FCp_st [ctE 122 [threadsV l, .r (.fn f caps)] (Iv (fidx (fun x => pv (threadA x)) l)) hA] Tryz.func58 Tryz.ntmps58 Tryz.results58 ?_
 (any_goals refine go lv58 0 ?_)
 all_goals (try simp only [go_sem])
 all_goals (try rw [fidx_any])
def threadV' : AV → ThreadT
 | .agg [.r (.rs _ fs), .r (.v (.int _ a)), .r (.v (.int _ b)), .r (.v (.int _ k)), .r (.v (.int _ n))] => ⟨framesOf fs, a, b, (k, n)⟩
 | _ => thread0
theorem threadV_A (t : ThreadT) : threadV' (threadA t) = t := by
 show (⟨framesOf (t.frames.map frameR), t.state, t.on, (t.val.1, t.val.2)⟩ : ThreadT) = t
 rw [framesOf_map]
theorem tchk1_c (t : ThreadT) : FC Cx 59 [threadA t] [] (Bv (decide ((30 : Int) < (t.frames.length : Int)))) [] := by
 have l1 : (t.frames.map frameR).length = t.frames.length := List.length_map ..
 refine FCp_st [] Tryz.func59 Tryz.ntmps59 Tryz.results59 ?_
 refine goR ?_
 refine fzB 1 ?_
 (any_goals refine go lv59 0 ?_)
 all_goals (try simp only [go_sem])
theorem lkd_Q {p : ProgT} {s : StateT} {S S2 : List Int} {f : Nat} {args : List AV} {r : AV} (h : FC Cx f args (lkRd p s S) r (lkRd p s S2)) (ha : withinL (fun k => k == 2000 || k == 2001) args = true) (hr : within none0 r = true) (v0 v1 a b : Nat) (hab : (a == b) = false) :
  QOk (C := Cx) f [(2000, a, v0), (2001, b, v1)] args (lkRd p s S) r (lkRd p s S2) := by
 have hd : ∀ S, domR (lkRd p s S) = fun k => k == 2000 || k == 2001 := fun S => by
  funext k
  unfold domR
  rw [lkRd_at]
  by_cases h0 : k = 2000
  ·subst h0; rfl
  ·by_cases h1 : k = 2001
   ·subst h1; rfl
   ·rw [if_neg h0, if_neg h1]; simp [h0, h1]
 have hab' : a ≠ b := by simpa using hab
 have hi : ∀ S, ∀ q ∈ lkRd p s S, withinRes (fun k => k == 2000 || k == 2001) q.2.2 := fun S q hq => by
  rcases List.mem_cons.1 hq with rfl | hq
  ·rfl
  ·obtain rfl := List.mem_singleton.1 hq; trivial
 exact ⟨h, rfl, by simp [ndB, memN, hab'], rfl, by rw [hd]; exact ha, within_none hr, by rw [hd]; exact hi S, by rw [hd]; exact hi S2⟩
theorem check_some {p : ProgT} (h : checkF p = 0) : 0 < p.fns.length := by
 unfold checkF at h
 split at h
 ·cases h
 split at h
 ·cases h
 split at h
 ·cases h
 rename_i h1
 cases hp : p.fns with
 | nil => unfold firstF at h1; rw [hp] at h1; exact absurd rfl h1
 | cons f l => simp
theorem stFault_c (p : ProgT) (s : StateT) (hw : Pwf p) (hs : Swf s) : FC Cx 19 [progV p, stateV s] [] (Iv (faultS p s)) [] := by
 have hl := hs.len
 have hl1 := hl.threads
 have l1 : (s.threads.map threadR).length = s.threads.length := List.length_map ..
 have hA : ∀ y, y = [threadsV s.threads, .r (.fn 59 [])] → CallOk Cx 58 y (Bv (s.threads.any fun t => decide ((30 : Int) < (t.frames.length : Int)))) := fun y hy => by
  subst hy
  have h := anyThread_c s.threads 59 [] (fun y => ∃ t, y = threadA t) (fun y => decide ((30 : Int) < ((threadV' y).frames.length : Int))) (by
   rintro _ ⟨t, rfl⟩
   rw [threadV_A]
   exact CallOk_of (tchk1_c t) en59 rfl rfl) (fun x _ => ⟨x, rfl⟩) hl1
  simp only [threadV_A] at h
  exact CallOk_of h en58 rfl rfl
 unfold faultS
 by_cases hp : checkF p = 0
 case neg =>
  rw [if_pos hp]
  have d0 : decide (checkF p = 0) = false := by simpa using hp
  clear hp
  refine FCp_st [ct_check'] Tryz.func19 Tryz.ntmps19 Tryz.results19 ?_
  refine goR ?_
  refine fzB 2 ?_
  refine fzB 3 ?_
  (any_goals refine go lv19 0 ?_)
  all_goals (try simp only [go_sem])
 rw [if_neg (fun h => h hp)]
 have d0 : decide (checkF p = 0) = true := by simpa using hp
 by_cases hc : checkS s = 0
 case neg =>
  rw [if_pos hc]
  have d1 : decide (checkS s = 0) = false := by simpa using hc
  clear hc hp
  refine FCp_st [ct_check', ct_scheck'] Tryz.func19 Tryz.ntmps19 Tryz.results19 ?_
  refine goR ?_
  refine fzB 2 ?_
  refine fzB 3 ?_
  (any_goals refine go lv19 0 ?_)
  all_goals (try simp only [go_sem])
 rw [if_neg (fun h => h hc)]
 have d1 : decide (checkS s = 0) = true := by simpa using hc
 have hgo := check_go hw hp
 have hq := lkd_Q (lright_c p s hgo (check_some hp) hs hc) rfl rfl 1 1 30 28 rfl
 have en : Enters Cx.P 61 := en61
 have hf60 := hgo.fns
 have hcok := hgo.cok
 have hsn := seenI_nil
 have hr1 := rightG_1 p s
 unfold manyS
 generalize hb2 : (s.threads.any fun t => decide ((30 : Int) < (t.frames.length : Int))) = b2 at *
 clear hc hp
 refine FCp_st [ct_check', ct_scheck', ct_All', ctE 58 [threadsV s.threads, .r (.fn 59 [])] (Bv b2) hA, ctQ 61 [(2000, 30, 1), (2001, 28, 1)] [.os 2000 0] (lkRd p s []) (Bv (rightG p s).1) (lkRd p s (rightG p s).2) en hq] Tryz.func19 Tryz.ntmps19 Tryz.results19 ?_
 refine goR ?_
 refine fzB 2 ?_
 refine fzB 3 ?_
 (any_goals refine go lv19 0 ?_)
 repeat' (first | (refine Br.go (fun h h' => ?_) (fun h h' => ?_)) | (refine Br.mk (fun h => ?_) (fun h => ?_)))
 all_goals (try simp only [go_sem])
 ·rw [if_pos (by assumption)]
 ·rename_i h1 _
  rw [h1, h']; rfl
 ·rename_i h1 _
  rw [h1, h']; rfl
theorem stFault'_c (xs ys zs : List (List RV)) (ca sh tx th en sd : List (List RV)) (aq sq : Int) (h : ((xs = (fnsOf xs).map fnR ∧ ys = (valsOf ys).map valR ∧ zs = (strsOf zs).map strR) ∧ ca = (cellsOf ca).map cellR ∧ sh = (valsOf sh).map valR ∧ tx = (strsOf tx).map strR ∧ th = (threadsOf th).map threadR ∧ en = (endsOf en).map endR ∧ sd = (valsOf sd).map valR) ∧ Pwf ⟨fnsOf xs, valsOf ys, strsOf zs⟩ ∧ Swf ⟨cellsOf ca, valsOf sh, strsOf tx, threadsOf th, endsOf en, valsOf sd, aq, sq⟩) : FC Cx 19 [.agg [.r (.rs 5 xs), .r (.rs 2 ys), .r (.rs 1 zs)], .agg [.r (.rs 4 ca), .r (.rs 2 sh), .r (.rs 1 tx), .r (.rs 5 th), .r (.rs 3 en), .r (.rs 2 sd), Iv aq, Iv sq]] [] (Iv (faultS ⟨fnsOf xs, valsOf ys, strsOf zs⟩ ⟨cellsOf ca, valsOf sh, strsOf tx, threadsOf th, endsOf en, valsOf sd, aq, sq⟩)) [] := by
 have := stFault_c ⟨fnsOf xs, valsOf ys, strsOf zs⟩ ⟨cellsOf ca, valsOf sh, strsOf tx, threadsOf th, endsOf en, valsOf sd, aq, sq⟩ h.2.1 h.2.2
 rwa [prog_at h.1.1, state_at _ _ _ _ _ _ _ _ h.1.2] at this
def sp_stFault' (args : List AV) (K : AV → Prop) : Prop := match args with
 | [.agg [.r (.rs 5 xs), .r (.rs 2 ys), .r (.rs 1 zs)], .agg [.r (.rs 4 ca), .r (.rs 2 sh), .r (.rs 1 tx), .r (.rs 5 th), .r (.rs 3 en), .r (.rs 2 sd), .r (.v (.int .i64 aq)), .r (.v (.int .i64 sq))]] => (((xs = (fnsOf xs).map fnR ∧ ys = (valsOf ys).map valR ∧ zs = (strsOf zs).map strR) ∧ ca = (cellsOf ca).map cellR ∧ sh = (valsOf sh).map valR ∧ tx = (strsOf tx).map strR ∧ th = (threadsOf th).map threadR ∧ en = (endsOf en).map endR ∧ sd = (valsOf sd).map valR) ∧ Pwf ⟨fnsOf xs, valsOf ys, strsOf zs⟩ ∧ Swf ⟨cellsOf ca, valsOf sh, strsOf tx, threadsOf th, endsOf en, valsOf sd, aq, sq⟩) ∧ K (Iv (faultS ⟨fnsOf xs, valsOf ys, strsOf zs⟩ ⟨cellsOf ca, valsOf sh, strsOf tx, threadsOf th, endsOf en, valsOf sd, aq, sq⟩))
 | _ => False
noncomputable abbrev ct_stFault' : Ct Cx := .pure 19 sp_stFault' fun args K h => by
 unfold sp_stFault' at h; split at h; exact ⟨_, CallOk_of (stFault'_c _ _ _ _ _ _ _ _ _ _ _ h.1) en19 rfl rfl, h.2⟩; exact h.elim
@[go_sem] theorem sp_stFault'_eq : type_of% @sp_stFault'.eq_def := @sp_stFault'.eq_def
theorem each_at {α : Type} (f : α → List RV) (l : List α) {i : Nat} (h : i < l.length) (hl : l.length ≤ 9223372036854775807) : ∃ x, l[i]? = some x ∧ (l.map f).getD i [] = f x ∧ decide ((i : Int) < (l.length : Int)) = true ∧ Int.toNat (i : Int) = i ∧ IntKind.i64.wrap ((i : Int) + 1) = ((i + 1 : Nat) : Int) := by
 have hx : l[i]? = some l[i] := List.getElem?_eq_getElem h
 refine ⟨l[i], hx, getD_map f hx _, by rw [decide_eq_true_eq]; omega, by omega, by rw [wrap_id] <;> omega⟩
theorem each_end {α : Type} (l : List α) : decide ((l.length : Int) < (l.length : Int)) = false := by rw [decide_eq_false_iff_not]; omega
structure Wide (f f' : FnT) : Prop where
 params : f'.params = f.params
 regs : f.regs ≤ f'.regs
 gen : f'.gen = f.gen
 caught : f'.caught = f.caught
 code : f'.code = f.code
theorem Wide.rfl {f : FnT} : Wide f f := ⟨_root_.rfl, Int.le_refl _, _root_.rfl, _root_.rfl, _root_.rfl⟩
theorem check_iff {p : ProgT} : checkF p = 0 ↔ largeF p = false ∧ tablesF p = true ∧ firstF p = true ∧ ∀ f ∈ p.fns, functionF p f = true := by
 unfold checkF
 constructor
 ·intro h
  split at h
  ·cases h
  ·rename_i h1
   split at h
   ·cases h
   ·rename_i h2
    split at h
    ·cases h
    ·rename_i h3
     split at h
     ·cases h
     ·rename_i h4
      refine ⟨by simpa using h1, by simpa using h2, by simpa using h3, fun f hf => ?_⟩
      cases hq : functionF p f with
      | true => rfl
      | false => exact (h4 (List.any_eq_true.2 ⟨f, hf, by rw [hq]; rfl⟩)).elim
 ·rintro ⟨h1, h2, h3, h4⟩
  rw [if_neg (by rw [h1]; simp), if_neg (by rw [h2]; simp), if_neg (by rw [h3]; simp), if_neg]
  intro h5
  obtain ⟨f, hf, hn⟩ := List.any_eq_true.1 h5
  rw [h4 f hf] at hn; cases hn
theorem large_iff {p : ProgT} : largeF p = false ↔ p.fns.length ≤ 60 ∧ p.consts.length ≤ 200 ∧ p.texts.length ≤ 200 ∧ (∀ s ∈ p.texts, s.size ≤ 200) ∧ ∀ f ∈ p.fns, f.code.length ≤ 600 ∧ f.regs ≤ 60 := by
 simp only [largeF, Bool.or_eq_false_iff, decide_eq_false_iff_not, List.any_eq_false, bigS, bigF, decide_eq_true_eq, Bool.or_eq_true]
 constructor
 ·rintro ⟨⟨⟨⟨h1, h2⟩, h3⟩, h4⟩, h5⟩
  exact ⟨by omega, by omega, by omega, fun s hs => by have := h4 s hs; omega, fun f hf => by have := h5 f hf; omega⟩
 ·rintro ⟨h1, h2, h3, h4, h5⟩
  exact ⟨⟨⟨⟨by omega, by omega⟩, by omega⟩, fun s hs => by have := h4 s hs; omega⟩, fun f hf => by have := h5 f hf; omega⟩
theorem tables_iff {p : ProgT} : tablesF p = true ↔ 19 ≤ p.texts.length ∧ p.texts.take 19 = wordsL ∧ p.texts.Nodup ∧ ∀ v ∈ p.consts, badV p v = false := by
 simp only [tablesF, Bool.and_eq_true, decide_eq_true_eq, Bool.not_eq_true', List.any_eq_false, Bool.not_eq_true]
 exact ⟨fun ⟨⟨⟨a, b⟩, c⟩, d⟩ => ⟨a, b, c, d⟩, fun ⟨a, b, c, d⟩ => ⟨⟨⟨a, b⟩, c⟩, d⟩⟩
section
variable {p : ProgT}
end
theorem ref_on {s : StateT} {n q : Int} (h : refF s (5, n) q = true) : 0 ≤ n ∧ n < (s.cells.length : Int) ∧ (s.cells.getD n.toNat cell0).kind = q := by
 unfold refF at h
 simp only [Bool.and_eq_true, decide_eq_true_eq] at h
 exact ⟨h.1.1.2, h.1.2, h.2⟩
section
variable {C : Ctx} {T : List (Ct C)} {L : List (Nat × List Nat)} {n : Nat} {B B1 B2 : Prop} {r r' r'' : List It} {st st' : St} {K : Exit → St → Prop} {A : St → Prop}
variable {k k' : Nat} {done done' : List (Nat × Nat)} {o : Oper} {l : List Oper} {j d d' : Nat} {b w q : Bool} {x : AV}
variable {fps fps' : List (List Loc × List Loc)} {edges : List (List Nat)} {rds : List Loc} {ws : List (Loc × Cont)}
theorem goN (L : List (Nat × List Nat)) (n : Nat) (hb : B)
  (h : Gw T L n B (Rn C T r st K) := by
   repeat' (first | (focus (intro K0; (try simp only [go_sem, *]); (first | exact ⟨id⟩ | (refine ⟨fun h => ?_⟩; (repeat' (first | exact h | refine And.intro ?_ ?_ | omega | rfl)); done)))) | (apply Gw.seq) | (apply Gw.block) | (apply Gw.region; (exact rfl)) | (apply Gw.op; (exact rfl)) | (apply Gw.onil) | ((first | apply Gw.g | apply Gw.dg); (exact rfl); (exact rfl); (focus (intro K0; (try simp only [lookT, ev, Nat.reduceEqDiff, ↓reduceIte]); exact ⟨id⟩))) | (with_reducible (first | apply Gw.yes | apply Gw.dyes)) | ((with_reducible (first | apply Gw.tno | apply Gw.fno | apply Gw.un | apply Gw.dtno | apply Gw.dfno | apply Gw.dun)); (exact rfl)) | ((first | apply Gw.never | apply Gw.dnever); (focus (intro K0; (try simp only [go_sem]); exact ⟨id⟩)); (exact rfl)) | ((first | apply Gw.lazy | apply Gw.dlazy); (exact rfl); (focus (intro K0; (try simp only [go_sem]); exact ⟨id⟩)); (focus (first | (simp only [Nat.reduceLT]; done) | omega)); (focus (intro hw0; (try simp only [Bool.and_eq_true, Bool.not_eq_true', beq_true', beq_false'] at hw0); (focus (intro K0; (try simp only [go_sem, *]); (first | exact ⟨id⟩ | (refine ⟨fun h => ?_⟩; (repeat' (first | exact h | refine And.intro ?_ ?_ | omega | rfl)); done))))))) | (apply Gw.c; (focus (intro K0; (try simp only [lookT, ev, Nat.reduceEqDiff, ↓reduceIte]); exact ⟨id⟩))) | (with_reducible (first | apply Gw.ct | apply Gw.cf)) | (apply Gw.unroll) | (apply Gw.skip) | (apply Gw.exit rfl) | (apply Gw.bb) | (apply Gw.drawn; (exact rfl)) | (apply Gw.dop; (exact rfl)) | (apply Gw.dnil (by kernel_rfl)) | ((with_reducible (first | apply Gw.gsplit | apply Gw.dsplit | apply Gw.csplit)) <;> (first | (intro h; (have h' := h); (try simp only [decide_eq_true_eq, decide_eq_false_iff_not, Bool.not_eq_true', Bool.not_eq_false', Bool.and_eq_true, Bool.or_eq_true, Bool.or_eq_false_iff, beq_iff_eq, bne_iff_ne, ne_eq, Bool.not_true, Bool.not_false, not_false_eq_true, reduceCtorEq, beq_eq_false_iff_ne, bne_eq_false_iff_eq] at h'); (first | apply Gw.stt | apply Gw.dstt | done)) | skip)) | (apply Gw.outck rfl rfl) | (apply Gw.out rfl) | (apply Gw.tret) | (apply Gw.tout rfl) | (apply Gw.tthru rfl) | (first | apply Gw.nilthen) | (apply Gw.ls) | (apply Gw.nil))
   all_goals (first | exact Gw.leaf | exact True)) : Rn C T r st K := h.run hb
end
abbrev valC (v : Int × Int) : List AV := [Iv v.1, Iv v.2]
abbrev strC (s : ByteArray) : List AV := [Sv s]
theorem flatValC (l : List (Int × Int)) : ∀ row ∈ l.map valC, withinL none0 row = true := fun row h => by
 obtain ⟨x, _, rfl⟩ := List.mem_map.1 h; rfl
@[go_sem] theorem roValC (l : List (Int × Int)) : ((l.map valR).map fun r => r.map AV.r) = l.map valC := by rw [List.map_map]; rfl
theorem cloneValP_rows (xs : List (List RV)) : ∀ row ∈ (valsOf xs).map valC, withinL none0 row = true := flatValC _
theorem cloneValP_c (xs : List (List RV)) (h : xs = (valsOf xs).map valR ∧ xs.length ≤ 1000000000) : FC Cx 27 [.r (.rs 2 xs)] [] (.os 0 1) [(0, 1, .sl 50 2 ((valsOf xs).map valC))] := by
 have hl : (valsOf xs).length = xs.length := by simp [valsOf]
 have hlenS : ∀ l : List (Int × Int), (l.map valC).length = l.length := fun l => List.length_map ..
 obtain ⟨h1, h2⟩ := h
 generalize valsOf xs = l at h1 hl
 subst h1
 rw [← hl] at h2
 refine FCo_of [] (i := 0) [.os 0 1] Tryz.func27 rfl Tryz.ntmps27 (by simp) Tryz.results27 (flatValC _) ?_
 refine rnst ?_
 iterate 8 (any_goals (first | (focus (intro K0; (try simp only [go_sem, *]); (first | exact ⟨id⟩ | (refine ⟨fun h => ?_⟩; (repeat' (first | exact h | refine And.intro ?_ ?_ | omega | rfl)); done)))) | (refine Rn_seq ?_) | (refine Rn_block ?_) | (apply Rn_region' lv27; (exact rfl)) | (refine Rn_region ?_) | (apply Rn_op'; (exact rfl)) | (refine Rn_o_nil ?_) | ((first | apply Rn_g | apply Rd_g); (exact rfl); (exact rfl); (focus (intro K0; (try simp only [lookT, ev, Nat.reduceEqDiff, ↓reduceIte]); exact ⟨id⟩))) | (with_reducible (first | apply RnG_yes | apply RdG_yes)) | ((with_reducible (first | apply RnG_t_no | apply RnG_f_no | apply RnG_un | apply RdG_t_no | apply RdG_f_no | apply RdG_un)); (exact rfl)) | ((first | apply RnG_never | apply RdG_never); (focus (intro K0; (try simp only [go_sem]); exact ⟨id⟩)); (exact rfl)) | ((first | apply RnG_lazy | apply RdG_lazy); (exact rfl); (focus (intro K0; (try simp only [go_sem]); exact ⟨id⟩)); (focus (first | (simp only [Nat.reduceLT]; done) | omega)); (focus (intro hw0; (try simp only [Bool.and_eq_true, Bool.not_eq_true', beq_true', beq_false'] at hw0); (focus (intro K0; (try simp only [go_sem, *]); (first | exact ⟨id⟩ | (refine ⟨fun h => ?_⟩; (repeat' (first | exact h | refine And.intro ?_ ?_ | omega | rfl)); done))))))) | (apply Rn_c; (focus (intro K0; (try simp only [lookT, ev, Nat.reduceEqDiff, ↓reduceIte]); exact ⟨id⟩))) | (with_reducible (first | refine RnC_t ?_ | refine RnC_f ?_)) | (refine Rn_skip ?_) | (refine Rn_exit rfl ?_) | (refine Rn_b ?_) | (apply Rn_draw' lv27; (exact rfl)) | (refine Rn_draw ?_) | (apply Rd_op'; (exact rfl)) | (refine Rd_nil (by kernel_rfl) ?_) | ((with_reducible (first | refine RnG_split (fun h => ?_) (fun h => ?_) | refine RdG_split (fun h => ?_) (fun h => ?_) | refine RnC_split (fun h => ?_) (fun h => ?_))) <;> (have h' := h) <;> (try simp only [decide_eq_true_eq, decide_eq_false_iff_not, Bool.not_eq_true', Bool.not_eq_false', Bool.and_eq_true, Bool.or_eq_true, Bool.or_eq_false_iff, beq_iff_eq, bne_iff_ne, ne_eq, Bool.not_true, Bool.not_false, not_false_eq_true, reduceCtorEq, beq_eq_false_iff_ne, bne_eq_false_iff_eq] at h') <;> (first | apply Rn_st | apply Rd_st)) | (refine Rn_out_ck rfl rfl ?_) | (first | refine Rn_ret_ck ?_ | refine Rn_ret ?_ | refine Rn_nil_then ?_) | (refine LoopN_step (T := []) ?_) | (refine Rn_nil ?_)))
 ·intro K0; (try simp only [go_sem]); exact ⟨id⟩
 refine Rn_isnil (sz := 2) rfl (.inl rfl) rfl rfl (Nat.le_of_ble_eq_true rfl) rfl rfl (by kernel_rfl) (fun q hq => ?_)
 apply Rn_o_st
 ·intro K0; (try simp only [go_sem]); exact ⟨id⟩
 cases q with
 | true =>
  have h0 : l = [] := by have := hq rfl; simpa using this
  subst h0
  (any_goals refine go lv27 0 ?_)
  all_goals (try simp only [go_sem])
 | false =>
  clear hq
  (any_goals refine go lv27 0 ?_)
  all_goals (try simp only [go_sem])
def sp_cloneValP (st : St) (d : Nat) (args : List AV) (K : AV → List Loc → List (Loc × Cont) → Prop) : Prop := match args with
 | [.r (.rs 2 xs)] => (xs = (valsOf xs).map valR ∧ xs.length ≤ 1000000000) ∧ K (ren (fun _ => d) (fun _ => st.cur d) (.os 0 1)) [.R d] [(.R d, .s (1 + st.cur d) (.sl 50 2 ((valsOf xs).map valC)))]
 | _ => False
theorem sp_cloneValP_ok (st : St) (d : Nat) (args : List AV) (K : AV → List Loc → List (Loc × Cont) → Prop) (h : sp_cloneValP st d args K) : ∃ r ls outs, CallR Cx 27 st args r ls outs ∧ K r ls outs := by
 unfold sp_cloneValP at h
 split at h
 ·exact ⟨_, _, _, CallR.own (cloneValP_c _ h.1) rfl (cloneValP_rows _) rfl d, h.2⟩
 ·exact h.elim
noncomputable def ct_cloneValP : Ct Cx := .res 27 sp_cloneValP en27 sp_cloneValP_ok
@[go_sem] theorem ct_cloneValP_g : ct_cloneValP.g = 27 := rfl
@[go_sem] theorem ct_cloneValP_run (c : Call) (fop : Operand) (caps : List AV) (o : Oper) (st : St) (K : List Loc → List (Loc × Cont) → Prop) : ct_cloneValP.run c fop caps o st K = callG sp_cloneValP c fop caps o st K := rfl
@[go_sem] theorem sp_cloneValP_eq : type_of% @sp_cloneValP.eq_def := @sp_cloneValP.eq_def
theorem cloneVal_c (xs : List (List RV)) (h : xs = (valsOf xs).map valR ∧ xs.length ≤ 1000000000) : FC Cx 27 [.r (.rs 2 xs)] [] (valsV (valsOf xs)) [] := (cloneValP_c xs h).freeze1 (roValC _).symm
def sp_cloneVal (args : List AV) (K : AV → Prop) : Prop := match args with
 | [.r (.rs 2 xs)] => (xs = (valsOf xs).map valR ∧ xs.length ≤ 1000000000) ∧ K (valsV (valsOf xs))
 | _ => False
noncomputable abbrev ct_cloneVal : Ct Cx := .pure 27 sp_cloneVal fun args K h => by
 unfold sp_cloneVal at h; split at h; exact ⟨_, CallOk_of (cloneVal_c _ h.1) en27 rfl rfl, h.2⟩; exact h.elim
@[go_sem] theorem sp_cloneVal_eq : type_of% @sp_cloneVal.eq_def := @sp_cloneVal.eq_def
theorem flatStrC (l : List ByteArray) : ∀ row ∈ l.map strC, withinL none0 row = true := fun row h => by
 obtain ⟨x, _, rfl⟩ := List.mem_map.1 h; rfl
@[go_sem] theorem okStrC : ∀ l : List ByteArray, okRows (l.map strC) = true
 | [] => rfl
 | x :: l => okStrC l
@[go_sem] theorem roStrC (l : List ByteArray) : ((l.map strR).map fun r => r.map AV.r) = l.map strC := by rw [List.map_map]; rfl
theorem cloneStrP_c (xs : List (List RV)) (h : xs = (strsOf xs).map strR ∧ xs.length ≤ 1000000000) : FC Cx 23 [.r (.rs 1 xs)] [] (.os 0 1) [(0, 1, .sl 9 1 ((strsOf xs).map strC))] := by
 have hl : (strsOf xs).length = xs.length := by simp [strsOf]
 have hlenS : ∀ l : List ByteArray, (l.map strC).length = l.length := fun l => List.length_map ..
 obtain ⟨h1, h2⟩ := h
 generalize strsOf xs = l at h1 hl
 subst h1
 rw [← hl] at h2
 refine FCo_of [] (i := 0) [.os 0 1] Tryz.func23 rfl Tryz.ntmps23 (by simp) Tryz.results23 (flatStrC _) ?_
 refine rnst ?_
 iterate 8 (any_goals (first | (focus (intro K0; (try simp only [go_sem, *]); (first | exact ⟨id⟩ | (refine ⟨fun h => ?_⟩; (repeat' (first | exact h | refine And.intro ?_ ?_ | omega | rfl)); done)))) | (refine Rn_seq ?_) | (refine Rn_block ?_) | (apply Rn_region' lv23; (exact rfl)) | (refine Rn_region ?_) | (apply Rn_op'; (exact rfl)) | (refine Rn_o_nil ?_) | ((first | apply Rn_g | apply Rd_g); (exact rfl); (exact rfl); (focus (intro K0; (try simp only [lookT, ev, Nat.reduceEqDiff, ↓reduceIte]); exact ⟨id⟩))) | (with_reducible (first | apply RnG_yes | apply RdG_yes)) | ((with_reducible (first | apply RnG_t_no | apply RnG_f_no | apply RnG_un | apply RdG_t_no | apply RdG_f_no | apply RdG_un)); (exact rfl)) | ((first | apply RnG_never | apply RdG_never); (focus (intro K0; (try simp only [go_sem]); exact ⟨id⟩)); (exact rfl)) | ((first | apply RnG_lazy | apply RdG_lazy); (exact rfl); (focus (intro K0; (try simp only [go_sem]); exact ⟨id⟩)); (focus (first | (simp only [Nat.reduceLT]; done) | omega)); (focus (intro hw0; (try simp only [Bool.and_eq_true, Bool.not_eq_true', beq_true', beq_false'] at hw0); (focus (intro K0; (try simp only [go_sem, *]); (first | exact ⟨id⟩ | (refine ⟨fun h => ?_⟩; (repeat' (first | exact h | refine And.intro ?_ ?_ | omega | rfl)); done))))))) | (apply Rn_c; (focus (intro K0; (try simp only [lookT, ev, Nat.reduceEqDiff, ↓reduceIte]); exact ⟨id⟩))) | (with_reducible (first | refine RnC_t ?_ | refine RnC_f ?_)) | (refine Rn_skip ?_) | (refine Rn_exit rfl ?_) | (refine Rn_b ?_) | (apply Rn_draw' lv23; (exact rfl)) | (refine Rn_draw ?_) | (apply Rd_op'; (exact rfl)) | (refine Rd_nil (by kernel_rfl) ?_) | ((with_reducible (first | refine RnG_split (fun h => ?_) (fun h => ?_) | refine RdG_split (fun h => ?_) (fun h => ?_) | refine RnC_split (fun h => ?_) (fun h => ?_))) <;> (have h' := h) <;> (try simp only [decide_eq_true_eq, decide_eq_false_iff_not, Bool.not_eq_true', Bool.not_eq_false', Bool.and_eq_true, Bool.or_eq_true, Bool.or_eq_false_iff, beq_iff_eq, bne_iff_ne, ne_eq, Bool.not_true, Bool.not_false, not_false_eq_true, reduceCtorEq, beq_eq_false_iff_ne, bne_eq_false_iff_eq] at h') <;> (first | apply Rn_st | apply Rd_st)) | (refine Rn_out_ck rfl rfl ?_) | (first | refine Rn_ret_ck ?_ | refine Rn_ret ?_ | refine Rn_nil_then ?_) | (refine LoopN_step (T := []) ?_) | (refine Rn_nil ?_)))
 ·intro K0; (try simp only [go_sem]); exact ⟨id⟩
 refine Rn_isnil (sz := 1) rfl (.inl rfl) rfl rfl (Nat.le_of_ble_eq_true rfl) rfl rfl (by kernel_rfl) (fun q hq => ?_)
 apply Rn_o_st
 ·intro K0; (try simp only [go_sem]); exact ⟨id⟩
 cases q with
 | true =>
  have h0 : l = [] := by have := hq rfl; simpa using this
  subst h0
  (any_goals refine go lv23 0 ?_)
  all_goals (try simp only [go_sem])
 | false =>
  clear hq
  (any_goals refine go lv23 0 ?_)
  all_goals (try simp only [go_sem])
theorem cloneStr_c (xs : List (List RV)) (h : xs = (strsOf xs).map strR ∧ xs.length ≤ 1000000000) : FC Cx 23 [.r (.rs 1 xs)] [] (strsV (strsOf xs)) [] := (cloneStrP_c xs h).freeze1 (roStrC _).symm
def sp_cloneStr (args : List AV) (K : AV → Prop) : Prop := match args with
 | [.r (.rs 1 xs)] => (xs = (strsOf xs).map strR ∧ xs.length ≤ 1000000000) ∧ K (strsV (strsOf xs))
 | _ => False
noncomputable abbrev ct_cloneStr : Ct Cx := .pure 23 sp_cloneStr fun args K h => by
 unfold sp_cloneStr at h; split at h; exact ⟨_, CallOk_of (cloneStr_c _ h.1) en23 rfl rfl, h.2⟩; exact h.elim
@[go_sem] theorem sp_cloneStr_eq : type_of% @sp_cloneStr.eq_def := @sp_cloneStr.eq_def
def rowB (R : RV → RV → Prop) : List RV → List RV → Prop
 | [], [] => True
 | x :: l, y :: m => R x y ∧ rowB R l m
 | _, _ => False
def rowsB (R : RV → RV → Prop) : List (List RV) → List (List RV) → Prop
 | [], [] => True
 | x :: l, y :: m => rowB R x y ∧ rowsB R l m
 | _, _ => False
def nilX (R : RV → RV → Prop) : RV → RV → Prop
 | .v (.slice none 0 0), .rs _ [] => True
 | .rs sz rows, .rs sz' rows' => sz = sz' ∧ rowsB R rows rows'
 | _, _ => False
def nilB : Nat → RV → RV → Prop
 | 0, x, y => x = y
 | n + 1, x, y => x = y ∨ nilX (nilB n) x y
theorem rowB_len {R : RV → RV → Prop} : ∀ {l m : List RV}, rowB R l m → m.length = l.length
 | [], [], _ => rfl
 | _ :: _, _ :: _, h => by simp [rowB_len h.2]
 | [], _ :: _, h => h.elim
 | _ :: _, [], h => h.elim
theorem rowB_at {R : RV → RV → Prop} : ∀ {l m : List RV} {j : Nat} {x y : RV}, rowB R l m → l[j]? = some x → m[j]? = some y → R x y
 | x' :: l, y' :: m, 0, x, y, h, hx, hy => by simp at hx hy; subst hx; subst hy; exact h.1
 | x' :: l, y' :: m, j + 1, x, y, h, hx, hy => rowB_at h.2 (by simpa using hx) (by simpa using hy)
 | [], _, _, _, _, _, hx, _ => by simp at hx
 | _ :: _, [], _, _, _, _, _, hy => by simp at hy
theorem rowsB_len {R : RV → RV → Prop} : ∀ {l m : List (List RV)}, rowsB R l m → m.length = l.length
 | [], [], _ => rfl
 | _ :: _, _ :: _, h => by simp [rowsB_len h.2]
 | [], _ :: _, h => h.elim
 | _ :: _, [], h => h.elim
theorem rowsB_at {R : RV → RV → Prop} : ∀ {l m : List (List RV)} {j : Nat} {x y : List RV}, rowsB R l m → l[j]? = some x → m[j]? = some y → rowB R x y
 | x' :: l, y' :: m, 0, x, y, h, hx, hy => by simp at hx hy; subst hx; subst hy; exact h.1
 | x' :: l, y' :: m, j + 1, x, y, h, hx, hy => rowsB_at h.2 (by simpa using hx) (by simpa using hy)
 | [], _, _, _, _, _, hx, _ => by simp at hx
 | _ :: _, [], _, _, _, _, _, hy => by simp at hy
theorem nilB_ok : ∀ (n : Nat) (x y : RV), nilB n x y → NilD x y
 | 0, x, y, h => by have : x = y := h; subst this; exact .same _
 | n + 1, x, y, h => by
  rcases (show x = y ∨ nilX (nilB n) x y from h) with rfl | h2
  ·exact .same _
  ·replace h := h2
   unfold nilX at h
   split at h
   ·exact .nil _
   ·obtain ⟨rfl, h⟩ := h
    exact .rs _ _ _ (rowsB_len h) (fun i row row' h1 h2 => rowB_len (rowsB_at h h1 h2)) fun i j row row' x y h1 h2 h3 h4 => nilB_ok n x y (rowB_at (rowsB_at h h1 h2) h3 h4)
   ·exact h.elim
def startS (p : ProgT) : StateT := ⟨[⟨4, 0, [], []⟩], [(-1, -1)], p.texts, [⟨[⟨0, 0, -1, -1, (5, 0), List.replicate (p.fns.getD 0 fn0).regs.toNat (0, 0), []⟩], 0, 0, (0, 0)⟩], [], [], 0, 0⟩
def emptyS : StateT := ⟨[], [], [], [], [], [], 0, 0⟩
structure HeapR (s : StateT) : Prop where
 cellN : s.cells.length ≤ 300
 textN : s.texts.length ≤ 300
 saidN : s.said.length ≤ 200
 endN : s.ends.length ≤ 100
 bytes : ∀ t ∈ s.texts, t.size ≤ 200
 valN : ∀ c ∈ s.cells, bigC c = false
 shapes : Sh.checkF s.shapes = 0
 words : 19 ≤ s.texts.length ∧ s.texts.take 19 = wordsL ∧ s.texts.Nodup
 names : ∀ x ∈ s.shapes, x.2 < (s.texts.length : Int)
 cells : ∀ c ∈ s.cells, cellF s c = true
 said : ∀ v ∈ s.said, v.1 = 4 ∧ fitsF s v = true
 ends : ∀ e ∈ s.ends, (0 ≤ e.cell ∧ e.cell ≤ (s.cells.length : Int) - 1) ∧ isF' s e.fn 4 = true
theorem checkS_iff {s : StateT} : checkS s = 0 ↔ HeapR s := by
 have hL : largeS s = false ↔ s.cells.length ≤ 300 ∧ s.texts.length ≤ 300 ∧ s.said.length ≤ 200 ∧ s.ends.length ≤ 100 ∧ (∀ t ∈ s.texts, t.size ≤ 200) ∧ ∀ c ∈ s.cells, bigC c = false := by
  simp only [largeS, Bool.or_eq_false_iff, decide_eq_false_iff_not, List.any_eq_false, Bool.not_eq_true]
  constructor
  ·rintro ⟨⟨⟨⟨⟨h1, h2⟩, h3⟩, h4⟩, h5⟩, h6⟩
   exact ⟨by omega, by omega, by omega, by omega, fun t ht => by have := h5 t ht; simp [bigS] at this; omega, h6⟩
  ·rintro ⟨h1, h2, h3, h4, h5, h6⟩
   exact ⟨⟨⟨⟨⟨by omega, by omega⟩, by omega⟩, by omega⟩, fun t ht => by have := h5 t ht; simp [bigS]; omega⟩, h6⟩
 unfold checkS
 constructor
 ·intro h
  split at h
  ·cases h
  rename_i h0
  obtain ⟨a1, a2, a3, a4, a5, a6⟩ := hL.1 (by simpa using h0)
  split at h
  ·rename_i h1; exact absurd h h1
  rename_i h1
  split at h
  ·cases h
  rename_i h2
  split at h
  ·cases h
  rename_i h3
  split at h
  ·cases h
  rename_i h4
  simp only [Bool.or_eq_true, not_or, Bool.not_eq_true', Bool.not_eq_false, List.any_eq_true, not_exists, not_and] at h2
  obtain ⟨⟨b1, b2⟩, b3⟩ := h2
  have b1' : (decide (19 ≤ s.texts.length) && decide (s.texts.take 19 = wordsL) && decide s.texts.Nodup) = true := b1
  simp only [Bool.and_eq_true, decide_eq_true_eq] at b1'
  simp only [List.any_eq_true, not_exists, not_and] at h3 h4
  refine ⟨a1, a2, a3, a4, a5, a6, Classical.not_not.1 h1, ⟨b1'.1.1, b1'.1.2, b1'.2⟩, fun x hx => ?_, fun c hc => ?_, fun v hv => ?_, fun e he => ?_⟩
  ·have := b2 x hx; simp at this; omega
  ·have := b3 c hc; simpa using this
  ·have := h3 v hv; simp [badS] at this; exact this
  ·have := h4 e he; simp [badE] at this; exact this
 ·intro h
  rw [if_neg (by rw [hL.2 ⟨h.cellN, h.textN, h.saidN, h.endN, h.bytes, h.valN⟩]; simp), if_neg (fun h1 => h1 h.shapes), if_neg, if_neg, if_neg]
  ·intro h1
   obtain ⟨e, he, h2⟩ := List.any_eq_true.1 h1
   have := h.ends e he
   simp [badE, this.1, this.2] at h2
  ·intro h1
   obtain ⟨v, hv, h2⟩ := List.any_eq_true.1 h1
   have := h.said v hv
   simp [badS, this.1, this.2] at h2
  ·intro h1
   simp only [Bool.or_eq_true, Bool.not_eq_true', List.any_eq_true] at h1
   rcases h1 with (h1 | ⟨x, hx, h1⟩) | ⟨c, hc, h1⟩
   ·have : textsF s.texts = true := by
     unfold textsF
     rw [decide_eq_true h.words.1, decide_eq_true h.words.2.1, decide_eq_true h.words.2.2]; rfl
    rw [this] at h1; cases h1
   ·have := h.names x hx; simp at h1; omega
   ·rw [h.cells c hc] at h1; cases h1
theorem run_bad {f : FnT} : ∀ (k : Nat) (W : WT), W.bad = true → (runW f k W).bad = true
 | 0, W, h => h
 | k + 1, W, h => by
  show (if goesW W = true then runW f k (stepW f W) else W).bad = true
  rw [if_neg (by unfold goesW; rw [h]; simp)]; exact h
theorem run_To {f : FnT} (hc : Cok f) {t : Int} {l : List (Int × Int)} : ∀ (k : Nat) (W : WT), Wiv f W → To f W t l → To f (runW f k W) t l
 | 0, W, _, h => h
 | k + 1, W, hi, h => by
  show To f (if goesW W = true then runW f k (stepW f W) else W) t l
  split
  ·rename_i hg
   have h0 : 0 < W.todo.length := by simp [goesW] at hg; exact hg.1
   obtain ⟨q1, q2, q3, q4⟩ := pop_iv hi h0
   exact run_To hc k _ (step_iv hi hc hg).1 ((from_fr (n := lastT W) q1 hc q3).keeps t l ⟨h.lo, h.hi, h.few, h.seen, h.out⟩)
  ·exact h
theorem walk_first {f : FnT} (hc : Cok f) (hb : (walkF f).bad = false) : To f (walkF f) 0 [] := by
 have hb1 : (comeF f 0 [] (W0 f)).bad = false := by
  cases h : (comeF f 0 [] (W0 f)).bad with
  | false => rfl
  | true => have := run_bad (f := f) (2 * f.code.length) _ h; unfold walkF at hb; rw [this] at hb; cases hb
 exact run_To hc _ _ (walk_start hc).1 (come_to (W0_iv f).1 (Int.le_refl 0) hb1)
theorem start_right {p : ProgT} (hw : Pwf p) (hp : checkF p = 0) : RightS p (startS p) := by
 obtain ⟨c1, c2, c3, c4⟩ := check_iff.1 hp
 obtain ⟨l1, l2, l3, l4, l5⟩ := large_iff.1 c1
 obtain ⟨t1, t2, t3, t4⟩ := tables_iff.1 c2
 have hn := check_some hp
 obtain ⟨F, hF⟩ : ∃ F, p.fns[0]? = some F := ⟨p.fns[0]'(by omega), List.getElem?_eq_getElem _⟩
 have eF : p.fns.getD 0 fn0 = F := by rw [List.getD_eq_getElem?_getD, hF]; rfl
 have hm := List.mem_of_getElem? hF
 obtain ⟨hpok, hfun, hcok, hbad⟩ := check_fn hw hp hm
 have hr1 : 1 ≤ F.regs := by
  unfold functionF at hfun
  split at hfun
  ·cases hfun
  ·omega
 have h1 : F.params = 0 ∧ F.caught.length = 0 ∧ F.gen = false := by
  unfold firstF at c3
  cases hfs : p.fns with
  | nil => rw [hfs] at hn; simp at hn
  | cons a l =>
   rw [hfs] at c3 hF
   simp at hF; subst hF
   simp at c3
   exact ⟨c3.1.1, by simpa using c3.1.2, c3.2⟩
 have hto := walk_first hcok hbad
 have hheap : checkS (startS p) = 0 := checkS_iff.2 ⟨by simp [startS], by simp [startS]; omega, by simp [startS], by simp [startS], l4, fun c hc => by simp [startS] at hc; subst hc; rfl, by
   show Sh.checkF [(-1, -1)] = 0
   unfold Sh.checkF
   rw [if_neg (by simp), if_pos]
   refine ⟨rfl, fun k q hq => by simp at hq⟩, ⟨t1, t2, t3⟩, fun x hx => by simp [startS] at hx; subst hx; show (-1 : Int) < _; omega, fun c hc => by
   simp [startS] at hc; subst hc
   simp [cellF, numF, valsF, framesN], fun v hv => by simp [startS] at hv, fun e he => by simp [startS] at he⟩
 refine ⟨hp, hheap, by simp [manyS, startS], by simp [startS], by simp [startS], by simp [startS], by simp [startS], fun c hc => ?_, fun t ht => ?_, by simp [gensT, gensL, startS], fun k c hk k5 => ?_⟩
 ·simp [startS] at hc; subst hc
  unfold heapF
  rw [if_pos rfl]
  show (decide ((0 : Int) < (p.fns.length : Int)) && decide (((0 : Nat) : Int) = ((p.fns.getD 0 fn0).caught.length : Int))) = true
  rw [eF, h1.2.1]
  simp; omega
 ·simp [startS] at ht; subst ht
  have hfit : fitsF (startS p) (0, 0) = true := by simp [fitsF, rightF]
  refine ⟨by simp [headF, hfit], ⟨?_, fun h => by cases h⟩, trivial⟩
  have href : refF (startS p) (5, 0) 4 = true := by simp [refF, startS]
  have hall : (List.replicate F.regs.toNat ((0 : Int), (0 : Int))).all (fitsF (startS p)) = true := List.all_eq_true.2 fun v hv => by rw [List.eq_of_mem_replicate hv]; exact hfit
  have hhi := hto.hi
  have h2 := hto.seen
  have h3 := hto.out
  unfold onF frameF
  simp only [Int.toNat_zero, eF, href, hall, h1.2.2, Bool.and_true, Bool.true_and]
  rw [show (0 : Int).toNat = 0 from rfl] at h2 h3
  rw [h2, h3]
  simp only [List.length_replicate]
  have e0 : p.fns[0]?.getD fn0 = F := by rw [hF]; rfl
  rw [e0, hall]
  have a1 : (0 : Int) ≤ (p.fns.length : Int) - 1 := by omega
  have a2 : ((F.regs.toNat : Nat) : Int) = F.regs := by omega
  have a3 : (0 : Int) ≤ (F.code.length : Int) - 1 := by omega
  have a4 : ((startS p).cells.getD 0 cell0).num = 0 := rfl
  simp only [Bool.and_eq_true, decide_eq_true_eq]
  repeat' (first | exact trivial | exact a1 | exact a2 | exact a3 | exact a4 | refine And.intro ?_ ?_ | (simp; done) | omega)
 ·have : k = 0 ∧ c.kind = 4 := by
   cases k with
   | zero => simp [startS] at hk; subst hk; exact ⟨rfl, rfl⟩
   | succ k => simp [startS] at hk
  omega
end Go.Proofs.YtbhnmolmkembdaaGreatDoor
