/- UnwindStays' law. No condition: the contract of the law's function. -/
import Derived.Test.YtbhnmolmkembdaaGreatDoorW6
namespace Go.Proofs.YtbhnmolmkembdaaGreatDoor
set_option linter.unusedVariables false
set_option linter.unusedSimpArgs false
set_option maxHeartbeats 10000000
open Go
set_option maxRecDepth 10000
theorem Of (p : aI) (s : aC) (th : Int) (v : Int × Int) (hw : Pwf p) (hs : Swf s) (h : throwE p s th v ≠ 0) : FC Cx 11 [cV p, cE s, Iv th, VV v.1 v.2] [] (Bv true) [] := by
 have hT : ∀ y, y = [cV p, cE s, Iv th, VV v.1 v.2] → aO Cx 33 y (.tup [cE fW, gV [], Iv (throwE p s th v)]) := fun y hy => by
  subst hy; exact aB (Qa p s th v hw hs h) en33 rfl rfl
 have hU : ∀ y, y = [] → aO Cx 39 y (Bv true) := fun y hy => by
  subst hy; exact aB qC en39 rfl rfl
 obtain ⟨vk, vn⟩ := v
 dsimp only at *
 have d0 : decide (throwE p s th (vk, vn) = 0) = false := by simpa using h
 generalize throwE p s th (vk, vn) = E at *
 clear h
 refine aE [ctE 33 [cV p, cE s, Iv th, VV vk vn] (.tup [cE fW, gV [], Iv E]) hT, ctE 39 [] (Bv true) hU] Tryz.func11 Tryz.ntmps11 Tryz.results11 ?_
 refine goR ?_
 refine fzB 4 ?_
 refine fzB 5 ?_
 refine fzB 7 ?_
 (any_goals refine go lv11 0 ?_)
 repeat' (first | (refine Br.go (fun h h' => ?_) (fun h h' => ?_)) | (refine Br.mk (fun h => ?_) (fun h => ?_)))
 all_goals (try simp only [go_sem, fW])
theorem Aj (t : aJ) : rZ (threadC t) (aL t) := ⟨rfl, rfl, rfl, rfl, rfl, trivial⟩
theorem Bo (n : Nat) {C : Ctx} {f : Nat} {r : AV} {xs ys : List RV} (h : aO C f [.agg (ys.map .r), .agg (ys.map .r)] r) (hn : rowB (nilB n) xs ys) : aO C f [.agg (xs.map .r), .agg (xs.map .r)] r := by
 intro cur g w av vs hG hgs hav hp
 have key : ∀ v, AR cur g w av (.agg (xs.map .r)) v → AR cur g w av (.agg (ys.map .r)) v := fun v hv => AR.nilD (tP hn) (fun j x y hx hy => vU n x y (vP hn hx hy)) hv
 refine h cur g w av vs hG hgs hav ⟨hp.1, fun j y v hy hv => ?_⟩
 match j with
 | 0 => simp at hy; subst hy; exact key v (hp.2 0 _ v rfl hv)
 | 1 => simp at hy; subst hy; exact key v (hp.2 1 _ v rfl hv)
 | j + 2 => simp at hy
theorem Jd (p : aI) (s : aC) (th : Nat) (t : aJ) (f : aK) (v : Int × Int) (hw : Pwf p) (hs : Swf s) (hf : cP p s = 0) (ht : s.threads[th]? = some t) (hfr : t.frames[t.frames.length - 1]? = some f) (hv : fitsF s v = true) :
  FC Cx 11 [cV p, cE s, Iv th, VV v.1 v.2] [] (Bv true) [] := by
 have hT : ∀ y, y = [cV p, cE s, Iv th, VV v.1 v.2] → aO Cx 33 y (.tup [cE (thrS s th t v), gV (thrE p s th t f v), Iv 0]) := fun y hy => by
  subst hy; exact aB (zH p s th t f v hw hs hf ht hfr hv) en33 rfl rfl
 have hU : ∀ y, y = [] → aO Cx 39 y (Bv true) := fun y hy => by
  subst hy; exact aB qC en39 rfl rfl
 have hR := gL.1 hf
 have hk := (List.getElem?_eq_some_iff.1 ht).1
 have hfk := (List.getElem?_eq_some_iff.1 hfr).1
 have hXw := aAe (v := v) hs ht
 have h5 : s.threads.length ≤ 5 := by
  have := hR.few
  unfold uW at this
  simp only [Bool.or_eq_false_iff, decide_eq_false_iff_not] at this
  omega
 have hX0 : cP p (thrS s th t v) = 0 := gL.2 (Og hw hR ht (by omega) hv)
 have hC : ∀ y, y = [cV p, cE (thrS s th t v)] → aO Cx 19 y (Iv 0) := fun y hy => by
  subst hy; rw [← hX0]; exact aB (zU p (thrS s th t v) hw hXw) en19 rfl rfl
 obtain ⟨hcl, hce⟩ := Oc (v := v) hR ht
 have hm := hs.len
 have hS : ∀ y, y = [.agg [NilS, aN s.shapes, bN s.texts, bJ (s.threads.eraseIdx th), cA s.ends, aN s.said, Iv s.asked, Iv s.steps], .agg [NilS, aN s.shapes, bN s.texts, bJ (s.threads.eraseIdx th), cA s.ends, aN s.said, Iv s.asked, Iv s.steps]] → aO Cx 24 y (Bv true) := fun y hy => by
  subst hy
  refine Bo 1 (xs := [.v (.slice none 0 0), .rs 2 (s.shapes.map valR), .rs 1 (s.texts.map strR), .rs 5 ((s.threads.eraseIdx th).map aL), .rs 3 (s.ends.map endR), .rs 2 (s.said.map valR), .v (.int .i64 s.asked), .v (.int .i64 s.steps)]) (ys := bR ⟨[], s.shapes, s.texts, s.threads.eraseIdx th, s.ends, s.said, s.asked, s.steps⟩) ?_ (by simp [rowB, nilB, nilX])
  have hwS : Swf ⟨[], s.shapes, s.texts, s.threads.eraseIdx th, s.ends, s.said, s.asked, s.steps⟩ := by
   obtain ⟨⟨a1, a2, a3, a4, a5, a6⟩, b, c, d⟩ := hs
   have hle := List.length_eraseIdx_le s.threads th
   exact ⟨⟨by show 0 ≤ _; omega, a2, a3, by show (s.threads.eraseIdx th).length ≤ _; omega, a5, a6⟩, b, fun c hc => by simp at hc, fun x hx => d x (List.mem_of_mem_eraseIdx hx)⟩
  have := aB (Qj _ _ hwS hwS) en24 rfl rfl
  rw [decide_eq_true rfl] at this
  exact this
 have eX : cE (thrS s th t v) = .agg [bW (thrS s th t v).cells, aN s.shapes, bN s.texts, bJ (s.threads.set th (thrT v t (unwF v t.frames t.frames.length s.cells))), cA s.ends, aN s.said, Iv s.asked, Iv s.steps] := rfl
 rw [eX] at hT hC
 have l1 : (s.threads.map aL).length = s.threads.length := List.length_map ..
 have l2 : (s.cells.map bA).length = s.cells.length := List.length_map ..
 have t1 : Int.toNat (th : Int) = th := by omega
 generalize thrT v t (unwF v t.frames t.frames.length s.cells) = t' at *
 generalize thrE p s th t f v = L at *
 have l3 : ((s.threads.set th t').map aL).length = s.threads.length := by rw [List.length_map, List.length_set]
 generalize hCS : (thrS s th t v).cells = CS at *
 have l4 : (CS.map bA).length = s.cells.length := by rw [List.length_map]; exact hcl
 obtain ⟨vk, vn⟩ := v
 dsimp only at *
 clear hCS hX0 hXw hR hfr hfk hf hv hw
 refine aE [ctE 33 [cV p, cE s, Iv th, VV vk vn] (.tup [.agg [bW CS, aN s.shapes, bN s.texts, bJ (s.threads.set th t'), cA s.ends, aN s.said, Iv s.asked, Iv s.steps], gV L, Iv 0]) hT, ctE 39 [] (Bv true) hU, ctE 19 [cV p, .agg [bW CS, aN s.shapes, bN s.texts, bJ (s.threads.set th t'), cA s.ends, aN s.said, Iv s.asked, Iv s.steps]] (Iv 0) hC] Tryz.func11 Tryz.ntmps11 Tryz.results11 ?_
 refine goR ?_
 refine fzB 4 ?_
 refine fzB 5 ?_
 refine fzB 7 ?_
 (any_goals refine go lv11 0 ?_)
 repeat' (first | (refine Br.go (fun h h' => ?_) (fun h h' => ?_)) | (refine Br.mk (fun h => ?_) (fun h => ?_)))
 all_goals (try simp only [go_sem])
 refine dB (fun x : Nat × Nat => x.1 ≤ s.cells.length) (fun x => ⟨143, [(2, Iv th), (5, .r (.rp (bR s))), (9, .os 9 1), (12, .os 12 1), (13, .os 13 1), (68, bW s.cells), (69, Iv s.cells.length), (70, Iv x.1)], [(4, 2, .gone), (5, 2, .gone), (7, 2, .gone), (9, 1, .bx [bW CS, aN s.shapes, bN s.texts, bJ (s.threads.set th t'), cA s.ends, aN s.said, Iv s.asked, Iv s.steps]), (12, 1, .bx [NilS, aN s.shapes, bN s.texts, NilS, cA s.ends, aN s.said, Iv s.asked, Iv s.steps]), (13, 1, .bx [NilS, aN s.shapes, bN s.texts, NilS, cA s.ends, aN s.said, Iv s.asked, Iv s.steps]), (15, x.2, .gone)]⟩) (fun x => s.cells.length - x.1) (0, 0) (Nat.zero_le _) ?_
 rintro ⟨i, u⟩ hi
 dsimp only at hi ⊢
 by_cases hlt : i < s.cells.length
 case pos =>
  obtain ⟨c, hx, hg, h1, h2, hw⟩ := sO bA s.cells hlt (by have := hm.cells; omega)
  obtain ⟨c', hx', hk', hn'⟩ := hce i c hx
  have hg' := aG bA hx' ([] : List RV)
  clear hS hce hx hx' hm hs
  obtain ⟨ck, cn, cv, cf⟩ := c
  obtain ⟨dk, dn, dv, df⟩ := c'
  dsimp only at *
  subst hk'
  rcases hn' with rfl | ⟨rfl, rfl⟩
  case inl =>
   (any_goals refine go lv11 0 ?_)
   repeat' (first | (refine Br.go (fun h h' => ?_) (fun h h' => ?_)) | (refine Br.mk (fun h => ?_) (fun h => ?_)))
   all_goals (try simp only [go_sem])
   exact ⟨(i + 1, u + 9), by dsimp only; omega, by dsimp only; omega, bQ⟩
  ·by_cases h3 : cn = 2
   ·subst h3
    (any_goals refine go lv11 0 ?_)
    repeat' (first | (refine Br.go (fun h h' => ?_) (fun h h' => ?_)) | (refine Br.mk (fun h => ?_) (fun h => ?_)))
    all_goals (try simp only [go_sem])
    exact ⟨(i + 1, u + 9), by dsimp only; omega, by dsimp only; omega, bQ⟩
   ·have d3 : decide (cn = 2) = false := by simpa using h3
    clear h3
    (any_goals refine go lv11 0 ?_)
    repeat' (first | (refine Br.go (fun h h' => ?_) (fun h h' => ?_)) | (refine Br.mk (fun h => ?_) (fun h => ?_)))
    all_goals (try simp only [go_sem])
    exact ⟨(i + 1, u + 9), by dsimp only; omega, by dsimp only; omega, bQ⟩
 obtain rfl : i = s.cells.length := by omega
 have e1 := nX s.cells
 clear hi hlt hce
 (any_goals refine go lv11 0 ?_)
 repeat' (first | (refine Br.go (fun h h' => ?_) (fun h h' => ?_)) | (refine Br.mk (fun h => ?_) (fun h => ?_)))
 all_goals (try simp only [go_sem])
 clear e1
 (apply qT 12 3 1012 56 5; (exact rfl); (decide); (exact rfl); (exact rfl); (intro K0; (try simp only [go_sem, List.set_cons_zero, List.set_cons_succ]); exact ⟨id⟩))
 (apply qT 13 3 1013 56 5; (exact rfl); (decide); (exact rfl); (exact rfl); (intro K0; (try simp only [go_sem, List.set_cons_zero, List.set_cons_succ]); exact ⟨id⟩))
 refine dB (fun x : Nat × Nat => x.1 ≤ s.threads.length) (fun x => ⟨143, [(2, Iv th), (5, .r (.rp (bR s))), (9, .os 9 1), (12, .os 12 1), (13, .os 13 1), (112, Iv s.threads.length), (113, Iv x.1)], [(4, 2, .gone), (5, 2, .gone), (7, 2, .gone), (9, 1, .bx [bW CS, aN s.shapes, bN s.texts, bJ (s.threads.set th t'), cA s.ends, aN s.said, Iv s.asked, Iv s.steps]), (12, 1, .bx [NilS, aN s.shapes, bN s.texts, .os 1012 (1 + ((s.threads.take x.1).eraseIdx th).length), cA s.ends, aN s.said, Iv s.asked, Iv s.steps]), (13, 1, .bx [NilS, aN s.shapes, bN s.texts, .os 1013 (1 + ((s.threads.take x.1).eraseIdx th).length), cA s.ends, aN s.said, Iv s.asked, Iv s.steps]), (15, u, .gone), (1012, 1 + ((s.threads.take x.1).eraseIdx th).length, .sl 56 5 (((s.threads.take x.1).eraseIdx th).map threadC)), (1013, 1 + ((s.threads.take x.1).eraseIdx th).length, .sl 56 5 (((s.threads.take x.1).eraseIdx th).map threadC)), (126, x.2, .gone), (135, x.2, .gone)]⟩) (fun x => s.threads.length - x.1) (0, 0) (Nat.zero_le _) ?_
 rintro ⟨i, w⟩ hi
 dsimp only at hi ⊢
 by_cases hlt : i < s.threads.length
 case pos =>
  obtain ⟨x, hx, hg, h1, h2, hw⟩ := sO aL s.threads hlt (by have := hm.threads; omega)
  by_cases hit : i = th
  case pos =>
   subst hit
   have hnx : (s.threads.take (i + 1)).eraseIdx i = (s.threads.take i).eraseIdx i := by
    rw [List.take_add_one, hx]
    show (s.threads.take i ++ [x]).eraseIdx i = _
    have hl : (s.threads.take i).length = i := by rw [List.length_take]; omega
    rw [List.eraseIdx_append_of_length_le (by omega), hl, Nat.sub_self, List.eraseIdx_of_length_le (l := s.threads.take i) (by omega)]
    simp
   have d1 : decide ((i : Int) = (i : Int)) = true := by simp
   generalize (s.threads.take i).eraseIdx i = L0 at *
   clear hS hx hm hs
   (any_goals refine go lv11 0 ?_)
   repeat' (first | (refine Br.go (fun h h' => ?_) (fun h h' => ?_)) | (refine Br.mk (fun h => ?_) (fun h => ?_)))
   all_goals (try simp only [go_sem])
   refine ⟨(i + 1, w), by dsimp only; omega, by dsimp only; omega, ?_⟩
   dsimp only
   rw [hnx]
   exact bQ
  case neg =>
   have hnx : (s.threads.take (i + 1)).eraseIdx th = (s.threads.take i).eraseIdx th ++ [x] := by
    rw [List.take_add_one, hx]
    show (s.threads.take i ++ [x]).eraseIdx th = _
    have hl : (s.threads.take i).length = i := by rw [List.length_take]; omega
    by_cases h : th < i
    ·rw [List.eraseIdx_append_of_lt_length (by omega)]
    ·rw [List.eraseIdx_of_length_le (by simp; omega), List.eraseIdx_of_length_le (by omega)]
   have hnm : ((s.threads.take (i + 1)).eraseIdx th).map threadC = ((s.threads.take i).eraseIdx th).map threadC ++ [threadC x] := by rw [hnx, List.map_append]; rfl
   have hnl : ((s.threads.take (i + 1)).eraseIdx th).length = ((s.threads.take i).eraseIdx th).length + 1 := by rw [hnx, List.length_append]; rfl
   have hx' : (s.threads.set th t')[i]? = some x := by rw [List.getElem?_set_ne (by omega)]; exact hx
   have hg' := aG aL hx' ([] : List RV)
   have d1 : decide ((i : Int) = (th : Int)) = false := by rw [decide_eq_false_iff_not]; omega
   have hb : ((s.threads.take i).eraseIdx th).length ≤ 5 := by
    have := List.length_eraseIdx_le (s.threads.take i) th
    rw [List.length_take] at this
    omega
   have hbl : (((s.threads.take i).eraseIdx th).map threadC).length = ((s.threads.take i).eraseIdx th).length := List.length_map ..
   generalize (s.threads.take i).eraseIdx th = L0 at *
   clear hS hx hm hs hx' hnx
   (any_goals refine go lv11 0 ?_)
   repeat' (first | (refine Br.go (fun h h' => ?_) (fun h h' => ?_)) | (refine Br.mk (fun h => ?_) (fun h => ?_)))
   all_goals (try simp only [go_sem])
   refine ⟨(i + 1, w + 9), by dsimp only; omega, by dsimp only; omega, ?_⟩
   dsimp only
   rw [hnm, hnl]
   exact bQ
 obtain rfl : i = s.threads.length := by omega
 have e1 := nX s.threads
 rw [List.take_length]
 clear hi hlt hm hs
 (any_goals refine go (iS 21 lv11) 0 ?_)
 repeat' (first | (refine Br.go (fun h h' => ?_) (fun h h' => ?_)) | (refine Br.mk (fun h => ?_) (fun h => ?_)))
 all_goals (try simp only [go_sem])
 (apply pQ 1012 ((s.threads.eraseIdx th).map aL); (exact rfl); (exact iJ Aj); (exact rfl); (intro K0; (try simp only [go_sem]); exact ⟨id⟩))
 (apply pQ 1013 ((s.threads.eraseIdx th).map aL); (exact rfl); (exact iJ Aj); (exact rfl); (intro K0; (try simp only [go_sem]); exact ⟨id⟩))
 refine Rn_T [ctE 24 [.agg [NilS, aN s.shapes, bN s.texts, bJ (s.threads.eraseIdx th), cA s.ends, aN s.said, Iv s.asked, Iv s.steps], .agg [NilS, aN s.shapes, bN s.texts, bJ (s.threads.eraseIdx th), cA s.ends, aN s.said, Iv s.asked, Iv s.steps]] (Bv true) hS] ?_
 (any_goals refine go lv11 0 ?_)
 repeat' (first | (refine Br.go (fun h h' => ?_) (fun h h' => ?_)) | (refine Br.mk (fun h => ?_) (fun h => ?_)))
 all_goals (try simp only [go_sem])
theorem yQ (p : aI) (s : aC) (th : Int) (v : Int × Int) (hw : Pwf p) (hs : Swf s) : FC Cx 11 [cV p, cE s, Iv th, VV v.1 v.2] [] (Bv true) [] := by
 by_cases h : throwE p s th v = 0
 case neg => exact Of p s th v hw hs h
 have hE : throwE p s th v = if cP p s ≠ 0 then cP p s else if th < 0 ∨ (s.threads.length : Int) ≤ th then 5 else if (s.threads.getD th.toNat rO).frames.length = 0 then 8 else if fitsF s v = false then 1 else 0 := rfl
 rw [h] at hE
 by_cases hf : cP p s = 0
 case neg => rw [if_pos hf] at hE; exact absurd hE.symm hf
 rw [if_neg (by simpa using hf)] at hE
 by_cases h0 : th < 0 ∨ (s.threads.length : Int) ≤ th
 ·rw [if_pos h0] at hE; cases hE
 rw [if_neg h0] at hE
 obtain ⟨t, ht⟩ : ∃ t, s.threads[th.toNat]? = some t := ⟨s.threads[th.toNat]'(by omega), List.getElem?_eq_getElem _⟩
 have et : s.threads.getD th.toNat rO = t := by rw [List.getD_eq_getElem?_getD, ht]; rfl
 rw [et] at hE
 by_cases h2 : t.frames.length = 0
 ·rw [if_pos h2] at hE; cases hE
 rw [if_neg h2] at hE
 by_cases h3 : fitsF s v = false
 ·rw [if_pos h3] at hE; cases hE
 obtain ⟨f, hfr⟩ : ∃ f, t.frames[t.frames.length - 1]? = some f := ⟨t.frames[t.frames.length - 1]'(by omega), List.getElem?_eq_getElem _⟩
 have := Jd p s th.toNat t f v hw hs hf ht hfr (by simpa using h3)
 rwa [show ((th.toNat : Nat) : Int) = th by omega] at this
end Go.Proofs.YtbhnmolmkembdaaGreatDoor
