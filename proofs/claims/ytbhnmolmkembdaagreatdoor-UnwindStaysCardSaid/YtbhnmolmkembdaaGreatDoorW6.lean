/- Are two states the same? No condition: contracts of the program's functions. -/
import Derived.Test.YtbhnmolmkembdaaGreatDoorW5
import Derived.Test.YtbhnmolmkembdaaGreatDoorW3
import Derived.Test.YtbhnmolmkembdaaGreatDoorW4
namespace Go.Proofs.YtbhnmolmkembdaaGreatDoor
set_option linter.unusedVariables false
set_option linter.unusedSimpArgs false
set_option maxHeartbeats 10000000
open Go
set_option maxRecDepth 10000
theorem Am (x y : List aK) (hl : x.length ≤ 9223372036854775807) (hx : ∀ f ∈ x, Gwf f) (hy : ∀ f ∈ y, Gwf f) : FC Cx 66 [bL x, bL y] [] (Bv (decide (x = y))) [] := by
 have hE : ∀ z, z = [bL x, bL y, .r (.fn 129 [])] → aO Cx 128 z (Bv (decide (x = y))) := fun z hz => by
  rw [hz]
  exact aB (Iu x y 129 hl fun f hf g hg => aB (Mn f g (hx f hf) (hy g hg)) aKf rfl rfl) aOs rfl rfl
 refine aE [ctE 128 [bL x, bL y, .r (.fn 129 [])] (Bv (decide (x = y))) hE] Tryz.func66 Tryz.ntmps66 Tryz.results66 ?_
 (any_goals refine go lv66 0 ?_)
 all_goals (try simp only [go_sem])
theorem aAb (x y : aZ) (hx : Cwf x) (hy : Cwf y) : FC Cx 64 [cW x, cW y] [] (Bv (decide (x = y))) [] := by
 rw [My]
 have hV : ∀ z, z = [aN x.vals, aN y.vals] → aO Cx 65 z (Bv (decide (x.vals = y.vals))) := fun z hz => by rw [hz]; exact aB (Bx x.vals y.vals hx.vals) en65 rfl rfl
 have hF : ∀ z, z = [bL x.frames, bL y.frames] → aO Cx 66 z (Bv (decide (x.frames = y.frames))) := fun z hz => by rw [hz]; exact aB (Am x.frames y.frames hx.frames hx.frame hy.frame) en66 rfl rfl
 refine aE [ctE 65 [aN x.vals, aN y.vals] (Bv (decide (x.vals = y.vals))) hV, ctE 66 [bL x.frames, bL y.frames] (Bv (decide (x.frames = y.frames))) hF] Tryz.func64 Tryz.ntmps64 Tryz.results64 ?_
 refine goR ?_
 refine fzB 2 ?_
 refine fzB 3 ?_
 (any_goals refine go lv64 0 ?_)
 all_goals (try simp only [go_sem])
theorem aAa (x y : aJ) (hl : x.frames.length ≤ 9223372036854775807) (hx : ∀ f ∈ x.frames, Gwf f) (hy : ∀ f ∈ y.frames, Gwf f) : FC Cx 70 [cG x, cG y] [] (Bv (decide (x = y))) [] := by
 rw [Dp]
 have hF : ∀ z, z = [bL x.frames, bL y.frames] → aO Cx 66 z (Bv (decide (x.frames = y.frames))) := fun z hz => by rw [hz]; exact aB (Am x.frames y.frames hl hx hy) en66 rfl rfl
 refine aE [ctE 66 [bL x.frames, bL y.frames] (Bv (decide (x.frames = y.frames))) hF] Tryz.func70 Tryz.ntmps70 Tryz.results70 ?_
 refine goR ?_
 refine fzB 2 ?_
 refine fzB 3 ?_
 (any_goals refine go lv70 0 ?_)
 all_goals (try simp only [go_sem])
theorem Qj (x y : aC) (hx : Swf x) (hy : Swf y) : FC Cx 24 [cE x, cE y] [] (Bv (decide (x = y))) [] := by
 have hl := hx.len
 have h3 := hl.texts
 have l1 : (x.texts.map strR).length = x.texts.length := List.length_map ..
 rw [Hb]
 have hC : ∀ z, z = [bW x.cells, bW y.cells, .r (.fn 64 [])] → aO Cx 63 z (Bv (decide (x.cells = y.cells))) := fun z hz => by
  rw [hz]
  exact aB (Nj x.cells y.cells 64 hl.cells fun f hf g hg => aB (aAb f g (hx.cell f hf) (hy.cell g hg)) en64 rfl rfl) en63 rfl rfl
 have hT : ∀ z, z = [bJ x.threads, bJ y.threads, .r (.fn 70 [])] → aO Cx 69 z (Bv (decide (x.threads = y.threads))) := fun z hz => by
  rw [hz]
  exact aB (Eh x.threads y.threads 70 hl.threads fun f hf g hg => aB (aAa f g (hx.thread f hf).1 (hx.thread f hf).2 (hy.thread g hg).2) en70 rfl rfl) en69 rfl rfl
 have hS : ∀ z, z = [aN x.shapes, aN y.shapes] → aO Cx 67 z (Bv (decide (x.shapes = y.shapes))) := fun z hz => by rw [hz]; exact aB (Od x.shapes y.shapes hl.shapes) en67 rfl rfl
 have hV : ∀ z, z = [aN x.said, aN y.said] → aO Cx 65 z (Bv (decide (x.said = y.said))) := fun z hz => by rw [hz]; exact aB (Bx x.said y.said hl.said) en65 rfl rfl
 have hE : ∀ z, z = [cA x.ends, cA y.ends] → aO Cx 71 z (Bv (decide (x.ends = y.ends))) := fun z hz => by rw [hz]; exact aB (Xh x.ends y.ends hl.ends) en71 rfl rfl
 refine aE [jQ, ctE 63 [bW x.cells, bW y.cells, .r (.fn 64 [])] (Bv (decide (x.cells = y.cells))) hC, ctE 69 [bJ x.threads, bJ y.threads, .r (.fn 70 [])] (Bv (decide (x.threads = y.threads))) hT, ctE 67 [aN x.shapes, aN y.shapes] (Bv (decide (x.shapes = y.shapes))) hS, ctE 65 [aN x.said, aN y.said] (Bv (decide (x.said = y.said))) hV, ctE 71 [cA x.ends, cA y.ends] (Bv (decide (x.ends = y.ends))) hE] Tryz.func24 Tryz.ntmps24 Tryz.results24 ?_
 refine goR ?_
 refine fzB 2 ?_
 refine fzB 3 ?_
 (any_goals refine go lv24 0 ?_)
 all_goals (try simp only [go_sem])
theorem sO {α : Type} (f : α → List RV) (l : List α) {i : Nat} (h : i < l.length) (hl : l.length ≤ 9223372036854775807) : ∃ x, l[i]? = some x ∧ (l.map f).getD i [] = f x ∧ decide ((i : Int) < (l.length : Int)) = true ∧ Int.toNat (i : Int) = i ∧ IntKind.i64.wrap ((i : Int) + 1) = ((i + 1 : Nat) : Int) := by
 have hx : l[i]? = some l[i] := List.getElem?_eq_getElem h
 refine ⟨l[i], hx, aG f hx _, by rw [decide_eq_true_eq]; omega, by omega, by rw [aS] <;> omega⟩
theorem nX {α : Type} (l : List α) : decide ((l.length : Int) < (l.length : Int)) = false := by rw [decide_eq_false_iff_not]; omega
structure Wide (f f' : FnT) : Prop where
 params : f'.params = f.params
 regs : f.regs ≤ f'.regs
 gen : f'.gen = f.gen
 caught : f'.caught = f.caught
 code : f'.code = f.code
theorem Wide.rfl {f : FnT} : Wide f f := ⟨_root_.rfl, Int.le_refl _, _root_.rfl, _root_.rfl, _root_.rfl⟩
theorem Om {p : aI} : checkF p = 0 ↔ kF p = false ∧ dP p = true ∧ oQ p = true ∧ ∀ f ∈ p.fns, cB p f = true := by
 unfold checkF
 constructor
 ·intro h
  split at h
  ·cases h
  ·rename_i h1
   split at h
   ·cases h
   ·rename_i h2
    split at h
    ·cases h
    ·rename_i h3
     split at h
     ·cases h
     ·rename_i h4
      refine ⟨by simpa using h1, by simpa using h2, by simpa using h3, fun f hf => ?_⟩
      cases hq : cB p f with
      | true => rfl
      | false => exact (h4 (List.any_eq_true.2 ⟨f, hf, by rw [hq]; rfl⟩)).elim
 ·rintro ⟨h1, h2, h3, h4⟩
  rw [if_neg (by rw [h1]; simp), if_neg (by rw [h2]; simp), if_neg (by rw [h3]; simp), if_neg]
  intro h5
  obtain ⟨f, hf, hn⟩ := List.any_eq_true.1 h5
  rw [h4 f hf] at hn; cases hn
theorem Mf {p : aI} : kF p = false ↔ p.fns.length ≤ 60 ∧ p.consts.length ≤ 200 ∧ p.texts.length ≤ 200 ∧ (∀ s ∈ p.texts, s.size ≤ 200) ∧ ∀ f ∈ p.fns, f.code.length ≤ 600 ∧ f.regs ≤ 60 := by
 simp only [kF, Bool.or_eq_false_iff, decide_eq_false_iff_not, List.any_eq_false, bigS, bigF, decide_eq_true_eq, Bool.or_eq_true]
 constructor
 ·rintro ⟨⟨⟨⟨h1, h2⟩, h3⟩, h4⟩, h5⟩
  exact ⟨by omega, by omega, by omega, fun s hs => by have := h4 s hs; omega, fun f hf => by have := h5 f hf; omega⟩
 ·rintro ⟨h1, h2, h3, h4, h5⟩
  exact ⟨⟨⟨⟨by omega, by omega⟩, by omega⟩, fun s hs => by have := h4 s hs; omega⟩, fun f hf => by have := h5 f hf; omega⟩
theorem Hr {p : aI} : dP p = true ↔ 19 ≤ p.texts.length ∧ p.texts.take 19 = bP ∧ p.texts.Nodup ∧ ∀ v ∈ p.consts, badV p v = false := by
 simp only [dP, Bool.and_eq_true, decide_eq_true_eq, Bool.not_eq_true', List.any_eq_false, Bool.not_eq_true]
 exact ⟨fun ⟨⟨⟨a, b⟩, c⟩, d⟩ => ⟨a, b, c, d⟩, fun ⟨a, b, c, d⟩ => ⟨⟨⟨a, b⟩, c⟩, d⟩⟩
section
variable {p : aI}
end
theorem Iw {s : aC} {n q : Int} (h : refF s (5, n) q = true) : 0 ≤ n ∧ n < (s.cells.length : Int) ∧ (s.cells.getD n.toNat cS).kind = q := by
 unfold refF at h
 simp only [Bool.and_eq_true, decide_eq_true_eq] at h
 exact ⟨h.1.1.2, h.1.2, h.2⟩
section
variable {C : Ctx} {T : List (Ct C)} {L : List (Nat × List Nat)} {n : Nat} {B B1 B2 : Prop} {r r' r'' : List It} {st st' : St} {K : Exit → St → Prop} {A : St → Prop}
variable {k k' : Nat} {done done' : List (Nat × Nat)} {o : Oper} {l : List Oper} {j d d' : Nat} {b w q : Bool} {x : AV}
variable {fps fps' : List (List Loc × List Loc)} {edges : List (List Nat)} {rds : List Loc} {ws : List (Loc × Cont)}
theorem goN (L : List (Nat × List Nat)) (n : Nat) (hb : B)
  (h : Gw T L n B (Rn C T r st K) := by
   repeat' (first | (focus (intro K0; (try simp only [go_sem, *]); (first | exact ⟨id⟩ | (refine ⟨fun h => ?_⟩; (repeat' (first | exact h | refine And.intro ?_ ?_ | omega | rfl)); done)))) | (apply Gw.seq) | (apply Gw.block) | (apply Gw.region; (exact rfl)) | (apply Gw.op; (exact rfl)) | (apply Gw.onil) | ((first | apply Gw.g | apply Gw.dg); (exact rfl); (exact rfl); (focus (intro K0; (try simp only [aT, ev, Nat.reduceEqDiff, ↓reduceIte]); exact ⟨id⟩))) | (with_reducible (first | apply Gw.yes | apply Gw.dyes)) | ((with_reducible (first | apply Gw.tno | apply Gw.fno | apply Gw.un | apply Gw.dtno | apply Gw.dfno | apply Gw.dun)); (exact rfl)) | ((first | apply Gw.never | apply Gw.dnever); (focus (intro K0; (try simp only [go_sem]); exact ⟨id⟩)); (exact rfl)) | ((first | apply Gw.lazy | apply Gw.dlazy); (exact rfl); (focus (intro K0; (try simp only [go_sem]); exact ⟨id⟩)); (focus (first | (simp only [Nat.reduceLT]; done) | omega)); (focus (intro hw0; (try simp only [Bool.and_eq_true, Bool.not_eq_true', cT, cJ] at hw0); (focus (intro K0; (try simp only [go_sem, *]); (first | exact ⟨id⟩ | (refine ⟨fun h => ?_⟩; (repeat' (first | exact h | refine And.intro ?_ ?_ | omega | rfl)); done))))))) | (apply Gw.c; (focus (intro K0; (try simp only [aT, ev, Nat.reduceEqDiff, ↓reduceIte]); exact ⟨id⟩))) | (with_reducible (first | apply Gw.ct | apply Gw.cf)) | (apply Gw.unroll) | (apply Gw.skip) | (apply Gw.exit rfl) | (apply Gw.bb) | (apply Gw.drawn; (exact rfl)) | (apply Gw.dop; (exact rfl)) | (apply Gw.dnil (by kernel_rfl)) | ((with_reducible (first | apply Gw.gsplit | apply Gw.dsplit | apply Gw.csplit)) <;> (first | (intro h; (have h' := h); (try simp only [decide_eq_true_eq, decide_eq_false_iff_not, Bool.not_eq_true', Bool.not_eq_false', Bool.and_eq_true, Bool.or_eq_true, Bool.or_eq_false_iff, beq_iff_eq, bne_iff_ne, ne_eq, Bool.not_true, Bool.not_false, not_false_eq_true, reduceCtorEq, beq_eq_false_iff_ne, bne_eq_false_iff_eq] at h'); (first | apply Gw.stt | apply Gw.dstt | done)) | skip)) | (apply Gw.outck rfl rfl) | (apply Gw.out rfl) | (apply Gw.tret) | (apply Gw.tout rfl) | (apply Gw.tthru rfl) | (first | apply Gw.nilthen) | (apply Gw.ls) | (apply Gw.nil))
   all_goals (first | exact Gw.leaf | exact True)) : Rn C T r st K := h.run hb
end
abbrev valC (v : Int × Int) : List AV := [Iv v.1, Iv v.2]
abbrev strC (s : ByteArray) : List AV := [Sv s]
theorem Du (l : List (Int × Int)) : ∀ row ∈ l.map valC, aP bD row = true := fun row h => by
 obtain ⟨x, _, rfl⟩ := List.mem_map.1 h; rfl
@[go_sem] theorem Rv (l : List (Int × Int)) : ((l.map valR).map fun r => r.map AV.r) = l.map valC := by rw [List.map_map]; rfl
theorem xQ (xs : List (List RV)) : ∀ row ∈ (valsOf xs).map valC, aP bD row = true := Du _
theorem uS (xs : List (List RV)) (h : xs = (valsOf xs).map valR ∧ xs.length ≤ 1000000000) : FC Cx 27 [.r (.rs 2 xs)] [] (.os 0 1) [(0, 1, .sl 50 2 ((valsOf xs).map valC))] := by
 have hl : (valsOf xs).length = xs.length := by simp [valsOf]
 have hlenS : ∀ l : List (Int × Int), (l.map valC).length = l.length := fun l => List.length_map ..
 obtain ⟨h1, h2⟩ := h
 generalize valsOf xs = l at h1 hl
 subst h1
 rw [← hl] at h2
 refine iB [] (i := 0) [.os 0 1] Tryz.func27 rfl Tryz.ntmps27 (by simp) Tryz.results27 (Du _) ?_
 refine rnst ?_
 iterate 8 (any_goals (first | (focus (intro K0; (try simp only [go_sem, *]); (first | exact ⟨id⟩ | (refine ⟨fun h => ?_⟩; (repeat' (first | exact h | refine And.intro ?_ ?_ | omega | rfl)); done)))) | (refine kR ?_) | (refine fM ?_) | (apply cZ lv27; (exact rfl)) | (refine dI ?_) | (apply kA; (exact rfl)) | (refine fI ?_) | ((first | apply Rn_g | apply Rd_g); (exact rfl); (exact rfl); (focus (intro K0; (try simp only [aT, ev, Nat.reduceEqDiff, ↓reduceIte]); exact ⟨id⟩))) | (with_reducible (first | apply gT | apply gX)) | ((with_reducible (first | apply fA | apply fF | apply jC | apply fJ | apply fE | apply iV)); (exact rfl)) | ((first | apply dR | apply eA); (focus (intro K0; (try simp only [go_sem]); exact ⟨id⟩)); (exact rfl)) | ((first | apply fD | apply fL); (exact rfl); (focus (intro K0; (try simp only [go_sem]); exact ⟨id⟩)); (focus (first | (simp only [Nat.reduceLT]; done) | omega)); (focus (intro hw0; (try simp only [Bool.and_eq_true, Bool.not_eq_true', cT, cJ] at hw0); (focus (intro K0; (try simp only [go_sem, *]); (first | exact ⟨id⟩ | (refine ⟨fun h => ?_⟩; (repeat' (first | exact h | refine And.intro ?_ ?_ | omega | rfl)); done))))))) | (apply Rn_c; (focus (intro K0; (try simp only [aT, ev, Nat.reduceEqDiff, ↓reduceIte]); exact ⟨id⟩))) | (with_reducible (first | refine nU ?_ | refine oA ?_)) | (refine gR ?_) | (refine hZ rfl ?_) | (refine Rn_b ?_) | (apply eZ lv27; (exact rfl)) | (refine gP ?_) | (apply jW; (exact rfl)) | (refine kG (by kernel_rfl) ?_) | ((with_reducible (first | refine dX (fun h => ?_) (fun h => ?_) | refine dU (fun h => ?_) (fun h => ?_) | refine eE (fun h => ?_) (fun h => ?_))) <;> (have h' := h) <;> (try simp only [decide_eq_true_eq, decide_eq_false_iff_not, Bool.not_eq_true', Bool.not_eq_false', Bool.and_eq_true, Bool.or_eq_true, Bool.or_eq_false_iff, beq_iff_eq, bne_iff_ne, ne_eq, Bool.not_true, Bool.not_false, not_false_eq_true, reduceCtorEq, beq_eq_false_iff_ne, bne_eq_false_iff_eq] at h') <;> (first | apply mA | apply oC)) | (refine eB rfl rfl ?_) | (first | refine eD ?_ | refine iW ?_ | refine cM ?_) | (refine dE (T := []) ?_) | (refine jX ?_)))
 ·intro K0; (try simp only [go_sem]); exact ⟨id⟩
 refine iP (sz := 2) rfl (.inl rfl) rfl rfl (Nat.le_of_ble_eq_true rfl) rfl rfl (by kernel_rfl) (fun q hq => ?_)
 apply kX
 ·intro K0; (try simp only [go_sem]); exact ⟨id⟩
 cases q with
 | true =>
  have h0 : l = [] := by have := hq rfl; simpa using this
  subst h0
  (any_goals refine go lv27 0 ?_)
  all_goals (try simp only [go_sem])
 | false =>
  clear hq
  (any_goals refine go lv27 0 ?_)
  all_goals (try simp only [go_sem])
def fR (st : St) (d : Nat) (args : List AV) (K : AV → List Loc → List (Loc × Cont) → Prop) : Prop := match args with
 | [.r (.rs 2 xs)] => (xs = (valsOf xs).map valR ∧ xs.length ≤ 1000000000) ∧ K (ren (fun _ => d) (fun _ => st.cur d) (.os 0 1)) [.R d] [(.R d, .s (1 + st.cur d) (.sl 50 2 ((valsOf xs).map valC)))]
 | _ => False
theorem vF (st : St) (d : Nat) (args : List AV) (K : AV → List Loc → List (Loc × Cont) → Prop) (h : fR st d args K) : ∃ r ls outs, cO Cx 27 st args r ls outs ∧ K r ls outs := by
 unfold fR at h
 split at h
 ·exact ⟨_, _, _, cO.own (uS _ h.1) rfl (xQ _) rfl d, h.2⟩
 ·exact h.elim
noncomputable def mW : Ct Cx := .res 27 fR en27 vF
@[go_sem] theorem Pw : mW.g = 27 := rfl
@[go_sem] theorem Na (c : Call) (fop : Operand) (caps : List AV) (o : Oper) (st : St) (K : List Loc → List (Loc × Cont) → Prop) : mW.run c fop caps o st K = jH fR c fop caps o st K := rfl
@[go_sem] theorem Oq : type_of% @fR.eq_def := @fR.eq_def
theorem Hm (xs : List (List RV)) (h : xs = (valsOf xs).map valR ∧ xs.length ≤ 1000000000) : FC Cx 27 [.r (.rs 2 xs)] [] (aN (valsOf xs)) [] := (uS xs h).freeze1 (Rv _).symm
def lB (args : List AV) (K : AV → Prop) : Prop := match args with
 | [.r (.rs 2 xs)] => (xs = (valsOf xs).map valR ∧ xs.length ≤ 1000000000) ∧ K (aN (valsOf xs))
 | _ => False
noncomputable abbrev Gm : Ct Cx := .pure 27 lB fun args K h => by
 unfold lB at h; split at h; exact ⟨_, aB (Hm _ h.1) en27 rfl rfl, h.2⟩; exact h.elim
@[go_sem] theorem Sc : type_of% @lB.eq_def := @lB.eq_def
theorem Si (l : List ByteArray) : ∀ row ∈ l.map strC, aP bD row = true := fun row h => by
 obtain ⟨x, _, rfl⟩ := List.mem_map.1 h; rfl
@[go_sem] theorem aGf : ∀ l : List ByteArray, kT (l.map strC) = true
 | [] => rfl
 | x :: l => aGf l
@[go_sem] theorem aD2 (l : List ByteArray) : ((l.map strR).map fun r => r.map AV.r) = l.map strC := by rw [List.map_map]; rfl
theorem Dg (xs : List (List RV)) (h : xs = (strsOf xs).map strR ∧ xs.length ≤ 1000000000) : FC Cx 23 [.r (.rs 1 xs)] [] (.os 0 1) [(0, 1, .sl 9 1 ((strsOf xs).map strC))] := by
 have hl : (strsOf xs).length = xs.length := by simp [strsOf]
 have hlenS : ∀ l : List ByteArray, (l.map strC).length = l.length := fun l => List.length_map ..
 obtain ⟨h1, h2⟩ := h
 generalize strsOf xs = l at h1 hl
 subst h1
 rw [← hl] at h2
 refine iB [] (i := 0) [.os 0 1] Tryz.func23 rfl Tryz.ntmps23 (by simp) Tryz.results23 (Si _) ?_
 refine rnst ?_
 iterate 8 (any_goals (first | (focus (intro K0; (try simp only [go_sem, *]); (first | exact ⟨id⟩ | (refine ⟨fun h => ?_⟩; (repeat' (first | exact h | refine And.intro ?_ ?_ | omega | rfl)); done)))) | (refine kR ?_) | (refine fM ?_) | (apply cZ lv23; (exact rfl)) | (refine dI ?_) | (apply kA; (exact rfl)) | (refine fI ?_) | ((first | apply Rn_g | apply Rd_g); (exact rfl); (exact rfl); (focus (intro K0; (try simp only [aT, ev, Nat.reduceEqDiff, ↓reduceIte]); exact ⟨id⟩))) | (with_reducible (first | apply gT | apply gX)) | ((with_reducible (first | apply fA | apply fF | apply jC | apply fJ | apply fE | apply iV)); (exact rfl)) | ((first | apply dR | apply eA); (focus (intro K0; (try simp only [go_sem]); exact ⟨id⟩)); (exact rfl)) | ((first | apply fD | apply fL); (exact rfl); (focus (intro K0; (try simp only [go_sem]); exact ⟨id⟩)); (focus (first | (simp only [Nat.reduceLT]; done) | omega)); (focus (intro hw0; (try simp only [Bool.and_eq_true, Bool.not_eq_true', cT, cJ] at hw0); (focus (intro K0; (try simp only [go_sem, *]); (first | exact ⟨id⟩ | (refine ⟨fun h => ?_⟩; (repeat' (first | exact h | refine And.intro ?_ ?_ | omega | rfl)); done))))))) | (apply Rn_c; (focus (intro K0; (try simp only [aT, ev, Nat.reduceEqDiff, ↓reduceIte]); exact ⟨id⟩))) | (with_reducible (first | refine nU ?_ | refine oA ?_)) | (refine gR ?_) | (refine hZ rfl ?_) | (refine Rn_b ?_) | (apply eZ lv23; (exact rfl)) | (refine gP ?_) | (apply jW; (exact rfl)) | (refine kG (by kernel_rfl) ?_) | ((with_reducible (first | refine dX (fun h => ?_) (fun h => ?_) | refine dU (fun h => ?_) (fun h => ?_) | refine eE (fun h => ?_) (fun h => ?_))) <;> (have h' := h) <;> (try simp only [decide_eq_true_eq, decide_eq_false_iff_not, Bool.not_eq_true', Bool.not_eq_false', Bool.and_eq_true, Bool.or_eq_true, Bool.or_eq_false_iff, beq_iff_eq, bne_iff_ne, ne_eq, Bool.not_true, Bool.not_false, not_false_eq_true, reduceCtorEq, beq_eq_false_iff_ne, bne_eq_false_iff_eq] at h') <;> (first | apply mA | apply oC)) | (refine eB rfl rfl ?_) | (first | refine eD ?_ | refine iW ?_ | refine cM ?_) | (refine dE (T := []) ?_) | (refine jX ?_)))
 ·intro K0; (try simp only [go_sem]); exact ⟨id⟩
 refine iP (sz := 1) rfl (.inl rfl) rfl rfl (Nat.le_of_ble_eq_true rfl) rfl rfl (by kernel_rfl) (fun q hq => ?_)
 apply kX
 ·intro K0; (try simp only [go_sem]); exact ⟨id⟩
 cases q with
 | true =>
  have h0 : l = [] := by have := hq rfl; simpa using this
  subst h0
  (any_goals refine go lv23 0 ?_)
  all_goals (try simp only [go_sem])
 | false =>
  clear hq
  (any_goals refine go lv23 0 ?_)
  all_goals (try simp only [go_sem])
theorem Iz (xs : List (List RV)) (h : xs = (strsOf xs).map strR ∧ xs.length ≤ 1000000000) : FC Cx 23 [.r (.rs 1 xs)] [] (bN (strsOf xs)) [] := (Dg xs h).freeze1 (aD2 _).symm
def kY (args : List AV) (K : AV → Prop) : Prop := match args with
 | [.r (.rs 1 xs)] => (xs = (strsOf xs).map strR ∧ xs.length ≤ 1000000000) ∧ K (bN (strsOf xs))
 | _ => False
noncomputable abbrev uR : Ct Cx := .pure 23 kY fun args K h => by
 unfold kY at h; split at h; exact ⟨_, aB (Iz _ h.1) en23 rfl rfl, h.2⟩; exact h.elim
@[go_sem] theorem Td : type_of% @kY.eq_def := @kY.eq_def
def rowB (R : RV → RV → Prop) : List RV → List RV → Prop
 | [], [] => True
 | x :: l, y :: m => R x y ∧ rowB R l m
 | _, _ => False
def Gl (R : RV → RV → Prop) : List (List RV) → List (List RV) → Prop
 | [], [] => True
 | x :: l, y :: m => rowB R x y ∧ Gl R l m
 | _, _ => False
def nilX (R : RV → RV → Prop) : RV → RV → Prop
 | .v (.slice none 0 0), .rs _ [] => True
 | .rs sz rows, .rs sz' rows' => sz = sz' ∧ Gl R rows rows'
 | _, _ => False
def nilB : Nat → RV → RV → Prop
 | 0, x, y => x = y
 | n + 1, x, y => x = y ∨ nilX (nilB n) x y
theorem tP {R : RV → RV → Prop} : ∀ {l m : List RV}, rowB R l m → m.length = l.length
 | [], [], _ => rfl
 | _ :: _, _ :: _, h => by simp [tP h.2]
 | [], _ :: _, h => h.elim
 | _ :: _, [], h => h.elim
theorem vP {R : RV → RV → Prop} : ∀ {l m : List RV} {j : Nat} {x y : RV}, rowB R l m → l[j]? = some x → m[j]? = some y → R x y
 | x' :: l, y' :: m, 0, x, y, h, hx, hy => by simp at hx hy; subst hx; subst hy; exact h.1
 | x' :: l, y' :: m, j + 1, x, y, h, hx, hy => vP h.2 (by simpa using hx) (by simpa using hy)
 | [], _, _, _, _, _, hx, _ => by simp at hx
 | _ :: _, [], _, _, _, _, _, hy => by simp at hy
theorem zL {R : RV → RV → Prop} : ∀ {l m : List (List RV)}, Gl R l m → m.length = l.length
 | [], [], _ => rfl
 | _ :: _, _ :: _, h => by simp [zL h.2]
 | [], _ :: _, h => h.elim
 | _ :: _, [], h => h.elim
theorem wI {R : RV → RV → Prop} : ∀ {l m : List (List RV)} {j : Nat} {x y : List RV}, Gl R l m → l[j]? = some x → m[j]? = some y → rowB R x y
 | x' :: l, y' :: m, 0, x, y, h, hx, hy => by simp at hx hy; subst hx; subst hy; exact h.1
 | x' :: l, y' :: m, j + 1, x, y, h, hx, hy => wI h.2 (by simpa using hx) (by simpa using hy)
 | [], _, _, _, _, _, hx, _ => by simp at hx
 | _ :: _, [], _, _, _, _, _, hy => by simp at hy
theorem vU : ∀ (n : Nat) (x y : RV), nilB n x y → NilD x y
 | 0, x, y, h => by have : x = y := h; subst this; exact .same _
 | n + 1, x, y, h => by
  rcases (show x = y ∨ nilX (nilB n) x y from h) with rfl | h2
  ·exact .same _
  ·replace h := h2
   unfold nilX at h
   split at h
   ·exact .nil _
   ·obtain ⟨rfl, h⟩ := h
    exact .rs _ _ _ (zL h) (fun i row row' h1 h2 => tP (wI h h1 h2)) fun i j row row' x y h1 h2 h3 h4 => vU n x y (vP (wI h h1 h2) h3 h4)
   ·exact h.elim
def bS (p : aI) : aC := ⟨[⟨4, 0, [], []⟩], [(-1, -1)], p.texts, [⟨[⟨0, 0, -1, -1, (5, 0), List.replicate (p.fns.getD 0 fn0).regs.toNat (0, 0), []⟩], 0, 0, (0, 0)⟩], [], [], 0, 0⟩
def fW : aC := ⟨[], [], [], [], [], [], 0, 0⟩
structure aKu (s : aC) : Prop where
 cellN : s.cells.length ≤ 300
 textN : s.texts.length ≤ 300
 saidN : s.said.length ≤ 200
 endN : s.ends.length ≤ 100
 bytes : ∀ t ∈ s.texts, t.size ≤ 200
 valN : ∀ c ∈ s.cells, bigC c = false
 shapes : Sh.checkF s.shapes = 0
 words : 19 ≤ s.texts.length ∧ s.texts.take 19 = bP ∧ s.texts.Nodup
 names : ∀ x ∈ s.shapes, x.2 < (s.texts.length : Int)
 cells : ∀ c ∈ s.cells, gC s c = true
 said : ∀ v ∈ s.said, v.1 = 4 ∧ fitsF s v = true
 ends : ∀ e ∈ s.ends, (0 ≤ e.cell ∧ e.cell ≤ (s.cells.length : Int) - 1) ∧ isF' s e.fn 4 = true
theorem jY {s : aC} : fC s = 0 ↔ aKu s := by
 have hL : lT s = false ↔ s.cells.length ≤ 300 ∧ s.texts.length ≤ 300 ∧ s.said.length ≤ 200 ∧ s.ends.length ≤ 100 ∧ (∀ t ∈ s.texts, t.size ≤ 200) ∧ ∀ c ∈ s.cells, bigC c = false := by
  simp only [lT, Bool.or_eq_false_iff, decide_eq_false_iff_not, List.any_eq_false, Bool.not_eq_true]
  constructor
  ·rintro ⟨⟨⟨⟨⟨h1, h2⟩, h3⟩, h4⟩, h5⟩, h6⟩
   exact ⟨by omega, by omega, by omega, by omega, fun t ht => by have := h5 t ht; simp [bigS] at this; omega, h6⟩
  ·rintro ⟨h1, h2, h3, h4, h5, h6⟩
   exact ⟨⟨⟨⟨⟨by omega, by omega⟩, by omega⟩, by omega⟩, fun t ht => by have := h5 t ht; simp [bigS]; omega⟩, h6⟩
 unfold fC
 constructor
 ·intro h
  split at h
  ·cases h
  rename_i h0
  obtain ⟨a1, a2, a3, a4, a5, a6⟩ := hL.1 (by simpa using h0)
  split at h
  ·rename_i h1; exact absurd h h1
  rename_i h1
  split at h
  ·cases h
  rename_i h2
  split at h
  ·cases h
  rename_i h3
  split at h
  ·cases h
  rename_i h4
  simp only [Bool.or_eq_true, not_or, Bool.not_eq_true', Bool.not_eq_false, List.any_eq_true, not_exists, not_and] at h2
  obtain ⟨⟨b1, b2⟩, b3⟩ := h2
  have b1' : (decide (19 ≤ s.texts.length) && decide (s.texts.take 19 = bP) && decide s.texts.Nodup) = true := b1
  simp only [Bool.and_eq_true, decide_eq_true_eq] at b1'
  simp only [List.any_eq_true, not_exists, not_and] at h3 h4
  refine ⟨a1, a2, a3, a4, a5, a6, Classical.not_not.1 h1, ⟨b1'.1.1, b1'.1.2, b1'.2⟩, fun x hx => ?_, fun c hc => ?_, fun v hv => ?_, fun e he => ?_⟩
  ·have := b2 x hx; simp at this; omega
  ·have := b3 c hc; simpa using this
  ·have := h3 v hv; simp [badS] at this; exact this
  ·have := h4 e he; simp [badE] at this; exact this
 ·intro h
  rw [if_neg (by rw [hL.2 ⟨h.cellN, h.textN, h.saidN, h.endN, h.bytes, h.valN⟩]; simp), if_neg (fun h1 => h1 h.shapes), if_neg, if_neg, if_neg]
  ·intro h1
   obtain ⟨e, he, h2⟩ := List.any_eq_true.1 h1
   have := h.ends e he
   simp [badE, this.1, this.2] at h2
  ·intro h1
   obtain ⟨v, hv, h2⟩ := List.any_eq_true.1 h1
   have := h.said v hv
   simp [badS, this.1, this.2] at h2
  ·intro h1
   simp only [Bool.or_eq_true, Bool.not_eq_true', List.any_eq_true] at h1
   rcases h1 with (h1 | ⟨x, hx, h1⟩) | ⟨c, hc, h1⟩
   ·have : kI s.texts = true := by
     unfold kI
     rw [decide_eq_true h.words.1, decide_eq_true h.words.2.1, decide_eq_true h.words.2.2]; rfl
    rw [this] at h1; cases h1
   ·have := h.names x hx; simp at h1; omega
   ·rw [h.cells c hc] at h1; cases h1
theorem Yh {f : FnT} : ∀ (k : Nat) (W : WT), W.bad = true → (runW f k W).bad = true
 | 0, W, h => h
 | k + 1, W, h => by
  show (if dN W = true then runW f k (fV f W) else W).bad = true
  rw [if_neg (by unfold dN; rw [h]; simp)]; exact h
theorem Tg {f : FnT} (hc : Cok f) {t : Int} {l : List (Int × Int)} : ∀ (k : Nat) (W : WT), Wiv f W → To f W t l → To f (runW f k W) t l
 | 0, W, _, h => h
 | k + 1, W, hi, h => by
  show To f (if dN W = true then runW f k (fV f W) else W) t l
  split
  ·rename_i hg
   have h0 : 0 < W.todo.length := by simp [dN] at hg; exact hg.1
   obtain ⟨q1, q2, q3, q4⟩ := Bp hi h0
   exact Tg hc k _ (mY hi hc hg).1 ((Ya (n := lY W) q1 hc q3).keeps t l ⟨h.lo, h.hi, h.few, h.seen, h.out⟩)
  ·exact h
theorem Hd {f : FnT} (hc : Cok f) (hb : (bU f).bad = false) : To f (bU f) 0 [] := by
 have hb1 : (bF f 0 [] (W0 f)).bad = false := by
  cases h : (bF f 0 [] (W0 f)).bad with
  | false => rfl
  | true => have := Yh (f := f) (2 * f.code.length) _ h; unfold bU at hb; rw [this] at hb; cases hb
 exact Tg hc _ _ (qR hc).1 (sQ (Dl f).1 (Int.le_refl 0) hb1)
theorem Ft {p : aI} (hw : Pwf p) (hp : checkF p = 0) : oP p (bS p) := by
 obtain ⟨c1, c2, c3, c4⟩ := Om.1 hp
 obtain ⟨l1, l2, l3, l4, l5⟩ := Mf.1 c1
 obtain ⟨t1, t2, t3, t4⟩ := Hr.1 c2
 have hn := iF hp
 obtain ⟨F, hF⟩ : ∃ F, p.fns[0]? = some F := ⟨p.fns[0]'(by omega), List.getElem?_eq_getElem _⟩
 have eF : p.fns.getD 0 fn0 = F := by rw [List.getD_eq_getElem?_getD, hF]; rfl
 have hm := List.mem_of_getElem? hF
 obtain ⟨hpok, hfun, hcok, hbad⟩ := lZ hw hp hm
 have hr1 : 1 ≤ F.regs := by
  unfold cB at hfun
  split at hfun
  ·cases hfun
  ·omega
 have h1 : F.params = 0 ∧ F.caught.length = 0 ∧ F.gen = false := by
  unfold oQ at c3
  cases hfs : p.fns with
  | nil => rw [hfs] at hn; simp at hn
  | cons a l =>
   rw [hfs] at c3 hF
   simp at hF; subst hF
   simp at c3
   exact ⟨c3.1.1, by simpa using c3.1.2, c3.2⟩
 have hto := Hd hcok hbad
 have hheap : fC (bS p) = 0 := jY.2 ⟨by simp [bS], by simp [bS]; omega, by simp [bS], by simp [bS], l4, fun c hc => by simp [bS] at hc; subst hc; rfl, by
   show Sh.checkF [(-1, -1)] = 0
   unfold Sh.checkF
   rw [if_neg (by simp), if_pos]
   refine ⟨rfl, fun k q hq => by simp at hq⟩, ⟨t1, t2, t3⟩, fun x hx => by simp [bS] at hx; subst hx; show (-1 : Int) < _; omega, fun c hc => by
   simp [bS] at hc; subst hc
   simp [gC, numF, kP, dF], fun v hv => by simp [bS] at hv, fun e he => by simp [bS] at he⟩
 refine ⟨hp, hheap, by simp [uW, bS], by simp [bS], by simp [bS], by simp [bS], by simp [bS], fun c hc => ?_, fun t ht => ?_, by simp [iM, gensL, bS], fun k c hk k5 => ?_⟩
 ·simp [bS] at hc; subst hc
  unfold dW
  rw [if_pos rfl]
  show (decide ((0 : Int) < (p.fns.length : Int)) && decide (((0 : Nat) : Int) = ((p.fns.getD 0 fn0).caught.length : Int))) = true
  rw [eF, h1.2.1]
  simp; omega
 ·simp [bS] at ht; subst ht
  have hfit : fitsF (bS p) (0, 0) = true := by simp [fitsF, jA]
  refine ⟨by simp [jF, hfit], ⟨?_, fun h => by cases h⟩, trivial⟩
  have href : refF (bS p) (5, 0) 4 = true := by simp [refF, bS]
  have hall : (List.replicate F.regs.toNat ((0 : Int), (0 : Int))).all (fitsF (bS p)) = true := List.all_eq_true.2 fun v hv => by rw [List.eq_of_mem_replicate hv]; exact hfit
  have hhi := hto.hi
  have h2 := hto.seen
  have h3 := hto.out
  unfold onF cR
  simp only [Int.toNat_zero, eF, href, hall, h1.2.2, Bool.and_true, Bool.true_and]
  rw [show (0 : Int).toNat = 0 from rfl] at h2 h3
  rw [h2, h3]
  simp only [List.length_replicate]
  have e0 : p.fns[0]?.getD fn0 = F := by rw [hF]; rfl
  rw [e0, hall]
  have a1 : (0 : Int) ≤ (p.fns.length : Int) - 1 := by omega
  have a2 : ((F.regs.toNat : Nat) : Int) = F.regs := by omega
  have a3 : (0 : Int) ≤ (F.code.length : Int) - 1 := by omega
  have a4 : ((bS p).cells.getD 0 cS).num = 0 := rfl
  simp only [Bool.and_eq_true, decide_eq_true_eq]
  repeat' (first | exact trivial | exact a1 | exact a2 | exact a3 | exact a4 | refine And.intro ?_ ?_ | (simp; done) | omega)
 ·have : k = 0 ∧ c.kind = 4 := by
   cases k with
   | zero => simp [bS] at hk; subst hk; exact ⟨rfl, rfl⟩
   | succ k => simp [bS] at hk
  omega
def nilT : AV → Prop
 | .r (.rs _ []) => True
 | _ => False
def rowA : List AV → List AV → Prop
 | [], [] => True
 | x :: l, y :: m => (y = x ∨ x = NilS ∧ nilT y) ∧ rowA l m
 | _, _ => False
def Er : List (List AV) → List (List AV) → Prop
 | [], [] => True
 | x :: l, y :: m => rowA x y ∧ Er l m
 | _, _ => False
theorem Lh : ∀ {l m : List AV} {j : Nat} {x y : AV}, rowA l m → l[j]? = some x → m[j]? = some y → y = x ∨ x = NilS ∧ nilT y
 | x' :: l, y' :: m, 0, x, y, h, hx, hy => by simp at hx hy; subst hx; subst hy; exact h.1
 | x' :: l, y' :: m, j + 1, x, y, h, hx, hy => Lh h.2 (by simpa using hx) (by simpa using hy)
 | [], _, _, _, _, _, hx, _ => by simp at hx
 | _ :: _, [], _, _, _, _, _, hy => by simp at hy
theorem Fi : ∀ {l m : List (List AV)} {j : Nat} {x y : List AV}, Er l m → l[j]? = some x → m[j]? = some y → rowA x y
 | x' :: l, y' :: m, 0, x, y, h, hx, hy => by simp at hx hy; subst hx; subst hy; exact h.1
 | x' :: l, y' :: m, j + 1, x, y, h, hx, hy => Fi h.2 (by simpa using hx) (by simpa using hy)
 | [], _, _, _, _, _, hx, _ => by simp at hx
 | _ :: _, [], _, _, _, _, _, hy => by simp at hy
theorem Qz {rows rows' : List (List AV)} (h : Er rows rows') (i j : Nat) (row row' : List AV) (x x' : AV) (h1 : rows[i]? = some row) (h2 : rows'[i]? = some row') (h3 : row[j]? = some x) (h4 : row'[j]? = some x') (cur : Nat → Nat) (g : Gh) (w : World) (N : Nat → Prop) (v : Value) (hv : AR cur g w N x v) : AR cur g w N x' v := by
 rcases Lh (Fi h h1 h2) h3 h4 with rfl | ⟨rfl, hn⟩
 ·exact hv
 ·rw [bO hv]
  unfold nilT at hn
  split at hn
  ·exact .r (.nil _)
  ·exact hn.elim
theorem Qh {C : Ctx} {T : List (Ct C)} {r : List It} {st st' : St} {K : Exit → St → Prop} (k : Nat) {ver el sz : Nat} {rows : List (List AV)} (rows' : List (List AV)) (hk : aA k st.rs = (ver, .sl el sz rows)) (hl : rows'.length = rows.length) (hr : ∀ row ∈ rows', (row.length, noNd row) = (sz, true))
  (hv : Er rows rows') (hc : hasC r = true) (hst : ∀ K0 : St → Prop, Imp (K0 st') (K0 { st with rs := putR k (ver, .sl el sz rows') st.rs })) (hk2 : Rn C T r st' K) : Rn C T r st K :=
 Gk k rows' hk hl hr (Qz hv) hc hst hk2
def tS (p : aI) : aC := if checkF p = 0 then bS p else fW
def Wp (args : List AV) (K : AV → Prop) : Prop := match args with
 | [.agg [.r (.rs 4 ca), .r (.rs 2 sh), .r (.rs 1 tx), .r (.rs 5 th), .r (.rs 3 en), .r (.rs 2 sd), .r (.v (.int .i64 aq)), .r (.v (.int .i64 sq))], .agg [.r (.rs 4 ca'), .r (.rs 2 sh'), .r (.rs 1 tx'), .r (.rs 5 th'), .r (.rs 3 en'), .r (.rs 2 sd'), .r (.v (.int .i64 aq')), .r (.v (.int .i64 sq'))]] => (((ca = (cellsOf ca).map bA ∧ sh = (valsOf sh).map valR ∧ tx = (strsOf tx).map strR ∧ th = (threadsOf th).map aL ∧ en = (aH en).map endR ∧ sd = (valsOf sd).map valR) ∧ (ca' = (cellsOf ca').map bA ∧ sh' = (valsOf sh').map valR ∧ tx' = (strsOf tx').map strR ∧ th' = (threadsOf th').map aL ∧ en' = (aH en').map endR ∧ sd' = (valsOf sd').map valR)) ∧ Swf ⟨cellsOf ca, valsOf sh, strsOf tx, threadsOf th, aH en, valsOf sd, aq, sq⟩ ∧ Swf ⟨cellsOf ca', valsOf sh', strsOf tx', threadsOf th', aH en', valsOf sd', aq', sq'⟩) ∧ K (Bv (decide (⟨cellsOf ca, valsOf sh, strsOf tx, threadsOf th, aH en, valsOf sd, aq, sq⟩ = (⟨cellsOf ca', valsOf sh', strsOf tx', threadsOf th', aH en', valsOf sd', aq', sq'⟩ : aC))))
 | _ => False
attribute [go_sem] Wp
theorem Lo {n : Int} (h1 : -9223372036854775808 ≤ n) (h2 : n ≤ 9223372036854775807) : WI n := by
 have e1 : IntKind.i64.min = -9223372036854775808 := rfl
 have e2 : IntKind.i64.max = 9223372036854775807 := rfl
 show (decide (IntKind.i64.min ≤ n) && decide (n ≤ IntKind.i64.max)) = true
 rw [e1, e2]
 simp only [Bool.and_eq_true, decide_eq_true_eq]
 exact ⟨h1, h2⟩
theorem Ij {p : aI} (hw : Pwf p) (hp : checkF p = 0) : (p.fns.getD 0 fn0).regs ≤ 60 := by
 have hn := iF hp
 have hF : p.fns[0]? = some p.fns[0] := List.getElem?_eq_getElem _
 obtain ⟨hpok, _⟩ := lZ hw hp (List.mem_of_getElem? hF)
 rw [List.getD_eq_getElem?_getD, hF]
 exact (hpok.fn _ (List.mem_of_getElem? hF)).2.1
theorem Rq {p : aI} (hw : Pwf p) : Swf (tS p) := by
 have hsz := hw.sz.texts
 unfold tS
 split
 ·rename_i hp
  have hr := Ij hw hp
  refine ⟨⟨by simp [bS], by simp [bS], by simpa [bS] using hsz, by simp [bS], by simp [bS], by simp [bS]⟩, ?_, fun c hc => ?_, fun t ht => ?_⟩
  ·intro q hq
   simp [bS] at hq; subst hq
   exact ⟨Lo (by simp) (by simp), Lo (by simp) (by simp)⟩
  ·simp [bS] at hc; subst hc
   exact ⟨by simp, by simp, by simp, by simp⟩
  ·simp [bS] at ht; subst ht
   refine ⟨by simp, fun f hf => ?_⟩
   simp at hf; subst hf
   refine ⟨?_, by simp, Lo (by simp) (by simp)⟩
   rw [List.getD_eq_getElem?_getD] at hr
   simp; omega
 ·refine ⟨⟨by simp [fW], by simp [fW], by simp [fW], by simp [fW], by simp [fW], by simp [fW]⟩, ?_, fun c hc => by simp [fW] at hc, fun t ht => by simp [fW] at ht⟩
  intro q hq
  simp [fW] at hq
theorem Gz {p : aI} (hw : Pwf p) (hp : checkF p = 0) : cP p (tS p) = 0 := by
 unfold tS; rw [if_pos hp]; exact gL.2 (Ft hw hp)
@[go_sem] theorem Ru (k1 k2 k3 k4 : IntKind) (sz : Nat) (fs : List (List RV)) (a b c d : Int) (xs : List (List RV)) : threadsOf ([.rs sz fs, .v (.int k1 a), .v (.int k2 b), .v (.int k3 c), .v (.int k4 d)] :: xs) = ⟨framesOf fs, a, b, (c, d)⟩ :: threadsOf xs := rfl
@[go_sem] theorem Ve : threadsOf [] = [] := rfl
@[go_sem] theorem Vi (k1 k2 k3 k4 k5 k6 : IntKind) (s1 s2 : Nat) (us vs : List (List RV)) (a b c d e f : Int) (xs : List (List RV)) : framesOf ([.v (.int k1 a), .v (.int k2 b), .v (.int k3 c), .v (.int k4 d), .v (.int k5 e), .v (.int k6 f), .rs s1 us, .rs s2 vs] :: xs) = ⟨a, b, c, d, (e, f), valsOf us, triesOf vs⟩ :: framesOf xs := rfl
@[go_sem] theorem Xc : framesOf [] = [] := rfl
@[go_sem] theorem aDo : valsOf [] = [] := rfl
@[go_sem] theorem aCb : triesOf [] = [] := rfl
@[go_sem] theorem aCy (k : IntKind) (n : Int) (xs : List (List RV)) : aQ ([.v (.int k n)] :: xs) = n :: aQ xs := rfl
@[go_sem] theorem aFa : aQ [] = [] := rfl
def elB : AV → RV → Prop
 | .r z, y => z = y
 | .nd _ s rs, y => y = .rs s (ndRs rs)
 | _, _ => False
def rZ : List AV → List RV → Prop
 | [], [] => True
 | x :: l, y :: m => elB x y ∧ rZ l m
 | _, _ => False
def uE : List (List AV) → List (List RV) → Prop
 | [], [] => True
 | x :: l, y :: m => rZ x y ∧ uE l m
 | _, _ => False
theorem Aq : ∀ {l : List AV} {m : List RV}, rZ l m → m.length = l.length
 | [], [], _ => rfl
 | _ :: _, _ :: _, h => by simp [Aq h.2]
 | [], _ :: _, h => h.elim
 | _ :: _, [], h => h.elim
theorem Dr : ∀ {l : List AV} {m : List RV} {j : Nat} {x : AV} {y : RV}, rZ l m → l[j]? = some x → m[j]? = some y → elB x y
 | x' :: l, y' :: m, 0, x, y, h, hx, hy => by simp at hx hy; subst hx; subst hy; exact h.1
 | x' :: l, y' :: m, j + 1, x, y, h, hx, hy => Dr h.2 (by simpa using hx) (by simpa using hy)
 | [], _, _, _, _, _, hx, _ => by simp at hx
 | _ :: _, [], _, _, _, _, _, hy => by simp at hy
theorem xT : ∀ {l : List (List AV)} {m : List (List RV)}, uE l m → m.length = l.length
 | [], [], _ => rfl
 | _ :: _, _ :: _, h => by simp [xT h.2]
 | [], _ :: _, h => h.elim
 | _ :: _, [], h => h.elim
theorem uF : ∀ {l : List (List AV)} {m : List (List RV)} {j : Nat} {x : List AV} {y : List RV}, uE l m → l[j]? = some x → m[j]? = some y → rZ x y
 | x' :: l, y' :: m, 0, x, y, h, hx, hy => by simp at hx hy; subst hx; subst hy; exact h.1
 | x' :: l, y' :: m, j + 1, x, y, h, hx, hy => uF h.2 (by simpa using hx) (by simpa using hy)
 | [], _, _, _, _, _, hx, _ => by simp at hx
 | _ :: _, [], _, _, _, _, _, hy => by simp at hy
theorem iJ {α : Type} {f : α → List AV} {g : α → List RV} (h : ∀ x, rZ (f x) (g x)) : ∀ {l : List α}, uE (l.map f) (l.map g)
 | [] => trivial
 | x :: _ => ⟨h x, iJ h⟩
theorem Zo {ls : List Loc} {st : St} {x : AV} {y : RV} (h : elB x y) : Bor ls st x (.r y) := by
 unfold elB at h
 split at h
 ·subst h; exact .same _ rfl
 ·subst h; exact .nd _ _ _
 ·exact h.elim
theorem Us {st : St} {k ver e sz : Nat} {rows : List (List AV)} {rowsR : List (List RV)} (hk : aA k st.rs = (ver, .sl e sz rows)) (h : uE rows rowsR) : Bor [.R k] st (.os k ver) (.r (.rs sz rowsR)) :=
 .sl k ver e sz rows rowsR (by simp) hk (xT h) (fun i row rowR h1 h2 => Aq (uF h h1 h2)) fun i j row rowR x y h1 h2 h3 h4 => Zo (Dr (uF h h1 h2) h3 h4)
section
variable {C : Ctx} {T : List (Ct C)} {r : List It} {st st' : St} {K : Exit → St → Prop}
theorem pQ (k : Nat) {ver e sz : Nat} {rows : List (List AV)} (rowsR : List (List RV)) (hk : aA k st.rs = (ver, .sl e sz rows)) (h : uE rows rowsR) (hr : hasC r = true) (hst : ∀ K0 : St → Prop, Imp (K0 st') (K0 (eW k ver (.rs sz rowsR) st))) (hk2 : Rn C T r st' K) : Rn C T r st K := by
 have hk' := (hst fun s => Rn C T r s K).run hk2
 exact rT hr (fun e a w ⟨ho, g, hs⟩ => ⟨ho, g, hs.frz hk (by simp) (Us hk h)⟩) hk'
end
abbrev cellC (c : aZ) : List AV := [Iv c.kind, Iv c.num, aN c.vals, bL c.frames]
abbrev threadC (t : aJ) : List AV := [bL t.frames, Iv t.state, Iv t.on, Iv t.val.1, Iv t.val.2]
abbrev frameC (f : aK) : List AV := [Iv f.fn, Iv f.pc, Iv f.tov, Iv f.gen, Iv f.self.1, Iv f.self.2, aN f.regs, gJ f.tries]
abbrev endC (e : EndT) : List AV := [Iv e.cell, Iv e.fn.1, Iv e.fn.2]
theorem zZ (l : List aZ) : ∀ row ∈ l.map cellC, aP bD row = true := fun row h => by
 obtain ⟨x, _, rfl⟩ := List.mem_map.1 h; rfl
@[go_sem] theorem Yu : ∀ l : List aZ, kT (l.map cellC) = true
 | [] => rfl
 | x :: l => Yu l
@[go_sem] theorem aQk (l : List aZ) : ((l.map bA).map fun r => r.map AV.r) = l.map cellC := by rw [List.map_map]; rfl
theorem vI (xs : List (List RV)) : ∀ row ∈ (cellsOf xs).map cellC, aP bD row = true := zZ _
theorem Cv (xs : List (List RV)) (h : xs = (cellsOf xs).map bA ∧ xs.length ≤ 1000000000) : FC Cx 21 [.r (.rs 4 xs)] [] (.os 0 1) [(0, 1, .sl 48 4 ((cellsOf xs).map cellC))] := by
 have hl : (cellsOf xs).length = xs.length := by simp [cellsOf]
 have hlenS : ∀ l : List aZ, (l.map cellC).length = l.length := fun l => List.length_map ..
 obtain ⟨h1, h2⟩ := h
 generalize cellsOf xs = l at h1 hl
 subst h1
 rw [← hl] at h2
 refine iB [] (i := 0) [.os 0 1] Tryz.func21 rfl Tryz.ntmps21 (by simp) Tryz.results21 (zZ _) ?_
 refine rnst ?_
 iterate 8 (any_goals (first | (focus (intro K0; (try simp only [go_sem, *]); (first | exact ⟨id⟩ | (refine ⟨fun h => ?_⟩; (repeat' (first | exact h | refine And.intro ?_ ?_ | omega | rfl)); done)))) | (refine kR ?_) | (refine fM ?_) | (apply cZ lv21; (exact rfl)) | (refine dI ?_) | (apply kA; (exact rfl)) | (refine fI ?_) | ((first | apply Rn_g | apply Rd_g); (exact rfl); (exact rfl); (focus (intro K0; (try simp only [aT, ev, Nat.reduceEqDiff, ↓reduceIte]); exact ⟨id⟩))) | (with_reducible (first | apply gT | apply gX)) | ((with_reducible (first | apply fA | apply fF | apply jC | apply fJ | apply fE | apply iV)); (exact rfl)) | ((first | apply dR | apply eA); (focus (intro K0; (try simp only [go_sem]); exact ⟨id⟩)); (exact rfl)) | ((first | apply fD | apply fL); (exact rfl); (focus (intro K0; (try simp only [go_sem]); exact ⟨id⟩)); (focus (first | (simp only [Nat.reduceLT]; done) | omega)); (focus (intro hw0; (try simp only [Bool.and_eq_true, Bool.not_eq_true', cT, cJ] at hw0); (focus (intro K0; (try simp only [go_sem, *]); (first | exact ⟨id⟩ | (refine ⟨fun h => ?_⟩; (repeat' (first | exact h | refine And.intro ?_ ?_ | omega | rfl)); done))))))) | (apply Rn_c; (focus (intro K0; (try simp only [aT, ev, Nat.reduceEqDiff, ↓reduceIte]); exact ⟨id⟩))) | (with_reducible (first | refine nU ?_ | refine oA ?_)) | (refine gR ?_) | (refine hZ rfl ?_) | (refine Rn_b ?_) | (apply eZ lv21; (exact rfl)) | (refine gP ?_) | (apply jW; (exact rfl)) | (refine kG (by kernel_rfl) ?_) | ((with_reducible (first | refine dX (fun h => ?_) (fun h => ?_) | refine dU (fun h => ?_) (fun h => ?_) | refine eE (fun h => ?_) (fun h => ?_))) <;> (have h' := h) <;> (try simp only [decide_eq_true_eq, decide_eq_false_iff_not, Bool.not_eq_true', Bool.not_eq_false', Bool.and_eq_true, Bool.or_eq_true, Bool.or_eq_false_iff, beq_iff_eq, bne_iff_ne, ne_eq, Bool.not_true, Bool.not_false, not_false_eq_true, reduceCtorEq, beq_eq_false_iff_ne, bne_eq_false_iff_eq] at h') <;> (first | apply mA | apply oC)) | (refine eB rfl rfl ?_) | (first | refine eD ?_ | refine iW ?_ | refine cM ?_) | (refine dE (T := []) ?_) | (refine jX ?_)))
 ·intro K0; (try simp only [go_sem]); exact ⟨id⟩
 refine iP (sz := 4) rfl (.inl rfl) rfl rfl (Nat.le_of_ble_eq_true rfl) rfl rfl (by kernel_rfl) (fun q hq => ?_)
 apply kX
 ·intro K0; (try simp only [go_sem]); exact ⟨id⟩
 cases q with
 | true =>
  have h0 : l = [] := by have := hq rfl; simpa using this
  subst h0
  (any_goals refine go lv21 0 ?_)
  all_goals (try simp only [go_sem])
 | false =>
  clear hq
  (any_goals refine go lv21 0 ?_)
  all_goals (try simp only [go_sem])
def eO (st : St) (d : Nat) (args : List AV) (K : AV → List Loc → List (Loc × Cont) → Prop) : Prop := match args with
 | [.r (.rs 4 xs)] => (xs = (cellsOf xs).map bA ∧ xs.length ≤ 1000000000) ∧ K (ren (fun _ => d) (fun _ => st.cur d) (.os 0 1)) [.R d] [(.R d, .s (1 + st.cur d) (.sl 48 4 ((cellsOf xs).map cellC)))]
 | _ => False
theorem uD (st : St) (d : Nat) (args : List AV) (K : AV → List Loc → List (Loc × Cont) → Prop) (h : eO st d args K) : ∃ r ls outs, cO Cx 21 st args r ls outs ∧ K r ls outs := by
 unfold eO at h
 split at h
 ·exact ⟨_, _, _, cO.own (Cv _ h.1) rfl (vI _) rfl d, h.2⟩
 ·exact h.elim
noncomputable def lO : Ct Cx := .res 21 eO en21 uD
@[go_sem] theorem Ot : lO.g = 21 := rfl
@[go_sem] theorem Ma (c : Call) (fop : Operand) (caps : List AV) (o : Oper) (st : St) (K : List Loc → List (Loc × Cont) → Prop) : lO.run c fop caps o st K = jH eO c fop caps o st K := rfl
@[go_sem] theorem Ml : type_of% @eO.eq_def := @eO.eq_def
theorem vB (l : List aJ) : ∀ row ∈ l.map threadC, aP bD row = true := fun row h => by
 obtain ⟨x, _, rfl⟩ := List.mem_map.1 h; rfl
@[go_sem] theorem Ok : ∀ l : List aJ, kT (l.map threadC) = true
 | [] => rfl
 | x :: l => Ok l
@[go_sem] theorem aHp (l : List aJ) : ((l.map aL).map fun r => r.map AV.r) = l.map threadC := by rw [List.map_map]; rfl
theorem tL (xs : List (List RV)) : ∀ row ∈ (threadsOf xs).map threadC, aP bD row = true := vB _
theorem yB (xs : List (List RV)) (h : xs = (threadsOf xs).map aL ∧ xs.length ≤ 1000000000) : FC Cx 25 [.r (.rs 5 xs)] [] (.os 0 1) [(0, 1, .sl 56 5 ((threadsOf xs).map threadC))] := by
 have hl : (threadsOf xs).length = xs.length := by simp [threadsOf]
 have hlenS : ∀ l : List aJ, (l.map threadC).length = l.length := fun l => List.length_map ..
 obtain ⟨h1, h2⟩ := h
 generalize threadsOf xs = l at h1 hl
 subst h1
 rw [← hl] at h2
 refine iB [] (i := 0) [.os 0 1] Tryz.func25 rfl Tryz.ntmps25 (by simp) Tryz.results25 (vB _) ?_
 refine rnst ?_
 iterate 8 (any_goals (first | (focus (intro K0; (try simp only [go_sem, *]); (first | exact ⟨id⟩ | (refine ⟨fun h => ?_⟩; (repeat' (first | exact h | refine And.intro ?_ ?_ | omega | rfl)); done)))) | (refine kR ?_) | (refine fM ?_) | (apply cZ lv25; (exact rfl)) | (refine dI ?_) | (apply kA; (exact rfl)) | (refine fI ?_) | ((first | apply Rn_g | apply Rd_g); (exact rfl); (exact rfl); (focus (intro K0; (try simp only [aT, ev, Nat.reduceEqDiff, ↓reduceIte]); exact ⟨id⟩))) | (with_reducible (first | apply gT | apply gX)) | ((with_reducible (first | apply fA | apply fF | apply jC | apply fJ | apply fE | apply iV)); (exact rfl)) | ((first | apply dR | apply eA); (focus (intro K0; (try simp only [go_sem]); exact ⟨id⟩)); (exact rfl)) | ((first | apply fD | apply fL); (exact rfl); (focus (intro K0; (try simp only [go_sem]); exact ⟨id⟩)); (focus (first | (simp only [Nat.reduceLT]; done) | omega)); (focus (intro hw0; (try simp only [Bool.and_eq_true, Bool.not_eq_true', cT, cJ] at hw0); (focus (intro K0; (try simp only [go_sem, *]); (first | exact ⟨id⟩ | (refine ⟨fun h => ?_⟩; (repeat' (first | exact h | refine And.intro ?_ ?_ | omega | rfl)); done))))))) | (apply Rn_c; (focus (intro K0; (try simp only [aT, ev, Nat.reduceEqDiff, ↓reduceIte]); exact ⟨id⟩))) | (with_reducible (first | refine nU ?_ | refine oA ?_)) | (refine gR ?_) | (refine hZ rfl ?_) | (refine Rn_b ?_) | (apply eZ lv25; (exact rfl)) | (refine gP ?_) | (apply jW; (exact rfl)) | (refine kG (by kernel_rfl) ?_) | ((with_reducible (first | refine dX (fun h => ?_) (fun h => ?_) | refine dU (fun h => ?_) (fun h => ?_) | refine eE (fun h => ?_) (fun h => ?_))) <;> (have h' := h) <;> (try simp only [decide_eq_true_eq, decide_eq_false_iff_not, Bool.not_eq_true', Bool.not_eq_false', Bool.and_eq_true, Bool.or_eq_true, Bool.or_eq_false_iff, beq_iff_eq, bne_iff_ne, ne_eq, Bool.not_true, Bool.not_false, not_false_eq_true, reduceCtorEq, beq_eq_false_iff_ne, bne_eq_false_iff_eq] at h') <;> (first | apply mA | apply oC)) | (refine eB rfl rfl ?_) | (first | refine eD ?_ | refine iW ?_ | refine cM ?_) | (refine dE (T := []) ?_) | (refine jX ?_)))
 ·intro K0; (try simp only [go_sem]); exact ⟨id⟩
 refine iP (sz := 5) rfl (.inl rfl) rfl rfl (Nat.le_of_ble_eq_true rfl) rfl rfl (by kernel_rfl) (fun q hq => ?_)
 apply kX
 ·intro K0; (try simp only [go_sem]); exact ⟨id⟩
 cases q with
 | true =>
  have h0 : l = [] := by have := hq rfl; simpa using this
  subst h0
  (any_goals refine go lv25 0 ?_)
  all_goals (try simp only [go_sem])
 | false =>
  clear hq
  (any_goals refine go lv25 0 ?_)
  all_goals (try simp only [go_sem])
def dK (st : St) (d : Nat) (args : List AV) (K : AV → List Loc → List (Loc × Cont) → Prop) : Prop := match args with
 | [.r (.rs 5 xs)] => (xs = (threadsOf xs).map aL ∧ xs.length ≤ 1000000000) ∧ K (ren (fun _ => d) (fun _ => st.cur d) (.os 0 1)) [.R d] [(.R d, .s (1 + st.cur d) (.sl 56 5 ((threadsOf xs).map threadC)))]
 | _ => False
theorem rA (st : St) (d : Nat) (args : List AV) (K : AV → List Loc → List (Loc × Cont) → Prop) (h : dK st d args K) : ∃ r ls outs, cO Cx 25 st args r ls outs ∧ K r ls outs := by
 unfold dK at h
 split at h
 ·exact ⟨_, _, _, cO.own (yB _ h.1) rfl (tL _) rfl d, h.2⟩
 ·exact h.elim
noncomputable def jB : Ct Cx := .res 25 dK en25 rA
@[go_sem] theorem Ko : jB.g = 25 := rfl
@[go_sem] theorem Ha (c : Call) (fop : Operand) (caps : List AV) (o : Oper) (st : St) (K : List Loc → List (Loc × Cont) → Prop) : jB.run c fop caps o st K = jH dK c fop caps o st K := rfl
@[go_sem] theorem Hx : type_of% @dK.eq_def := @dK.eq_def
theorem wJ (l : List aK) : ∀ row ∈ l.map frameC, aP bD row = true := fun row h => by
 obtain ⟨x, _, rfl⟩ := List.mem_map.1 h; rfl
@[go_sem] theorem Sm : ∀ l : List aK, kT (l.map frameC) = true
 | [] => rfl
 | x :: l => Sm l
@[go_sem] theorem aMh (l : List aK) : ((l.map bM).map fun r => r.map AV.r) = l.map frameC := by rw [List.map_map]; rfl
theorem uK (xs : List (List RV)) : ∀ row ∈ (framesOf xs).map frameC, aP bD row = true := wJ _
theorem yS (xs : List (List RV)) (h : xs = (framesOf xs).map bM ∧ xs.length ≤ 1000000000) : FC Cx 26 [.r (.rs 8 xs)] [] (.os 0 1) [(0, 1, .sl 61 8 ((framesOf xs).map frameC))] := by
 have hl : (framesOf xs).length = xs.length := by simp [framesOf]
 have hlenS : ∀ l : List aK, (l.map frameC).length = l.length := fun l => List.length_map ..
 obtain ⟨h1, h2⟩ := h
 generalize framesOf xs = l at h1 hl
 subst h1
 rw [← hl] at h2
 refine iB [] (i := 0) [.os 0 1] Tryz.func26 rfl Tryz.ntmps26 (by simp) Tryz.results26 (wJ _) ?_
 refine rnst ?_
 iterate 8 (any_goals (first | (focus (intro K0; (try simp only [go_sem, *]); (first | exact ⟨id⟩ | (refine ⟨fun h => ?_⟩; (repeat' (first | exact h | refine And.intro ?_ ?_ | omega | rfl)); done)))) | (refine kR ?_) | (refine fM ?_) | (apply cZ lv26; (exact rfl)) | (refine dI ?_) | (apply kA; (exact rfl)) | (refine fI ?_) | ((first | apply Rn_g | apply Rd_g); (exact rfl); (exact rfl); (focus (intro K0; (try simp only [aT, ev, Nat.reduceEqDiff, ↓reduceIte]); exact ⟨id⟩))) | (with_reducible (first | apply gT | apply gX)) | ((with_reducible (first | apply fA | apply fF | apply jC | apply fJ | apply fE | apply iV)); (exact rfl)) | ((first | apply dR | apply eA); (focus (intro K0; (try simp only [go_sem]); exact ⟨id⟩)); (exact rfl)) | ((first | apply fD | apply fL); (exact rfl); (focus (intro K0; (try simp only [go_sem]); exact ⟨id⟩)); (focus (first | (simp only [Nat.reduceLT]; done) | omega)); (focus (intro hw0; (try simp only [Bool.and_eq_true, Bool.not_eq_true', cT, cJ] at hw0); (focus (intro K0; (try simp only [go_sem, *]); (first | exact ⟨id⟩ | (refine ⟨fun h => ?_⟩; (repeat' (first | exact h | refine And.intro ?_ ?_ | omega | rfl)); done))))))) | (apply Rn_c; (focus (intro K0; (try simp only [aT, ev, Nat.reduceEqDiff, ↓reduceIte]); exact ⟨id⟩))) | (with_reducible (first | refine nU ?_ | refine oA ?_)) | (refine gR ?_) | (refine hZ rfl ?_) | (refine Rn_b ?_) | (apply eZ lv26; (exact rfl)) | (refine gP ?_) | (apply jW; (exact rfl)) | (refine kG (by kernel_rfl) ?_) | ((with_reducible (first | refine dX (fun h => ?_) (fun h => ?_) | refine dU (fun h => ?_) (fun h => ?_) | refine eE (fun h => ?_) (fun h => ?_))) <;> (have h' := h) <;> (try simp only [decide_eq_true_eq, decide_eq_false_iff_not, Bool.not_eq_true', Bool.not_eq_false', Bool.and_eq_true, Bool.or_eq_true, Bool.or_eq_false_iff, beq_iff_eq, bne_iff_ne, ne_eq, Bool.not_true, Bool.not_false, not_false_eq_true, reduceCtorEq, beq_eq_false_iff_ne, bne_eq_false_iff_eq] at h') <;> (first | apply mA | apply oC)) | (refine eB rfl rfl ?_) | (first | refine eD ?_ | refine iW ?_ | refine cM ?_) | (refine dE (T := []) ?_) | (refine jX ?_)))
 ·intro K0; (try simp only [go_sem]); exact ⟨id⟩
 refine iP (sz := 8) rfl (.inl rfl) rfl rfl (Nat.le_of_ble_eq_true rfl) rfl rfl (by kernel_rfl) (fun q hq => ?_)
 apply kX
 ·intro K0; (try simp only [go_sem]); exact ⟨id⟩
 cases q with
 | true =>
  have h0 : l = [] := by have := hq rfl; simpa using this
  subst h0
  (any_goals refine go lv26 0 ?_)
  all_goals (try simp only [go_sem])
 | false =>
  clear hq
  (any_goals refine go lv26 0 ?_)
  all_goals (try simp only [go_sem])
def dZ (st : St) (d : Nat) (args : List AV) (K : AV → List Loc → List (Loc × Cont) → Prop) : Prop := match args with
 | [.r (.rs 8 xs)] => (xs = (framesOf xs).map bM ∧ xs.length ≤ 1000000000) ∧ K (ren (fun _ => d) (fun _ => st.cur d) (.os 0 1)) [.R d] [(.R d, .s (1 + st.cur d) (.sl 61 8 ((framesOf xs).map frameC)))]
 | _ => False
theorem sH (st : St) (d : Nat) (args : List AV) (K : AV → List Loc → List (Loc × Cont) → Prop) (h : dZ st d args K) : ∃ r ls outs, cO Cx 26 st args r ls outs ∧ K r ls outs := by
 unfold dZ at h
 split at h
 ·exact ⟨_, _, _, cO.own (yS _ h.1) rfl (uK _) rfl d, h.2⟩
 ·exact h.elim
noncomputable def kO : Ct Cx := .res 26 dZ en26 sH
@[go_sem] theorem Nb : kO.g = 26 := rfl
@[go_sem] theorem Ht (c : Call) (fop : Operand) (caps : List AV) (o : Oper) (st : St) (K : List Loc → List (Loc × Cont) → Prop) : kO.run c fop caps o st K = jH dZ c fop caps o st K := rfl
@[go_sem] theorem Ld : type_of% @dZ.eq_def := @dZ.eq_def
theorem Jb (l : List (Int × Int)) : ∀ row ∈ l.map valC, aP bD row = true := fun row h => by
 obtain ⟨x, _, rfl⟩ := List.mem_map.1 h; rfl
@[go_sem] theorem Sw (l : List (Int × Int)) : ((l.map valR).map fun r => r.map AV.r) = l.map valC := by rw [List.map_map]; rfl
theorem yM (xs : List (List RV)) (h : xs = (valsOf xs).map valR ∧ xs.length ≤ 1000000000) : FC Cx 139 [.r (.rs 2 xs)] [] (.os 0 1) [(0, 1, .sl 97 2 ((valsOf xs).map valC))] := by
 have hl : (valsOf xs).length = xs.length := by simp [valsOf]
 have hlenS : ∀ l : List (Int × Int), (l.map valC).length = l.length := fun l => List.length_map ..
 obtain ⟨h1, h2⟩ := h
 generalize valsOf xs = l at h1 hl
 subst h1
 rw [← hl] at h2
 refine iB [] (i := 0) [.os 0 1] Tryz.func139 rfl Tryz.ntmps139 (by simp) Tryz.results139 (Jb _) ?_
 refine rnst ?_
 iterate 8 (any_goals (first | (focus (intro K0; (try simp only [go_sem, *]); (first | exact ⟨id⟩ | (refine ⟨fun h => ?_⟩; (repeat' (first | exact h | refine And.intro ?_ ?_ | omega | rfl)); done)))) | (refine kR ?_) | (refine fM ?_) | (apply cZ La; (exact rfl)) | (refine dI ?_) | (apply kA; (exact rfl)) | (refine fI ?_) | ((first | apply Rn_g | apply Rd_g); (exact rfl); (exact rfl); (focus (intro K0; (try simp only [aT, ev, Nat.reduceEqDiff, ↓reduceIte]); exact ⟨id⟩))) | (with_reducible (first | apply gT | apply gX)) | ((with_reducible (first | apply fA | apply fF | apply jC | apply fJ | apply fE | apply iV)); (exact rfl)) | ((first | apply dR | apply eA); (focus (intro K0; (try simp only [go_sem]); exact ⟨id⟩)); (exact rfl)) | ((first | apply fD | apply fL); (exact rfl); (focus (intro K0; (try simp only [go_sem]); exact ⟨id⟩)); (focus (first | (simp only [Nat.reduceLT]; done) | omega)); (focus (intro hw0; (try simp only [Bool.and_eq_true, Bool.not_eq_true', cT, cJ] at hw0); (focus (intro K0; (try simp only [go_sem, *]); (first | exact ⟨id⟩ | (refine ⟨fun h => ?_⟩; (repeat' (first | exact h | refine And.intro ?_ ?_ | omega | rfl)); done))))))) | (apply Rn_c; (focus (intro K0; (try simp only [aT, ev, Nat.reduceEqDiff, ↓reduceIte]); exact ⟨id⟩))) | (with_reducible (first | refine nU ?_ | refine oA ?_)) | (refine gR ?_) | (refine hZ rfl ?_) | (refine Rn_b ?_) | (apply eZ La; (exact rfl)) | (refine gP ?_) | (apply jW; (exact rfl)) | (refine kG (by kernel_rfl) ?_) | ((with_reducible (first | refine dX (fun h => ?_) (fun h => ?_) | refine dU (fun h => ?_) (fun h => ?_) | refine eE (fun h => ?_) (fun h => ?_))) <;> (have h' := h) <;> (try simp only [decide_eq_true_eq, decide_eq_false_iff_not, Bool.not_eq_true', Bool.not_eq_false', Bool.and_eq_true, Bool.or_eq_true, Bool.or_eq_false_iff, beq_iff_eq, bne_iff_ne, ne_eq, Bool.not_true, Bool.not_false, not_false_eq_true, reduceCtorEq, beq_eq_false_iff_ne, bne_eq_false_iff_eq] at h') <;> (first | apply mA | apply oC)) | (refine eB rfl rfl ?_) | (first | refine eD ?_ | refine iW ?_ | refine cM ?_) | (refine dE (T := []) ?_) | (refine jX ?_)))
 ·intro K0; (try simp only [go_sem]); exact ⟨id⟩
 refine iP (sz := 2) rfl (.inl rfl) rfl rfl (Nat.le_of_ble_eq_true rfl) rfl rfl (by kernel_rfl) (fun q hq => ?_)
 apply kX
 ·intro K0; (try simp only [go_sem]); exact ⟨id⟩
 cases q with
 | true =>
  have h0 : l = [] := by have := hq rfl; simpa using this
  subst h0
  (any_goals refine go La 0 ?_)
  all_goals (try simp only [go_sem])
 | false =>
  clear hq
  (any_goals refine go La 0 ?_)
  all_goals (try simp only [go_sem])
theorem Au (xs : List (List RV)) (h : xs = (valsOf xs).map valR ∧ xs.length ≤ 1000000000) : FC Cx 139 [.r (.rs 2 xs)] [] (aN (valsOf xs)) [] := (yM xs h).freeze1 (Sw _).symm
def iL (args : List AV) (K : AV → Prop) : Prop := match args with
 | [.r (.rs 2 xs)] => (xs = (valsOf xs).map valR ∧ xs.length ≤ 1000000000) ∧ K (aN (valsOf xs))
 | _ => False
noncomputable abbrev yV : Ct Cx := .pure 139 iL fun args K h => by
 unfold iL at h; split at h; exact ⟨_, aB (Au _ h.1) aNm rfl rfl, h.2⟩; exact h.elim
@[go_sem] theorem Mp : type_of% @iL.eq_def := @iL.eq_def
theorem Re (l : List EndT) : ∀ row ∈ l.map endC, aP bD row = true := fun row h => by
 obtain ⟨x, _, rfl⟩ := List.mem_map.1 h; rfl
@[go_sem] theorem aDr : ∀ l : List EndT, kT (l.map endC) = true
 | [] => rfl
 | x :: l => aDr l
@[go_sem] theorem aDw (l : List EndT) : ((l.map endR).map fun r => r.map AV.r) = l.map endC := by rw [List.map_map]; rfl
theorem Gd (xs : List (List RV)) (h : xs = (aH xs).map endR ∧ xs.length ≤ 1000000000) : FC Cx 140 [.r (.rs 3 xs)] [] (.os 0 1) [(0, 1, .sl 127 3 ((aH xs).map endC))] := by
 have hl : (aH xs).length = xs.length := by simp [aH]
 have hlenS : ∀ l : List EndT, (l.map endC).length = l.length := fun l => List.length_map ..
 obtain ⟨h1, h2⟩ := h
 generalize aH xs = l at h1 hl
 subst h1
 rw [← hl] at h2
 refine iB [] (i := 0) [.os 0 1] Tryz.func140 rfl Tryz.ntmps140 (by simp) Tryz.results140 (Re _) ?_
 refine rnst ?_
 iterate 8 (any_goals (first | (focus (intro K0; (try simp only [go_sem, *]); (first | exact ⟨id⟩ | (refine ⟨fun h => ?_⟩; (repeat' (first | exact h | refine And.intro ?_ ?_ | omega | rfl)); done)))) | (refine kR ?_) | (refine fM ?_) | (apply cZ Lr; (exact rfl)) | (refine dI ?_) | (apply kA; (exact rfl)) | (refine fI ?_) | ((first | apply Rn_g | apply Rd_g); (exact rfl); (exact rfl); (focus (intro K0; (try simp only [aT, ev, Nat.reduceEqDiff, ↓reduceIte]); exact ⟨id⟩))) | (with_reducible (first | apply gT | apply gX)) | ((with_reducible (first | apply fA | apply fF | apply jC | apply fJ | apply fE | apply iV)); (exact rfl)) | ((first | apply dR | apply eA); (focus (intro K0; (try simp only [go_sem]); exact ⟨id⟩)); (exact rfl)) | ((first | apply fD | apply fL); (exact rfl); (focus (intro K0; (try simp only [go_sem]); exact ⟨id⟩)); (focus (first | (simp only [Nat.reduceLT]; done) | omega)); (focus (intro hw0; (try simp only [Bool.and_eq_true, Bool.not_eq_true', cT, cJ] at hw0); (focus (intro K0; (try simp only [go_sem, *]); (first | exact ⟨id⟩ | (refine ⟨fun h => ?_⟩; (repeat' (first | exact h | refine And.intro ?_ ?_ | omega | rfl)); done))))))) | (apply Rn_c; (focus (intro K0; (try simp only [aT, ev, Nat.reduceEqDiff, ↓reduceIte]); exact ⟨id⟩))) | (with_reducible (first | refine nU ?_ | refine oA ?_)) | (refine gR ?_) | (refine hZ rfl ?_) | (refine Rn_b ?_) | (apply eZ Lr; (exact rfl)) | (refine gP ?_) | (apply jW; (exact rfl)) | (refine kG (by kernel_rfl) ?_) | ((with_reducible (first | refine dX (fun h => ?_) (fun h => ?_) | refine dU (fun h => ?_) (fun h => ?_) | refine eE (fun h => ?_) (fun h => ?_))) <;> (have h' := h) <;> (try simp only [decide_eq_true_eq, decide_eq_false_iff_not, Bool.not_eq_true', Bool.not_eq_false', Bool.and_eq_true, Bool.or_eq_true, Bool.or_eq_false_iff, beq_iff_eq, bne_iff_ne, ne_eq, Bool.not_true, Bool.not_false, not_false_eq_true, reduceCtorEq, beq_eq_false_iff_ne, bne_eq_false_iff_eq] at h') <;> (first | apply mA | apply oC)) | (refine eB rfl rfl ?_) | (first | refine eD ?_ | refine iW ?_ | refine cM ?_) | (refine dE (T := []) ?_) | (refine jX ?_)))
 ·intro K0; (try simp only [go_sem]); exact ⟨id⟩
 refine iP (sz := 3) rfl (.inl rfl) rfl rfl (Nat.le_of_ble_eq_true rfl) rfl rfl (by kernel_rfl) (fun q hq => ?_)
 apply kX
 ·intro K0; (try simp only [go_sem]); exact ⟨id⟩
 cases q with
 | true =>
  have h0 : l = [] := by have := hq rfl; simpa using this
  subst h0
  (any_goals refine go Lr 0 ?_)
  all_goals (try simp only [go_sem])
 | false =>
  clear hq
  (any_goals refine go Lr 0 ?_)
  all_goals (try simp only [go_sem])
theorem Hk (xs : List (List RV)) (h : xs = (aH xs).map endR ∧ xs.length ≤ 1000000000) : FC Cx 140 [.r (.rs 3 xs)] [] (cA (aH xs)) [] := (Gd xs h).freeze1 (aDw _).symm
def lG (args : List AV) (K : AV → Prop) : Prop := match args with
 | [.r (.rs 3 xs)] => (xs = (aH xs).map endR ∧ xs.length ≤ 1000000000) ∧ K (cA (aH xs))
 | _ => False
noncomputable abbrev Dv : Ct Cx := .pure 140 lG fun args K h => by
 unfold lG at h; split at h; exact ⟨_, aB (Hk _ h.1) aP0 rfl rfl, h.2⟩; exact h.elim
@[go_sem] theorem Qm : type_of% @lG.eq_def := @lG.eq_def
abbrev valN (v : Int × Int) : List NV := [.r (.v (.int .i64 v.1)), .r (.v (.int .i64 v.2))]
abbrev kN (f : aK) : List NV := [.r (.v (.int .i64 f.fn)), .r (.v (.int .i64 f.pc)), .r (.v (.int .i64 f.tov)), .r (.v (.int .i64 f.gen)), .r (.v (.int .i64 f.self.1)), .r (.v (.int .i64 f.self.2)), .nd 50 2 (f.regs.map valN), .r (.rs 2 (f.tries.map tryR))]
abbrev frameA2 (f : aK) : List AV := [Iv f.fn, Iv f.pc, Iv f.tov, Iv f.gen, Iv f.self.1, Iv f.self.2, .nd 50 2 (f.regs.map valN), gJ f.tries]
theorem Iq (l : List (Int × Int)) : (l.map valN).map (List.map nvC) = l.map valC := by rw [List.map_map]; rfl
theorem tM (l : List aK) : (l.map kN).map (List.map nvC) = l.map frameA2 := by rw [List.map_map]; rfl
theorem wO (l : List aK) : ∀ row ∈ l.map frameA2, aP bD row = true := fun row h => by
 obtain ⟨x, _, rfl⟩ := List.mem_map.1 h; rfl
def mixL {α β : Type} (f g : α → β) (l : List α) (i : Nat) : List β := (l.take i).map f ++ (l.drop i).map g
theorem wP {α β : Type} (f g : α → β) (l : List α) (i : Nat) : (mixL f g l i).length = l.length := by
 unfold mixL; rw [List.length_append, List.length_map, List.length_map, List.length_take, List.length_drop]; omega
theorem Cz {α β : Type} (f g : α → β) {l : List α} {i : Nat} {x : α} (h : l[i]? = some x) : (mixL f g l i)[i]? = some (g x) := by
 have hi := (List.getElem?_eq_some_iff.1 h).1
 unfold mixL
 rw [List.getElem?_append_right (by rw [List.length_map, List.length_take]; omega), List.length_map, List.length_take, List.getElem?_map, List.getElem?_drop]
 rw [show i + (i - min i l.length) = i by omega, h]; rfl
theorem wH {α β : Type} (f g : α → β) {l : List α} {i : Nat} {x : α} (h : l[i]? = some x) : (mixL f g l i).set i (f x) = mixL f g l (i + 1) := by
 have hi := (List.getElem?_eq_some_iff.1 h).1
 unfold mixL
 rw [List.set_append_right _ _ (by rw [List.length_map, List.length_take]; omega), List.length_map, List.length_take, show i - min i l.length = 0 by omega]
 have hd : l.drop i = x :: l.drop (i + 1) := by
  rw [List.drop_eq_getElem_cons hi]
  congr 1
  rw [List.getElem?_eq_getElem hi] at h; exact Option.some.inj h
 rw [hd, List.map_cons, List.set_cons_zero, List.take_add_one, h, List.map_append, List.append_assoc]; rfl
theorem xE {α β : Type} (f g : α → β) (l : List α) : mixL f g l l.length = l.map f := by
 unfold mixL; rw [List.take_length, List.drop_length]; simp
theorem Mk (fs : List aK) (hl : fs.length ≤ 1000000000) (hr : ∀ f ∈ fs, f.regs.length ≤ 1000000000 ∧ f.tries.length ≤ 1000000000) : FC Cx 141 [bL fs] [] (.os 0 1) [(0, 1, .sl 61 8 (fs.map frameA2))] := by
 have l1 : (fs.map bM).length = fs.length := List.length_map ..
 have l2 : (fs.map frameC).length = fs.length := List.length_map ..
 refine iB [kO, mW, Gs] (i := 0) [.os 0 1] Tryz.func141 rfl Tryz.ntmps141 (by simp) Tryz.results141 (wO _) ?_
 refine rnst ?_
 (any_goals refine go Jl 0 ?_)
 refine dB (fun x : Nat × Nat => x.1 ≤ fs.length) (fun x => ⟨33, [(0, .os 5 1), (7, Iv fs.length), (8, Iv x.1)], [(5, 1, .sl 61 8 (mixL frameA2 frameC fs x.1)), (20, x.2, .gone)]⟩) (fun x => fs.length - x.1) (0, 0) (Nat.zero_le _) ?_
 rintro ⟨i, u⟩ hi
 dsimp only at hi ⊢
 by_cases hlt : i < fs.length
 case neg =>
  obtain rfl : i = fs.length := by omega
  have e1 := nX fs
  rw [xE]
  (any_goals refine go Jl 0 ?_)
  all_goals (try simp only [go_sem])
 obtain ⟨f, hx, hg, h1, h2, hw⟩ := sO bM fs hlt (by omega)
 obtain ⟨r1, r2⟩ := hr f (List.mem_of_getElem? hx)
 have l3 : (f.regs.map valR).length = f.regs.length := List.length_map ..
 have l4 : (f.tries.map tryR).length = f.tries.length := List.length_map ..
 have q1 := wP frameA2 frameC fs i
 have q2 := Cz frameA2 frameC hx
 have q3 := wH frameA2 frameC hx
 have q5 : (mixL frameA2 frameC fs i).getD i [] = frameC f := by rw [List.getD_eq_getElem?_getD, q2]; rfl
 generalize mixL frameA2 frameC fs i = R at *
 have q4 : ∀ X, (R.set i X).length = R.length := fun X => List.length_set
 have q6 : ∀ X, (R.set i X).getD i [] = X := fun X => by rw [List.getD_eq_getElem?_getD, List.getElem?_set_self (by omega)]; rfl
 have q7 : ∀ X Y, (R.set i X).set i Y = R.set i Y := fun X Y => List.set_set ..
 (any_goals refine go (iS 6 Jl) 0 ?_)
 (apply fS 5 i 6 20 (f.regs.map valN); (exact rfl); (exact List.getElem?_set_self (by rw [q1]; exact hlt)); (exact rfl); (exact (by decide)); (exact congrArg (fun z => (1 + u, Res.sl 50 2 z)) (Iq f.regs).symm); (exact rfl); (intro K0; (try simp only [go_sem, q7]); exact ⟨id⟩))
 clear q2 q4 q5 q6 q7
 (any_goals refine go Jl 0 ?_)
 refine ⟨(i + 1, u + 9), by dsimp only; omega, by dsimp only; omega, ?_⟩
 dsimp only
 rw [← q3]
 exact bQ
theorem Fx (xs : List (List RV)) : ∀ row ∈ (framesOf xs).map frameA2, aP bD row = true := wO _
theorem Sb (xs : List (List RV)) (h : xs = (framesOf xs).map bM ∧ (framesOf xs).length ≤ 1000000000 ∧ ∀ f ∈ framesOf xs, f.regs.length ≤ 1000000000 ∧ f.tries.length ≤ 1000000000) : FC Cx 141 [.r (.rs 8 xs)] [] (.os 0 1) [(0, 1, .sl 61 8 ((framesOf xs).map frameA2))] := by
 have := Mk (framesOf xs) h.2.1 h.2.2
 rwa [show bL (framesOf xs) = .r (.rs 8 xs) from by show AV.r (RV.rs 8 ((framesOf xs).map bM)) = _; rw [← h.1]] at this
def jP (st : St) (d : Nat) (args : List AV) (K : AV → List Loc → List (Loc × Cont) → Prop) : Prop := match args with
 | [.r (.rs 8 xs)] => (xs = (framesOf xs).map bM ∧ (framesOf xs).length ≤ 1000000000 ∧ ∀ f ∈ framesOf xs, f.regs.length ≤ 1000000000 ∧ f.tries.length ≤ 1000000000) ∧ K (ren (fun _ => d) (fun _ => st.cur d) (.os 0 1)) [.R d] [(.R d, .s (1 + st.cur d) (.sl 61 8 ((framesOf xs).map frameA2)))]
 | _ => False
theorem Ax (st : St) (d : Nat) (args : List AV) (K : AV → List Loc → List (Loc × Cont) → Prop) (h : jP st d args K) : ∃ r ls outs, cO Cx 141 st args r ls outs ∧ K r ls outs := by
 unfold jP at h
 split at h
 ·exact ⟨_, _, _, cO.own (Sb _ h.1) rfl (Fx _) rfl d, h.2⟩
 ·exact h.elim
noncomputable def uN : Ct Cx := .res 141 jP aNn Ax
@[go_sem] theorem aBz : uN.g = 141 := rfl
@[go_sem] theorem Vy (c : Call) (fop : Operand) (caps : List AV) (o : Oper) (st : St) (K : List Loc → List (Loc × Cont) → Prop) : uN.run c fop caps o st K = jH jP c fop caps o st K := rfl
@[go_sem] theorem Ww : type_of% @jP.eq_def := @jP.eq_def
abbrev eJ (c : aZ) : List AV := [Iv c.kind, Iv c.num, aN c.vals, .nd 61 8 (c.frames.map kN)]
abbrev bV (t : aJ) : List AV := [.nd 61 8 (t.frames.map kN), Iv t.state, Iv t.on, Iv t.val.1, Iv t.val.2]
structure SmF (fs : List aK) : Prop where
 len : fs.length ≤ 1000000000
 each : ∀ f ∈ fs, f.regs.length ≤ 1000000000 ∧ f.tries.length ≤ 1000000000
structure Sml (s : aC) : Prop where
 cells : s.cells.length ≤ 1000000000
 shapes : s.shapes.length ≤ 1000000000
 texts : s.texts.length ≤ 1000000000
 threads : s.threads.length ≤ 1000000000
 ends : s.ends.length ≤ 1000000000
 said : s.said.length ≤ 1000000000
 vals : ∀ c ∈ s.cells, c.vals.length ≤ 1000000000
 cell : ∀ c ∈ s.cells, SmF c.frames
 thread : ∀ t ∈ s.threads, SmF t.frames
abbrev ownC (k v : Nat) (cs : List aZ) : Nat × Nat × Res := (k, v, .sl 48 4 (cs.map eJ))
abbrev ownT (k v : Nat) (ts : List aJ) : Nat × Nat × Res := (k, v, .sl 56 5 (ts.map bV))
theorem Uw (cs : List aZ) (ts : List aJ) (k : Nat) : bE (domR [ownC 7 1 cs, ownT 16 1 ts]) (aA k [ownC 7 1 cs, ownT 16 1 ts]).2 := by
 have e : aA k [ownC 7 1 cs, ownT 16 1 ts] = if k = 7 then (1, .sl 48 4 (cs.map eJ)) else if k = 16 then (1, .sl 56 5 (ts.map bV)) else (0, .gone) := rfl
 rw [e]
 split
 ·exact fun row h => by obtain ⟨x, _, rfl⟩ := List.mem_map.1 h; rfl
 ·split
  ·exact fun row h => by obtain ⟨x, _, rfl⟩ := List.mem_map.1 h; rfl
  ·trivial
theorem aFt (s : aC) (hm : Sml s) : FC Cx 84 [cE s] [] (.agg [.os 7 1, aN s.shapes, bN s.texts, .os 16 1, cA s.ends, aN s.said, Iv s.asked, Iv s.steps]) [ownC 7 1 s.cells, ownT 16 1 s.threads] := by
 obtain ⟨m1, m2, m3, m4, m5, m6, m7, m8, m9⟩ := hm
 have l1 : (s.cells.map bA).length = s.cells.length := List.length_map ..
 have l2 : (s.shapes.map valR).length = s.shapes.length := List.length_map ..
 have l3 : (s.texts.map strR).length = s.texts.length := List.length_map ..
 have l4 : (s.threads.map aL).length = s.threads.length := List.length_map ..
 have l5 : (s.ends.map endR).length = s.ends.length := List.length_map ..
 have l6 : (s.said.map valR).length = s.said.length := List.length_map ..
 have l7 : (s.cells.map cellC).length = s.cells.length := List.length_map ..
 have l8 : (s.threads.map threadC).length = s.threads.length := List.length_map ..
 refine gY [lO, jB, yV, uR, Dv, Gm, uN]  Tryz.func84 rfl Tryz.ntmps84 (by simp) Tryz.results84 rfl (Uw _ _) ?_
 refine rnst ?_
 (any_goals refine go lv84 0 ?_)
 refine dB (fun x : Nat × Nat => x.1 ≤ s.cells.length) (fun x => ⟨80, [(1, .os 1 1), (2, .os 2 1), (31, Iv s.cells.length), (32, Iv x.1)], [(1, 1, .bx [.os 7 1, aN s.shapes, bN s.texts, .os 16 1, cA s.ends, aN s.said, Iv s.asked, Iv s.steps]), (2, 1, .bx [NilS, NilS, NilS, NilS, NilS, NilS, Iv 0, Iv 0]), (7, 1, .sl 48 4 (mixL eJ cellC s.cells x.1)), (16, 1, .sl 56 5 (s.threads.map threadC)), (54, x.2, .gone)]⟩) (fun x => s.cells.length - x.1) (0, 0) (Nat.zero_le _) ?_
 rintro ⟨i, u⟩ hi
 dsimp only at hi ⊢
 by_cases hlt : i < s.cells.length
 case pos =>
  obtain ⟨c, hx, hg, h1, h2, hw⟩ := sO bA s.cells hlt (by omega)
  have r1 := m7 c (List.mem_of_getElem? hx)
  obtain ⟨r2, r3⟩ := m8 c (List.mem_of_getElem? hx)
  have l9 : (c.vals.map valR).length = c.vals.length := List.length_map ..
  have l10 : (c.frames.map bM).length = c.frames.length := List.length_map ..
  have q1 := wP eJ cellC s.cells i
  have q2 := Cz eJ cellC hx
  have q3 := wH eJ cellC hx
  have q5 : (mixL eJ cellC s.cells i).getD i [] = cellC c := by rw [List.getD_eq_getElem?_getD, q2]; rfl
  generalize mixL eJ cellC s.cells i = R at *
  have q4 : ∀ X, (R.set i X).length = R.length := fun X => List.length_set
  have q6 : ∀ X, (R.set i X).getD i [] = X := fun X => by rw [List.getD_eq_getElem?_getD, List.getElem?_set_self (by omega)]; rfl
  have q7 : ∀ X Y, (R.set i X).set i Y = R.set i Y := fun X Y => List.set_set ..
  clear m7 m8 m9
  (any_goals refine go (iS 6 lv84) 0 ?_)
  (apply fS 7 i 3 54 (c.frames.map kN); (exact rfl); (exact List.getElem?_set_self (by rw [q1]; exact hlt)); (exact rfl); (exact (by decide)); (exact congrArg (fun z => (1 + u, Res.sl 61 8 z)) (tM c.frames).symm); (exact rfl); (intro K0; (try simp only [go_sem, q7]); exact ⟨id⟩))
  clear q2 q4 q5 q6 q7
  (any_goals refine go lv84 0 ?_)
  refine ⟨(i + 1, u + 9), by dsimp only; omega, by dsimp only; omega, ?_⟩
  dsimp only
  rw [← q3]
  exact bQ
 obtain rfl : i = s.cells.length := by omega
 have e1 := nX s.cells
 rw [xE]
 clear hi hlt
 (any_goals refine go lv84 0 ?_)
 clear e1
 refine dB (fun x : Nat × Nat => x.1 ≤ s.threads.length) (fun x => ⟨80, [(1, .os 1 1), (2, .os 2 1), (62, Iv s.threads.length), (63, Iv x.1)], [(1, 1, .bx [.os 7 1, aN s.shapes, bN s.texts, .os 16 1, cA s.ends, aN s.said, Iv s.asked, Iv s.steps]), (2, 1, .bx [NilS, NilS, NilS, NilS, NilS, NilS, Iv 0, Iv 0]), (7, 1, .sl 48 4 (s.cells.map eJ)), (16, 1, .sl 56 5 (mixL bV threadC s.threads x.1)), (54, u, .gone), (75, x.2, .gone)]⟩) (fun x => s.threads.length - x.1) (0, 0) (Nat.zero_le _) ?_
 rintro ⟨i, w⟩ hi
 dsimp only at hi ⊢
 by_cases hlt : i < s.threads.length
 case pos =>
  obtain ⟨t, hx, hg, h1, h2, hw⟩ := sO aL s.threads hlt (by omega)
  obtain ⟨r2, r3⟩ := m9 t (List.mem_of_getElem? hx)
  have l10 : (t.frames.map bM).length = t.frames.length := List.length_map ..
  have q1 := wP bV threadC s.threads i
  have q2 := Cz bV threadC hx
  have q3 := wH bV threadC hx
  have q5 : (mixL bV threadC s.threads i).getD i [] = threadC t := by rw [List.getD_eq_getElem?_getD, q2]; rfl
  generalize mixL bV threadC s.threads i = R at *
  have q4 : ∀ X, (R.set i X).length = R.length := fun X => List.length_set
  have q6 : ∀ X, (R.set i X).getD i [] = X := fun X => by rw [List.getD_eq_getElem?_getD, List.getElem?_set_self (by omega)]; rfl
  have q7 : ∀ X Y, (R.set i X).set i Y = R.set i Y := fun X Y => List.set_set ..
  clear m7 m8 m9
  (any_goals refine go (iS 11 lv84) 0 ?_)
  (apply fS 16 i 0 75 (t.frames.map kN); (exact rfl); (exact List.getElem?_set_self (by rw [q1]; exact hlt)); (exact rfl); (exact (by decide)); (exact congrArg (fun z => (1 + w, Res.sl 61 8 z)) (tM t.frames).symm); (exact rfl); (intro K0; (try simp only [go_sem, q7]); exact ⟨id⟩))
  clear q2 q4 q5 q6 q7
  (any_goals refine go lv84 0 ?_)
  refine ⟨(i + 1, w + 9), by dsimp only; omega, by dsimp only; omega, ?_⟩
  dsimp only
  rw [← q3]
  exact bQ
 obtain rfl : i = s.threads.length := by omega
 have e1 := nX s.threads
 rw [xE]
 clear hi hlt
 (any_goals refine go lv84 0 ?_)
 all_goals (try simp only [go_sem])
structure iZ where
 kind : Int
 step : Int
 thread : Int
 fn : Int
 pc : Int
 line : Int
 a : Int
 b : Int
 val : Int × Int
 old : Int × Int
 deriving DecidableEq
abbrev wD (e : iZ) : List RV := [.v (.int .i64 e.kind), .v (.int .i64 e.step), .v (.int .i64 e.thread), .v (.int .i64 e.fn), .v (.int .i64 e.pc), .v (.int .i64 e.line), .v (.int .i64 e.a), .v (.int .i64 e.b), .v (.int .i64 e.val.1), .v (.int .i64 e.val.2), .v (.int .i64 e.old.1), .v (.int .i64 e.old.2)]
abbrev iA (e : iZ) : AV := .agg [Iv e.kind, Iv e.step, Iv e.thread, Iv e.fn, Iv e.pc, Iv e.line, Iv e.a, Iv e.b, Iv e.val.1, Iv e.val.2, Iv e.old.1, Iv e.old.2]
abbrev gV (l : List iZ) : AV := .r (.rs 12 (l.map wD))
def atF (p : aI) (s : aC) (th : Nat) (f : aK) : iZ := ⟨0, s.steps, th, f.fn, f.pc, ((p.fns.getD f.fn.toNat fn0).code.getD f.pc.toNat ins0).line, 0, 0, (0, 0), (0, 0)⟩
theorem aCm (p : aI) (s : aC) (th : Nat) (t : aJ) (f : aK) (hp : Pgo p) (ht : s.threads[th]? = some t) (hf : t.frames[t.frames.length - 1]? = some f) (hfr : cR p s f = true) (hl : t.frames.length ≤ 1000000000) :
  FC Cx 86 [.r (.rp (jG p)), gK s, Iv th] [] (iA (atF p s th f)) [] := by
 have l0 : (p.fns.map fnR).length = p.fns.length := List.length_map ..
 have l1 : (s.threads.map aL).length = s.threads.length := List.length_map ..
 have l2 : (t.frames.map bM).length = t.frames.length := List.length_map ..
 have hk := (List.getElem?_eq_some_iff.1 ht).1
 have hfk := (List.getElem?_eq_some_iff.1 hf).1
 have t1 : Int.toNat (th : Int) = th := by omega
 have t2 : Int.toNat ((t.frames.length : Int) - 1) = t.frames.length - 1 := by omega
 have w1 : IntKind.i64.wrap ((t.frames.length : Int) - 1) = (t.frames.length : Int) - 1 := by rw [aS] <;> omega
 have d1 : decide ((0 : Int) < (t.frames.length : Int)) = true := by rw [decide_eq_true_eq]; omega
 have hg := aG aL ht ([] : List RV)
 have hgf := aG bM hf ([] : List RV)
 obtain ⟨⟨g1, g2⟩, g3, g4⟩ := sD hfr
 obtain ⟨F, hF⟩ : ∃ F, p.fns[f.fn.toNat]? = some F := ⟨p.fns[f.fn.toNat]'(by omega), List.getElem?_eq_getElem _⟩
 have gF := aG fnR hF ([] : List RV)
 have eF : p.fns.getD f.fn.toNat fn0 = F := by rw [List.getD_eq_getElem?_getD, hF]; rfl
 rw [eF] at g4
 have l3 : (F.code.map insR).length = F.code.length := List.length_map ..
 obtain ⟨I, hI⟩ : ∃ I, F.code[f.pc.toNat]? = some I := ⟨F.code[f.pc.toNat]'(by omega), List.getElem?_eq_getElem _⟩
 have gI := aG insR hI ([] : List RV)
 have eI : F.code.getD f.pc.toNat ins0 = I := by rw [List.getD_eq_getElem?_getD, hI]; rfl
 unfold atF
 rw [eF, eI]
 clear eF eI hfr
 obtain ⟨fn, pc, tov, gen, ⟨sk, sn⟩, regs, tries⟩ := f
 dsimp only at *
 refine aE [] Tryz.func86 Tryz.ntmps86 Tryz.results86 ?_
 (any_goals refine go lv86 0 ?_)
 all_goals (try simp only [go_sem])
def spN (m : List (Nat × Nat)) (args0 : List AV) (r0 : AV) (rs1 : List (Nat × Nat × Res)) (st : St) (_ : Nat) (args : List AV) (K : AV → List Loc → List (Loc × Cont) → Prop) : Prop :=
 args = args0 ∧ K (ren (mpS (m.map fun q => (q.1, q.2, st.cur q.2))) (mpD (m.map fun q => (q.1, q.2, st.cur q.2))) r0) (m.map fun q => .R q.2) (m.map fun q => (.R q.2, .s ((aA q.1 rs1).1 + st.cur q.2) (cD (mpS (m.map fun q => (q.1, q.2, st.cur q.2))) (mpD (m.map fun q => (q.1, q.2, st.cur q.2))) (aA q.1 rs1).2)))
structure NOk {C : Ctx} (f : Nat) (m : List (Nat × Nat)) (args0 : List AV) (r0 : AV) (rs1 : List (Nat × Nat × Res)) : Prop where
 fc : FC C f args0 [] r0 rs1
 keys : (rs1.all fun p => m.any fun q => q.1 == p.1) = true
 nd : ndB (m.map (·.2)) = true
 nd1 : ndB (m.map (·.1)) = true
 args : aP bD args0 = true
 noR : ∀ σ δ, renL σ δ args0 = args0
 res : aW (domR rs1) r0 = true
 in1 : ∀ p ∈ rs1, bE (domR rs1) p.2.2
 dom : ∀ q ∈ m, domR rs1 q.1 = true ∧ 1 ≤ (aA q.1 rs1).1
theorem Kk {m : List (Nat × Nat)} (h : (m.map (·.1)).Nodup) (c : Nat → Nat) : ∀ q ∈ m, mpS (m.map fun q => (q.1, q.2, c q.2)) q.1 = q.2 ∧ mpD (m.map fun q => (q.1, q.2, c q.2)) q.1 = c q.2 := by
 induction m with
 | nil => intro q hq; simp at hq
 | cons p m ih =>
  intro q hq
  rw [List.map_cons, List.nodup_cons] at h
  rcases List.mem_cons.1 hq with rfl | hq
  ·simp [mpS, mpD]
  ·have hne : q.1 ≠ p.1 := fun e => h.1 (by rw [← e]; exact List.mem_map_of_mem hq)
   have := ih h.2 q hq
   simp only [List.map_cons, mpS, mpD]
   rw [if_neg (by simpa using hne), if_neg (by simpa using hne)]
   exact this
theorem aF6 {C : Ctx} {f : Nat} {m : List (Nat × Nat)} {args0 : List AV} {r0 : AV} {rs1 : List (Nat × Nat × Res)} (q : NOk (C := C) f m args0 r0 rs1) (st : St) (d : Nat) (args : List AV) (K : AV → List Loc → List (Loc × Cont) → Prop) (h : spN m args0 r0 rs1 st d args K) :
  ∃ r ls outs, cO C f st args r ls outs ∧ K r ls outs := by
 obtain ⟨rfl, h3⟩ := h
 have hmp := Kk (rB q.nd1) st.cur
 have hc := cO.gen (st := st) q.fc (m.map fun q => (q.1, q.2, st.cur q.2)) (by simpa [List.any_map] using q.keys) (by rw [List.map_map]; exact rB q.nd) (bK q.args) q.res (fun p hp => by simp at hp) q.in1 (fun p hp => by simp at hp) (fun p hp _ _ => by
  obtain ⟨z, hz, rfl⟩ := List.mem_map.1 hp
  have := (q.dom z hz).2
  rw [(hmp z hz).1, (hmp z hz).2]
  exact Nat.lt_add_of_pos_left this)
 rw [q.noR] at hc
 refine ⟨_, _, _, hc, ?_⟩
 have e1 : (m.map fun q => (q.1, q.2, st.cur q.2)).map (fun z => Loc.R (mpS (m.map fun q => (q.1, q.2, st.cur q.2)) z.1)) = m.map fun q => Loc.R q.2 := by
  rw [List.map_map]
  exact List.map_congr_left fun z hz => congrArg Loc.R (hmp z hz).1
 have e2 : (m.map fun q => (q.1, q.2, st.cur q.2)).map (fun z => ((Loc.R (mpS (m.map fun q => (q.1, q.2, st.cur q.2)) z.1), Cont.s (eH (mpD (m.map fun q => (q.1, q.2, st.cur q.2))) (mpS (m.map fun q => (q.1, q.2, st.cur q.2))) rs1 st z.1) (cD (mpS (m.map fun q => (q.1, q.2, st.cur q.2))) (mpD (m.map fun q => (q.1, q.2, st.cur q.2))) (aA z.1 rs1).2)) : Loc × Cont)) =
   m.map fun z => (Loc.R z.2, Cont.s ((aA z.1 rs1).1 + st.cur z.2) (cD (mpS (m.map fun q => (q.1, q.2, st.cur q.2))) (mpD (m.map fun q => (q.1, q.2, st.cur q.2))) (aA z.1 rs1).2)) := by
  rw [List.map_map]
  refine List.map_congr_left fun z hz => ?_
  simp only [Function.comp]
  rw [(hmp z hz).1]
  unfold eH
  rw [if_pos (q.dom z hz).1, (hmp z hz).2]
 rw [e1, e2]
 exact h3
noncomputable def ctN {C : Ctx} (f : Nat) (m : List (Nat × Nat)) (args0 : List AV) (r0 : AV) (rs1 : List (Nat × Nat × Res)) (he : aD C.P f) (q : NOk (C := C) f m args0 r0 rs1) : Ct C := .res f (spN m args0 r0 rs1) he (aF6 q)
@[go_sem] theorem aRm {C : Ctx} (f : Nat) (m : List (Nat × Nat)) (args0 : List AV) (r0 : AV) (rs1 : List (Nat × Nat × Res)) (he : aD C.P f) (q : NOk (C := C) f m args0 r0 rs1) : (ctN f m args0 r0 rs1 he q).g = f := rfl
@[go_sem] theorem aQm {C : Ctx} (f : Nat) (m : List (Nat × Nat)) (args0 : List AV) (r0 : AV) (rs1 : List (Nat × Nat × Res)) (he : aD C.P f) (q : NOk (C := C) f m args0 r0 rs1) (c : Call) (fop : Operand) (cs : List AV) (o : Oper) (st : St) (K : List Loc → List (Loc × Cont) → Prop) : (ctN f m args0 r0 rs1 he q).run c fop cs o st K = jH (spN m args0 r0 rs1) c fop cs o st K := rfl
attribute [go_sem] spN
abbrev fY (e : iZ) : List AV := [Iv e.kind, Iv e.step, Iv e.thread, Iv e.fn, Iv e.pc, Iv e.line, Iv e.a, Iv e.b, Iv e.val.1, Iv e.val.2, Iv e.old.1, Iv e.old.2]
theorem aM4 (e : iZ) (k : Nat) : bE (domR [(0, 0, .bx (fY e))]) (aA k [(0, 0, .bx (fY e))]).2 := by
 have h : aA k [(0, 0, Res.bx (fY e))] = if k = 0 then (0, .bx (fY e)) else (0, .gone) := rfl
 rw [h]
 split
 ·rfl
 ·trivial
theorem aGo (e : iZ) (k : Int) (v : Int × Int) : FC Cx 142 [Iv k, .r (.rp [.v (.int .i64 v.1), .v (.int .i64 v.2)]), .os 0 0] [(0, 0, .bx (fY e))] (iA { e with kind := k, val := v }) [(0, 0, .bx (fY { e with kind := k, val := v }))] := by
 refine gY []  Tryz.func142 rfl Tryz.ntmps142 (by simp) Tryz.results142 rfl (aM4 _) ?_
 refine rnst ?_
 (any_goals refine go aPw 0 ?_)
 all_goals (try simp only [go_sem])
theorem aDy (e : iZ) (k : Int) (v : Int × Int) (a d : Nat) : QOk (C := Cx) 142 [(0, a, d)] [Iv k, .r (.rp [.v (.int .i64 v.1), .v (.int .i64 v.2)]), .os 0 0] [(0, 0, .bx (fY e))] (iA { e with kind := k, val := v }) [(0, 0, .bx (fY { e with kind := k, val := v }))] :=
 ⟨aGo e k v, rfl, rfl, rfl, rfl, rfl, fun p hp => by simp at hp; subst hp; rfl, fun p hp => by simp at hp; subst hp; rfl⟩
abbrev boxS (s : aC) (k v a va b vb : Nat) : Nat × Nat × Res := (k, v, .bx [.os a va, aN s.shapes, bN s.texts, .os b vb, cA s.ends, aN s.said, Iv s.asked, Iv s.steps])
def killC (f : aK) (cs : List aZ) : List aZ := if 0 ≤ f.gen then (match cs[f.gen.toNat]? with | some c => cs.set f.gen.toNat { c with num := 2 } | none => cs) else cs
def unwF (v : Int × Int) (fs : List aK) : Nat → List aZ → List aZ × List aK × Bool
 | 0, cs => (cs, [], false)
 | m + 1, cs => match fs[m]? with
  | none => (cs, [], false)
  | some f => match f.tries[f.tries.length - 1]? with
   | some y => (cs, fs.take m ++ [{ f with tries := f.tries.take (f.tries.length - 1), pc := y.2, regs := f.regs.set y.1.toNat v }], true)
   | none => unwF v fs m (killC f cs)
def thrT (v : Int × Int) (t : aJ) (r : List aZ × List aK × Bool) : aJ := if r.2.2 = true then ⟨r.2.1, 0, 0, t.val⟩ else ⟨r.2.1, 4, 0, v⟩
theorem tX (f : aK) (cs : List aZ) : (killC f cs).length = cs.length := by
 unfold killC
 split
 ·split
  ·rw [List.length_set]
  ·rfl
 ·rfl
theorem Kd (s : aC) (cs : List aZ) (ts : List aJ) (k : Nat) : bE (domR [boxS s 0 0 1 0 2 0, ownC 1 0 cs, ownT 2 0 ts]) (aA k [boxS s 0 0 1 0 2 0, ownC 1 0 cs, ownT 2 0 ts]).2 := by
 have e : aA k [boxS s 0 0 1 0 2 0, ownC 1 0 cs, ownT 2 0 ts] = if k = 0 then (0, (boxS s 0 0 1 0 2 0).2.2) else if k = 1 then (0, .sl 48 4 (cs.map eJ)) else if k = 2 then (0, .sl 56 5 (ts.map bV)) else (0, .gone) := rfl
 rw [e]
 split
 ·rfl
 ·split
  ·exact fun row h => by obtain ⟨x, _, rfl⟩ := List.mem_map.1 h; rfl
  ·split
   ·exact fun row h => by obtain ⟨x, _, rfl⟩ := List.mem_map.1 h; rfl
   ·trivial
theorem do_c (s : aC) (th : Nat) (t : aJ) (v : Int × Int) (e : iZ) (ht : s.threads[th]? = some t) (hl : t.frames.length ≤ 1000000000) (hcl : s.cells.length ≤ 1000000000)
  (hfs : ∀ f ∈ t.frames, (f.tries.length ≤ 1000000000 ∧ ∀ y ∈ f.tries, 0 ≤ y.1 ∧ y.1 < (f.regs.length : Int)) ∧ (0 ≤ f.gen → f.gen < (s.cells.length : Int))) :
  FC Cx 85 [.os 0 0, Iv th, VV v.1 v.2, iA e] [boxS s 0 0 1 0 2 0, ownC 1 0 s.cells, ownT 2 0 s.threads]
   (gV [{ e with kind := 7, val := v }, { e with kind := if (unwF v t.frames t.frames.length s.cells).2.2 = true then 8 else 17, val := v }])
   [boxS s 0 0 1 0 2 0, ownC 1 0 (unwF v t.frames t.frames.length s.cells).1, ownT 2 0 (s.threads.set th (thrT v t (unwF v t.frames t.frames.length s.cells)))] := by
 have hk := (List.getElem?_eq_some_iff.1 ht).1
 have t1 : Int.toNat (th : Int) = th := by omega
 have q2 : (s.threads.map bV)[th]? = some (bV t) := by rw [List.getElem?_map, ht]; rfl
 have q1 : (s.threads.map bV).length = s.threads.length := List.length_map ..
 have q8 : (s.threads.set th (thrT v t (unwF v t.frames t.frames.length s.cells))).map bV = (s.threads.map bV).set th (bV (thrT v t (unwF v t.frames t.frames.length s.cells))) := List.map_set ..
 have hq := fun (e : iZ) (k : Int) => aDy e k v 7 1
 have en : aD Cx.P 142 := aL3
 obtain ⟨vk, vn⟩ := v
 dsimp only at *
 have hins := Kd s (unwF (vk, vn) t.frames t.frames.length s.cells).1 (s.threads.set th (thrT (vk, vn) t (unwF (vk, vn) t.frames t.frames.length s.cells)))
 dsimp only [boxS, ownC, ownT] at hins ⊢
 rw [q8] at hins ⊢
 clear q8
 refine gY [ctQ 142 [(0, 7, 1)] [Iv 7, .r (.rp [.v (.int .i64 vk), .v (.int .i64 vn)]), .os 0 0] [(0, 0, .bx (fY e))] (iA { e with kind := 7, val := (vk, vn) }) [(0, 0, .bx (fY { e with kind := 7, val := (vk, vn) }))] en (hq e 7)]  Tryz.func85 rfl Tryz.ntmps85 (by simp) Tryz.results85 rfl (hins) ?_
 refine rnst ?_
 clear hins
 (any_goals refine go (iS 1 lv85) 0 ?_)
 refine fzB 6 ?_
 generalize hT0 : s.threads.map bV = T0 at *
 have q4 : ∀ X, (T0.set th X).length = s.threads.length := fun X => by rw [List.length_set, q1]
 have q5 : T0.getD th [] = bV t := by rw [List.getD_eq_getElem?_getD, q2]; rfl
 have q6 : ∀ X, (T0.set th X).getD th [] = X := fun X => by rw [List.getD_eq_getElem?_getD, List.getElem?_set_self (by omega)]; rfl
 have q7 : ∀ X Y, (T0.set th X).set th Y = T0.set th Y := fun X Y => List.set_set ..
 (any_goals refine go (iS 5 lv85) 0 ?_)
 (apply wY 2 th 0 201; (exact rfl); (exact List.getElem?_set_self (by omega)); (exact rfl); (exact rfl); (exact rfl); (intro K0; (try simp only [go_sem, q7, tM]); exact ⟨id⟩))
 have lf0 : (t.frames.map frameA2).length = t.frames.length := List.length_map ..
 have w0 : IntKind.i64.wrap ((t.frames.length : Int) - 1) = (t.frames.length : Int) - 1 := by rw [aS] <;> omega
 (any_goals refine go lv85 0 ?_)
 rw [show t.frames.map frameA2 = (t.frames.take t.frames.length).map frameA2 by rw [List.take_length]]
 refine dB (fun x : Nat × Nat × List aZ => x.1 ≤ t.frames.length ∧ x.2.2.length = s.cells.length ∧ unwF (vk, vn) t.frames t.frames.length s.cells = unwF (vk, vn) t.frames x.1 x.2.2) (fun x => ⟨126, [(0, .os 0 0), (6, .r (.rp [.v (.int .i64 vk), .v (.int .i64 vn)])), (9, .cl 142 [.r (.rp [.v (.int .i64 vk), .v (.int .i64 vn)]), .os 7 1]), (10, .os 19 1), (11, .re 2 0 5 th 0), (12, Iv ((x.1 : Int) - 1))], [(0, 0, .bx [.os 1 0, aN s.shapes, bN s.texts, .os 2 0, cA s.ends, aN s.said, Iv s.asked, Iv s.steps]), (1, 0, .sl 48 4 (x.2.2.map eJ)), (2, 0, .sl 56 5 (T0.set th [.os 201 x.2.1, Iv 0, Iv 0, Iv t.val.1, Iv t.val.2])), (6, 2, .gone), (7, 1, .bx (fY { e with kind := 7, val := (vk, vn) })), (19, 1, .sl 76 12 [fY { e with kind := 7, val := (vk, vn) }]), (201, x.2.1, .sl 61 8 ((t.frames.take x.1).map frameA2))]⟩) (fun x => x.1) (t.frames.length, 1, s.cells) ⟨Nat.le_refl _, rfl, rfl⟩ ?_
 rintro ⟨m, w, cs⟩ ⟨hm, hcs, hu⟩
 dsimp only at hm hcs hu ⊢
 rw [hu]
 clear lf0 w0 q5
 cases m with
 | zero =>
  rw [show ((0 : Nat) : Int) - 1 = -1 from rfl, show unwF (vk, vn) t.frames 0 cs = (cs, [], false) from rfl]
  dsimp only [thrT]
  rw [if_neg (show ¬ false = true by simp), if_neg (show ¬ false = true by simp)]
  (apply fS 2 th 0 201 []; (exact rfl); (exact List.getElem?_set_self (by omega)); (exact rfl); (exact (by decide)); (exact rfl); (exact rfl); (intro K0; (try simp only [go_sem, q7]); exact ⟨id⟩))
  refine Rn_T [ctQ 142 [(0, 7, 1)] [Iv 17, .r (.rp [.v (.int .i64 vk), .v (.int .i64 vn)]), .os 0 0] [(0, 0, .bx (fY { e with kind := 7, val := (vk, vn) }))] (iA { e with kind := 17, val := (vk, vn) }) [(0, 0, .bx (fY { e with kind := 17, val := (vk, vn) }))] en (hq { e with kind := 7, val := (vk, vn) } 17)] ?_
  (any_goals refine goN lv85 0 ?_)
  (apply sM 19 [wD { e with kind := 7, val := (vk, vn) }, wD { e with kind := 17, val := (vk, vn) }]; (exact rfl); (exact rfl); (exact rfl); (intro K0; (try simp only [go_sem]); exact ⟨id⟩))
  (any_goals refine go lv85 0 ?_)
  all_goals (try simp only [go_sem])
  exact ⟨rfl, rfl⟩
 | succ k =>
  rw [show ((k + 1 : Nat) : Int) - 1 = (k : Int) by omega]
  obtain ⟨f, hf⟩ : ∃ f, t.frames[k]? = some f := ⟨t.frames[k]'(by omega), List.getElem?_eq_getElem _⟩
  obtain ⟨⟨hf1, hf2⟩, hf3⟩ := hfs f (List.mem_of_getElem? hf)
  have p2 : ((t.frames.take (k + 1)).map frameA2)[k]? = some (frameA2 f) := by rw [List.getElem?_map, List.getElem?_take, if_pos (by omega), hf]; rfl
  have p1 : ((t.frames.take (k + 1)).map frameA2).length = k + 1 := by rw [List.length_map, List.length_take]; omega
  have p3 : List.take k ((t.frames.take (k + 1)).map frameA2) = (t.frames.take k).map frameA2 := by rw [← List.map_take, List.take_take, Nat.min_eq_left (by omega)]
  have p3' : (t.frames.take (k + 1)) = t.frames.take k ++ [f] := by rw [List.take_add_one, hf]; rfl
  have p4 : ((t.frames.take (k + 1)).map frameA2).getD k [] = frameA2 f := by rw [List.getD_eq_getElem?_getD, p2]; rfl
  have t2 : Int.toNat (k : Int) = k := by omega
  have d1 : decide ((0 : Int) ≤ (k : Int)) = true := by rw [decide_eq_true_eq]; omega
  have w1 : IntKind.i64.wrap ((k : Int) - 1) = (k : Int) - 1 := by rw [aS] <;> omega
  have lt : (f.tries.map tryR).length = f.tries.length := List.length_map ..
  have w2 : IntKind.i64.wrap ((f.tries.length : Int) - 1) = (f.tries.length : Int) - 1 := by rw [aS] <;> omega
  by_cases ht0 : f.tries.length = 0
  ·have hu2 : unwF (vk, vn) t.frames (k + 1) cs = unwF (vk, vn) t.frames k (killC f cs) := by
    rw [unwF, hf]
    dsimp only
    rw [List.getElem?_eq_none (by omega)]
   rw [hu2] at hu ⊢
   have d2 : decide ((0 : Int) ≤ (f.tries.length : Int) - 1) = false := by rw [decide_eq_false_iff_not]; omega
   generalize hR : (t.frames.take (k + 1)).map frameA2 = R at *
   clear hf2 p3' hR hfs hT0 q2
   by_cases hg : 0 ≤ f.gen
   ·have hg2 := hf3 hg
    have d3 : decide (0 ≤ f.gen) = true := by simpa using hg
    obtain ⟨c, hc⟩ : ∃ c, cs[f.gen.toNat]? = some c := ⟨cs[f.gen.toNat]'(by omega), List.getElem?_eq_getElem _⟩
    have gc := aG eJ hc ([] : List AV)
    have lc : (cs.map eJ).length = cs.length := List.length_map ..
    have hkc : killC f cs = cs.set f.gen.toNat { c with num := 2 } := by unfold killC; rw [if_pos hg, hc]
    have hset : (killC f cs).map eJ = (cs.map eJ).set f.gen.toNat [Iv c.kind, Iv 2, aN c.vals, .nd 61 8 (c.frames.map kN)] := by rw [hkc, List.map_set]
    have hkl := tX f cs
    clear hkc hc
    obtain ⟨fn, pc, tov, gen, ⟨sk, sn⟩, regs, tries⟩ := f
    dsimp only at *
    (any_goals refine go lv85 0 ?_)
    refine ⟨(k, w + 1, killC ⟨fn, pc, tov, gen, (sk, sn), regs, tries⟩ cs), ⟨by dsimp only; omega, by dsimp only; omega, rfl⟩, by dsimp only; omega, ?_⟩
    dsimp only
    rw [hset]
    exact bQ
   ·have d3 : decide (0 ≤ f.gen) = false := by simpa using hg
    have hkc : killC f cs = cs := by unfold killC; rw [if_neg hg]
    rw [hkc] at hu ⊢
    obtain ⟨fn, pc, tov, gen, ⟨sk, sn⟩, regs, tries⟩ := f
    dsimp only at *
    clear hkc hu2
    (any_goals refine go lv85 0 ?_)
    refine ⟨(k, w + 1, cs), ⟨by dsimp only; omega, hcs, rfl⟩, by dsimp only; omega, ?_⟩
    dsimp only
    exact bQ
  ·obtain ⟨y, hy⟩ : ∃ y, f.tries[f.tries.length - 1]? = some y := ⟨f.tries[f.tries.length - 1]'(by omega), List.getElem?_eq_getElem _⟩
   obtain ⟨y0, y1⟩ := hf2 y (List.mem_of_getElem? hy)
   have gy := aG tryR hy ([] : List RV)
   obtain ⟨z, hz⟩ : ∃ z, f.regs[y.1.toNat]? = some z := ⟨f.regs[y.1.toNat]'(by omega), List.getElem?_eq_getElem _⟩
   have gz := aG valC hz ([] : List AV)
   have lr : (f.regs.map valC).length = f.regs.length := List.length_map ..
   have t3 : Int.toNat ((f.tries.length : Int) - 1) = f.tries.length - 1 := by omega
   have d2 : decide ((0 : Int) ≤ (f.tries.length : Int) - 1) = true := by rw [decide_eq_true_eq]; omega
   have hu2 : unwF (vk, vn) t.frames (k + 1) cs = (cs, t.frames.take k ++ [{ f with tries := f.tries.take (f.tries.length - 1), pc := y.2, regs := f.regs.set y.1.toNat (vk, vn) }], true) := by
    rw [unwF, hf]
    dsimp only
    rw [hy]
   rw [hu2]
   dsimp only [thrT]
   rw [if_pos rfl, if_pos rfl]
   clear hu hu2 hz hy
   have p6 : ∀ X, (((t.frames.take (k + 1)).map frameA2).set k X).getD k [] = X := fun X => by rw [List.getD_eq_getElem?_getD, List.getElem?_set_self (by omega)]; rfl
   have p7 : ∀ X Y, (((t.frames.take (k + 1)).map frameA2).set k X).set k Y = ((t.frames.take (k + 1)).map frameA2).set k Y := fun X Y => List.set_set ..
   have p8 : ∀ X, (((t.frames.take (k + 1)).map frameA2).set k X).length = k + 1 := fun X => by rw [List.length_set, p1]
   have p9 : ∀ g : aK, ((t.frames.take (k + 1)).map frameA2).set k (frameA2 g) = ((t.frames.take k ++ [g]).map kN).map (List.map nvC) := fun g => by
    rw [tM, p3', List.map_append, List.set_append_right _ _ (by rw [List.length_map, List.length_take]; omega), List.length_map, List.length_take, show k - min k t.frames.length = 0 by omega, List.map_append]
    rfl
   generalize hR : (t.frames.take (k + 1)).map frameA2 = R at *
   clear p3' p3 hR hfs hT0 q2
   (apply wY 201 k 6 202; (exact rfl); (exact p2); (exact rfl); (exact rfl); (exact rfl); (intro K0; (try simp only [go_sem, Iq]); exact ⟨id⟩))
   obtain ⟨fn, pc, tov, gen, ⟨sk, sn⟩, regs, tries⟩ := f
   dsimp only at *
   have pT : List.take (tries.length - 1) (tries.map tryR) = (tries.take (tries.length - 1)).map tryR := List.map_take.symm
   have k1 : (regs.map valC).set y.1.toNat [Iv vk, Iv vn] = ((regs.set y.1.toNat (vk, vn)).map valN).map (List.map nvC) := by rw [Iq, List.map_set]
   replace p9 := p9 ⟨fn, y.2, tov, gen, (sk, sn), regs.set y.1.toNat (vk, vn), tries.take (tries.length - 1)⟩
   (any_goals refine go (iS 13 lv85) 0 ?_)
   (apply fS 201 k 6 202 ((regs.set y.1.toNat (vk, vn)).map valN); (exact rfl); (exact List.getElem?_set_self (by omega)); (exact rfl); (exact (by decide)); (exact rfl); (exact rfl); (intro K0; (try simp only [go_sem, p7]); exact ⟨id⟩))
   (apply fS 2 th 0 201 ((t.frames.take k ++ [(⟨fn, y.2, tov, gen, (sk, sn), regs.set y.1.toNat (vk, vn), tries.take (tries.length - 1)⟩ : aK)]).map kN); (exact rfl); (exact List.getElem?_set_self (by omega)); (exact rfl); (exact (by decide)); (exact congrArg (fun z => (w, Res.sl 61 8 z)) p9); (exact rfl); (intro K0; (try simp only [go_sem, q7]); exact ⟨id⟩))
   clear p9 k1 pT
   refine Rn_T [ctQ 142 [(0, 7, 1)] [Iv 8, .r (.rp [.v (.int .i64 vk), .v (.int .i64 vn)]), .os 0 0] [(0, 0, .bx (fY { e with kind := 7, val := (vk, vn) }))] (iA { e with kind := 8, val := (vk, vn) }) [(0, 0, .bx (fY { e with kind := 8, val := (vk, vn) }))] en (hq { e with kind := 7, val := (vk, vn) } 8)] ?_
   (any_goals refine goN lv85 0 ?_)
   (apply sM 19 [wD { e with kind := 7, val := (vk, vn) }, wD { e with kind := 8, val := (vk, vn) }]; (exact rfl); (exact rfl); (exact rfl); (intro K0; (try simp only [go_sem]); exact ⟨id⟩))
   (any_goals refine go lv85 0 ?_)
   all_goals (try simp only [go_sem])
   all_goals rfl
def TrG (f : FnT) (W : WT) (l : List (Int × Int)) : Prop := ∀ (j : Nat) (y : Int × Int), l[j]? = some y → (0 ≤ y.1 ∧ y.1 < f.regs) ∧ To f W y.2 (l.take j)
theorem TrG.keeps {f : FnT} {W W' : WT} {l : List (Int × Int)} (h : TrG f W l) (hk : ∀ t l, To f W t l → To f W' t l) : TrG f W' l := fun j y hy => ⟨(h j y hy).1, hk _ _ (h j y hy).2⟩
theorem TrG.nil (f : FnT) (W : WT) : TrG f W [] := fun j y hy => by simp at hy
theorem TrG.take {f : FnT} {W : WT} {l : List (Int × Int)} (h : TrG f W l) (k : Nat) : TrG f W (l.take k) := fun j y hy => by
 rw [List.getElem?_take] at hy
 split at hy
 ·rename_i hj
  have := h j y hy
  rw [List.take_take, Nat.min_eq_left (by omega)]; exact this
 ·cases hy
theorem TrG.push {f : FnT} {W : WT} {l : List (Int × Int)} (h : TrG f W l) {a b : Int} (ha : 0 ≤ a ∧ a < f.regs) (hb : To f W b l) : TrG f W (l ++ [(a, b)]) := fun j y hy => by
 by_cases hj : j < l.length
 ·rw [List.getElem?_append_left hj] at hy
  rw [List.take_append_of_le_length (by omega)]
  exact h j y hy
 ·rw [List.getElem?_append_right (by omega)] at hy
  have he : j - l.length = 0 := by
   rcases Nat.eq_zero_or_pos (j - l.length) with h | h
   ·exact h
   ·rw [List.getElem?_eq_none (by simp; omega)] at hy; cases hy
  rw [he] at hy; simp at hy; subst hy
  rw [show j = l.length by omega, List.take_left]
  exact ⟨ha, hb⟩
def Wtr6 (f : FnT) (W : WT) : Prop := ∀ k : Nat, W.seen.getD k false = true → TrG f W (W.out.getD k [])
theorem iT {f : FnT} {n : Int} {l : List (Int × Int)} {W : WT} (hi : Wiv f W) (hn : 0 ≤ n) (hl : TrG f (bF f n l W) l) (hW : Wtr6 f W) : Wtr6 f (bF f n l W) := by
 intro k hk
 by_cases hs : W.seen.getD k false = true
 ·have hT := Kt hi hs
  have h2 := bY (n := n) (l := l) hT
  have : (bF f n l W).out.getD k [] = W.out.getD k [] := h2.out
  rw [this]
  exact (hW k hs).keeps fun t l' hT => bY hT
 ·have h1 := hi.out
  unfold bF at hk hl ⊢
  split at hk
  ·exact absurd hk hs
  ·rename_i hb
   rw [if_neg hb] at hl ⊢
   split at hk
   ·rename_i hs2
    rw [if_pos hs2] at hl ⊢
    by_cases he : n.toNat = k
    ·subst he
     dsimp only
     rw [iK (by omega)]; exact hl
    ·dsimp only at hk; rw [iN he] at hk; exact absurd hk hs
   ·split at hk <;> exact absurd hk hs
theorem Hs {f : FnT} {n : Int} {l : List (Int × Int)} {W : WT} (h : (bF f n l W).bad = false) : W.bad = false := by
 cases hx : W.bad with
 | false => rfl
 | true => rw [nS hx] at h; cases h
theorem Ue {f : FnT} {n : Int} {W : WT} (h : Wiv f W) (hc : Cok f) (hr : ∀ i ∈ f.code, i.op = 30 → 0 ≤ i.a ∧ i.a < f.regs) (hn : 0 ≤ n) (hs : W.seen.getD n.toNat false = true) (hb : (bT f n W).bad = false) (hW : Wtr6 f W) : Wtr6 f (bT f n W) := by
 have hi : f.code.getD n.toNat ins0 = ins0 ∨ f.code.getD n.toNat ins0 ∈ f.code := by
  cases hg : f.code[n.toNat]? with
  | none => left; simp [List.getD, hg]
  | some i => right; simp only [List.getD, hg, Option.getD_some]; exact List.mem_of_getElem? hg
 have hA : (f.code.getD n.toNat ins0).op = 13 ∨ (f.code.getD n.toNat ins0).op = 14 → 0 ≤ (f.code.getD n.toNat ins0).a := fun ho => hi.elim (fun h => by rw [h] at ho; rcases ho with ho | ho <;> cases ho) (fun h => hc.a _ h ho)
 have hB : (f.code.getD n.toNat ins0).op = 15 ∨ (f.code.getD n.toNat ins0).op = 30 → 0 ≤ (f.code.getD n.toNat ins0).b := fun ho => hi.elim (fun h => by rw [h] at ho; rcases ho with ho | ho <;> cases ho) (fun h => hc.b _ h ho)
 have hR : (f.code.getD n.toNat ins0).op = 30 → 0 ≤ (f.code.getD n.toNat ins0).a ∧ (f.code.getD n.toNat ins0).a < f.regs := fun ho => hi.elim (fun h => by rw [h] at ho; cases ho) (fun h => hr _ h ho)
 have hl := hW n.toNat hs
 unfold bT at hb ⊢
 generalize f.code.getD n.toNat ins0 = i at hA hB hR hb ⊢
 generalize W.out.getD n.toNat [] = l at hl hb ⊢
 dsimp only at hb ⊢
 split at hb
 ·rename_i h1; rw [if_pos h1]; exact hW
 ·rename_i h1
  rw [if_neg h1]
  split at hb
  ·rename_i h2; rw [if_pos h2]
   exact iT h (hA h2) (hl.keeps fun t l' hT => bY hT) hW
  ·rename_i h2
   rw [if_neg h2]
   split at hb
   ·rename_i h3; rw [if_pos h3]
    have q := (eU (n := i.b) (l := l) h (hB (.inl h3))).1
    exact iT q (by omega) ((hl.keeps fun t l' hT => bY hT).keeps fun t l' hT => bY hT) (iT h (hB (.inl h3)) (hl.keeps fun t l' hT => bY hT) hW)
   ·rename_i h3
    rw [if_neg h3]
    split at hb
    ·rename_i h4; rw [if_pos h4]
     have q := (eU (n := i.b) (l := l) h (hB (.inr h4))).1
     have hT := bY (n := n + 1) (l := l ++ [(i.a, i.b)]) (sQ h (hB (.inr h4)) (Hs hb))
     exact iT q (by omega) (((hl.keeps fun t l' hT => bY hT).keeps fun t l' hT => bY hT).push (hR h4) hT) (iT h (hB (.inr h4)) (hl.keeps fun t l' hT => bY hT) hW)
    ·rename_i h4
     rw [if_neg h4]
     split at hb
     ·rename_i h5; rw [if_pos h5]
      split at hb
      ·cases hb
      ·rename_i h6; rw [if_neg h6]
       exact iT h (by omega) ((hl.take _).keeps fun t l' hT => bY hT) hW
     ·rename_i h5; rw [if_neg h5]
      exact iT h (by omega) (hl.keeps fun t l' hT => bY hT) hW
def Wtd6 (W : WT) : Prop := ∀ t ∈ W.todo, W.seen.getD t.toNat false = true
theorem iQ {f : FnT} {n : Int} {l : List (Int × Int)} {W : WT} (hi : Wiv f W) (hn : 0 ≤ n) (h : Wtd6 W) : Wtd6 (bF f n l W) := by
 have h1 := hi.seen
 unfold bF
 split
 ·exact h
 ·rename_i hb
  split
  ·intro t ht
   dsimp only at ht ⊢
   by_cases he : n.toNat = t.toNat
   ·rw [← he, iK (by omega)]
   ·rw [iN he]
    rcases List.mem_append.1 ht with ht | ht
    ·exact h t ht
    ·simp at ht; subst ht; exact absurd rfl he
  ·split <;> exact h
theorem Pj {f : FnT} {n : Int} {W : WT} (h : Wiv f W) (hc : Cok f) (hn : 0 ≤ n) (hW : Wtd6 W) : Wtd6 (bT f n W) := by
 have hi : f.code.getD n.toNat ins0 = ins0 ∨ f.code.getD n.toNat ins0 ∈ f.code := by
  cases hg : f.code[n.toNat]? with
  | none => left; simp [List.getD, hg]
  | some i => right; simp only [List.getD, hg, Option.getD_some]; exact List.mem_of_getElem? hg
 have hA : (f.code.getD n.toNat ins0).op = 13 ∨ (f.code.getD n.toNat ins0).op = 14 → 0 ≤ (f.code.getD n.toNat ins0).a := fun ho => hi.elim (fun h => by rw [h] at ho; rcases ho with ho | ho <;> cases ho) (fun h => hc.a _ h ho)
 have hB : (f.code.getD n.toNat ins0).op = 15 ∨ (f.code.getD n.toNat ins0).op = 30 → 0 ≤ (f.code.getD n.toNat ins0).b := fun ho => hi.elim (fun h => by rw [h] at ho; rcases ho with ho | ho <;> cases ho) (fun h => hc.b _ h ho)
 unfold bT
 generalize f.code.getD n.toNat ins0 = i at hA hB ⊢
 generalize W.out.getD n.toNat [] = l
 dsimp only
 split
 ·exact hW
 ·split
  ·rename_i ho; exact iQ h (hA ho) hW
  ·split
   ·rename_i ho
    exact iQ (eU (n := i.b) (l := l) h (hB (.inl ho))).1 (by omega) (iQ h (hB (.inl ho)) hW)
   ·split
    ·rename_i ho
     exact iQ (eU (n := i.b) (l := l) h (hB (.inr ho))).1 (by omega) (iQ h (hB (.inr ho)) hW)
    ·split
     ·split
      ·exact hW
      ·exact iQ h (by omega) hW
     ·exact iQ h (by omega) hW
theorem Jv {f : FnT} (hc : Cok f) (hr : ∀ i ∈ f.code, i.op = 30 → 0 ≤ i.a ∧ i.a < f.regs) : ∀ (k : Nat) (W : WT), Wiv f W → Wtd6 W → Wtr6 f W → (runW f k W).bad = false → Wtr6 f (runW f k W)
 | 0, W, _, _, h, _ => h
 | k + 1, W, hi, ht, h, hb => by
  have hrun : runW f (k + 1) W = if dN W = true then runW f k (fV f W) else W := rfl
  rw [hrun] at hb ⊢
  split at hb
  ·rename_i hg
   rw [if_pos hg]
   have h0 : 0 < W.todo.length := by simp [dN] at hg; exact hg.1
   obtain ⟨q1, q2, q3, q4⟩ := Bp hi h0
   have hbs : (fV f W).bad = false := by
    cases hx : (fV f W).bad with
    | false => rfl
    | true =>
     have : ∀ (k : Nat) (W : WT), Wiv f W → W.bad = true → (runW f k W).bad = true := fun k => by
      induction k with
      | zero => intro W _ h; exact h
      | succ k ih =>
       intro W hi h
       show (if dN W = true then runW f k (fV f W) else W).bad = true
       have : dN W = false := by unfold dN; rw [h]; simp
       rw [this, if_neg (by simp)]; exact h
     rw [this k _ (mY hi hc hg).1 hx] at hb; cases hb
   have hm : lY W ∈ W.todo := by
    unfold lY
    rw [List.getD_eq_getElem?_getD, List.getElem?_eq_getElem (show W.todo.length - 1 < W.todo.length by omega)]
    exact List.getElem_mem _
   have hp : Wtr6 f (popW W) := fun k hk => (h k hk).keeps fun t l hT => ⟨hT.lo, hT.hi, hT.few, hT.seen, hT.out⟩
   have hpt : Wtd6 (popW W) := fun t ht' => ht t (List.mem_of_mem_take ht')
   exact Jv hc hr k _ (mY hi hc hg).1 (Pj q1 hc q3 hpt) (Ue q1 hc hr q3 (ht _ hm) hbs hp) hb
  ·rename_i hg; rw [if_neg hg]; exact h
theorem Qw {f : FnT} (hc : Cok f) (hr : ∀ i ∈ f.code, i.op = 30 → 0 ≤ i.a ∧ i.a < f.regs) (hb : (bU f).bad = false) : Wtr6 f (bU f) := by
 obtain ⟨i0, m0⟩ := Dl f
 obtain ⟨q1, q2⟩ := eU (n := 0) (l := []) i0 (Int.le_refl 0)
 have h0 : Wtr6 f (W0 f) := fun k hk => by
  exfalso
  have : (W0 f).seen.getD k false = false := by
   show (List.replicate f.code.length false).getD k false = false
   simp only [List.getD, List.getElem?_replicate]
   split <;> rfl
  rw [this] at hk; cases hk
 have t0 : Wtd6 (W0 f) := fun t ht => by cases ht
 exact Jv hc hr _ _ q1 (iQ i0 (Int.le_refl 0) t0) (iT i0 (Int.le_refl 0) (TrG.nil _ _) h0) hb
theorem Nu {p : aI} {f : FnT} (h : oX p f = true) : ∀ i ∈ f.code, i.op = 30 → 0 ≤ i.a ∧ i.a < f.regs := by
 intro i hi ho
 obtain ⟨k, hk, rfl⟩ := List.getElem_of_mem hi
 have h1 := List.all_eq_true.1 h k (List.mem_range.2 hk)
 rw [show f.code.getD k ins0 = f.code[k] by simp [List.getD, List.getElem?_eq_getElem hk]] at h1
 have h2 : kJ p f f.code[k] = true := by
  unfold lQ at h1
  split at h1
  ·cases h1
  ·split at h1
   ·cases h1
   ·rename_i h; simpa using h
 simp only [kJ, Bool.and_eq_true] at h2
 have h3 := h2.1.1.2
 have e : fB (f.code[k]).op 0 = 114 := by rw [ho]; rfl
 rw [e] at h3
 have h4 : wiF (f.code[k]).a 0 (f.regs - 1) = true := h3
 have h5 := oY.1 h4
 exact ⟨h5.1, by omega⟩
theorem vE {p : aI} {s : aC} {f : aK} (hw : Pwf p) (hp : checkF p = 0) (h : cR p s f = true) : f.tries.length ≤ 20 ∧ f.regs.length ≤ 60 ∧ (f.regs.length : Int) = (p.fns.getD f.fn.toNat fn0).regs ∧ TrG (p.fns.getD f.fn.toNat fn0) (bU (p.fns.getD f.fn.toNat fn0)) f.tries := by
 obtain ⟨⟨g1, g2⟩, g3, g4⟩ := sD h
 obtain ⟨F, hF⟩ : ∃ F, p.fns[f.fn.toNat]? = some F := ⟨p.fns[f.fn.toNat]'(by omega), List.getElem?_eq_getElem _⟩
 have eF : p.fns.getD f.fn.toNat fn0 = F := by rw [List.getD_eq_getElem?_getD, hF]; rfl
 obtain ⟨hpok, hfun, hcok, hbad⟩ := lZ hw hp (List.mem_of_getElem? hF)
 have hord : oX p F = true := by
  unfold cB at hfun
  split at hfun
  ·cases hfun
  ·split at hfun
   ·cases hfun
   ·rename_i h; simpa using h
 have hr60 := (hpok.fn F (List.mem_of_getElem? hF)).2.1
 unfold cR at h
 simp only [Bool.and_eq_true, decide_eq_true_eq] at h
 obtain ⟨⟨⟨⟨⟨⟨⟨_, _⟩, _⟩, b4⟩, _⟩, b6⟩, b7⟩, _⟩ := h
 rw [eF] at b4 b6 b7 ⊢
 have hT := Kt (Lm hcok) b6
 have hfew := hT.few
 rw [← b7] at hfew
 refine ⟨hfew, by omega, b4, ?_⟩
 have := Qw hcok (Nu hord) hbad f.pc.toNat b6
 rw [← b7] at this
 exact this
structure dO (s t : aC) : Prop where
 texts : s.texts.length ≤ t.texts.length
 cells : ∀ (k : Nat) (c : aZ), s.cells[k]? = some c → ∃ c', t.cells[k]? = some c' ∧ c'.kind = c.kind ∧ (c.kind = 4 → c'.num = c.num)
theorem dO.at {s t : aC} (h : dO s t) {n : Nat} (hn : n < s.cells.length) : n < t.cells.length ∧ (t.cells.getD n cS).kind = (s.cells.getD n cS).kind ∧ ((s.cells.getD n cS).kind = 4 → (t.cells.getD n cS).num = (s.cells.getD n cS).num) := by
 have h0 : s.cells[n]? = some s.cells[n] := List.getElem?_eq_getElem hn
 obtain ⟨c', h1, h2, h3⟩ := h.cells n _ h0
 have e1 : s.cells.getD n cS = s.cells[n] := by rw [List.getD_eq_getElem?_getD, h0]; rfl
 have e2 : t.cells.getD n cS = c' := by rw [List.getD_eq_getElem?_getD, h1]; rfl
 rw [e1, e2]
 exact ⟨(List.getElem?_eq_some_iff.1 h1).1, h2, h3⟩
theorem dO.fits {s t : aC} (h : dO s t) {v : Int × Int} (hv : fitsF s v = true) : fitsF t v = true := by
 unfold fitsF at hv ⊢
 simp only [Bool.and_eq_true] at hv ⊢
 refine ⟨hv.1, ?_⟩
 have h2 := hv.2
 by_cases k4 : v.1 = 4
 ·rw [if_pos k4] at h2 ⊢
  have := h.texts
  simp at h2 ⊢; omega
 ·rw [if_neg k4] at h2 ⊢
  by_cases k5 : v.1 = 5
  ·rw [if_pos k5] at h2 ⊢
   have h0 := wQ hv.1 (.inr k5)
   simp only [Bool.and_eq_true, decide_eq_true_eq, Bool.not_eq_true', decide_eq_false_iff_not] at h2 ⊢
   obtain ⟨q1, q2, _⟩ := h.at (n := v.2.toNat) (by omega)
   exact ⟨by omega, by rw [q2]; exact h2.2⟩
  ·rw [if_neg k5]
theorem dO.ref {s t : aC} (h : dO s t) {v : Int × Int} {q : Int} (hv : refF s v q = true) : refF t v q = true := by
 unfold refF at hv ⊢
 simp only [Bool.and_eq_true, decide_eq_true_eq] at hv ⊢
 obtain ⟨⟨⟨a, b⟩, c⟩, d⟩ := hv
 obtain ⟨q1, q2, _⟩ := h.at (n := v.2.toNat) (by omega)
 exact ⟨⟨⟨a, b⟩, by omega⟩, by rw [q2]; exact d⟩
theorem dO.is {s t : aC} (h : dO s t) {v : Int × Int} {q : Int} (hv : isF' s v q = true) : isF' t v q = true := by
 unfold isF' at hv ⊢
 simp only [Bool.and_eq_true, decide_eq_true_eq] at hv ⊢
 obtain ⟨⟨a, b⟩, c⟩ := hv
 have hr := Gq (s := s) (n := v.2) (by rw [← b]; exact a)
 obtain ⟨_, q2, _⟩ := h.at (n := v.2.toNat) (by omega)
 exact ⟨⟨h.fits a, b⟩, by rw [q2]; exact c⟩
theorem dO.all {s t : aC} (h : dO s t) {l : List (Int × Int)} (hv : l.all (fitsF s) = true) : l.all (fitsF t) = true :=
 List.all_eq_true.2 fun v hm => h.fits (List.all_eq_true.1 hv v hm)
theorem dO.held {s t : aC} (h : dO s t) {f : aK} (hf : qK s f = true) : qK t f = true := by
 unfold qK at hf ⊢
 simp only [Bool.and_eq_true] at hf ⊢
 exact ⟨h.all hf.1, h.fits hf.2⟩
theorem dO.frame {s t : aC} (h : dO s t) {p : aI} {f : aK} (hf : cR p s f = true) : cR p t f = true := by
 unfold cR at hf ⊢
 simp only [Bool.and_eq_true, decide_eq_true_eq] at hf ⊢
 obtain ⟨⟨⟨⟨⟨⟨⟨a1, a2⟩, a3⟩, a4⟩, a5⟩, a6⟩, a7⟩, a8⟩ := hf
 have hr := a2
 unfold refF at hr
 simp only [Bool.and_eq_true, decide_eq_true_eq] at hr
 obtain ⟨_, _, q3⟩ := h.at (n := f.self.2.toNat) (by have := hr.1.2; have := hr.1.1.2; omega)
 exact ⟨⟨⟨⟨⟨⟨⟨a1, h.ref a2⟩, by rw [q3 hr.2]; exact a3⟩, a4⟩, a5⟩, a6⟩, a7⟩, h.all a8⟩
theorem dO.saved {s t : aC} (h : dO s t) {p : aI} {f : aK} (hf : hJ p s f = true) : hJ p t f = true := by
 unfold hJ at hf ⊢
 simp only [Bool.and_eq_true] at hf ⊢
 exact ⟨⟨⟨⟨h.frame hf.1.1.1.1, hf.1.1.1.2⟩, hf.1.1.2⟩, hf.1.2⟩, hf.2⟩
theorem dO.heap {s t : aC} (h : dO s t) {p : aI} {c : aZ} (hc : dW p s c = true) : dW p t c = true := by
 unfold dW at hc ⊢
 split at hc
 ·rename_i h1; rw [if_pos h1]; exact hc
 ·rename_i h1
  rw [if_neg h1]
  split at hc
  ·rename_i h2
   rw [if_pos h2]
   simp only [Bool.or_eq_true] at hc ⊢
   exact hc.imp id h.saved
  ·rename_i h2; rw [if_neg h2]
theorem dO.cell {s t : aC} (h : dO s t) (hsh : t.shapes = s.shapes) {c : aZ} (hc : gC s c = true) : gC t c = true := by
 unfold gC at hc ⊢
 simp only [Bool.and_eq_true] at hc ⊢
 obtain ⟨⟨⟨⟨⟨a1, a2⟩, a3⟩, a4⟩, a5⟩, a6⟩ := hc
 have hn : numF t c = numF s c := by unfold numF; rw [hsh]
 refine ⟨⟨⟨⟨⟨a1, by rw [hn]; exact a2⟩, ?_⟩, a4⟩, h.all a5⟩, List.all_eq_true.2 fun f hf => h.held (List.all_eq_true.1 a6 f hf)⟩
 unfold kP at a3 ⊢
 split at a3
 ·rename_i h1; rw [if_pos h1, hn, hsh]; exact a3
 ·rename_i h1
  rw [if_neg h1]
  split at a3
  ·rename_i h2; rw [if_pos h2]
  ·rename_i h2
   rw [if_neg h2]
   split at a3
   ·rename_i h3; rw [if_pos h3]; exact a3
   ·rename_i h3
    rw [if_neg h3]
    split at a3
    ·rename_i h4
     rw [if_pos h4]
     rw [Bool.not_eq_true', List.any_eq_false] at a3 ⊢
     intro v hv
     have := a3 v hv
     simp only [Bool.not_eq_true, Bool.not_eq_false'] at this ⊢
     exact h.is this
    ·rename_i h4; rw [if_neg h4]; exact a3
structure Runs (s t : aC) : Prop where
 keeps : dO s t
 num : ∀ (k : Nat) (c : aZ), s.cells[k]? = some c → c.kind = 5 → c.num = 1 → ∃ c', t.cells[k]? = some c' ∧ c'.num = 1
theorem Runs.goes {s t : aC} (h : Runs s t) {k : Nat} {f : aK} (hf : gZ s k f = true) : gZ t k f = true := by
 unfold gZ at hf ⊢
 simp only [Bool.and_eq_true] at hf ⊢
 refine ⟨⟨hf.1.1, h.keeps.ref hf.1.2⟩, ?_⟩
 have hr := hf.1.2
 unfold refF at hr
 simp only [Bool.and_eq_true, decide_eq_true_eq] at hr
 have hlt : f.gen.toNat < s.cells.length := by have := hr.1.2; have := hr.1.1.2; omega
 have h0 : s.cells[f.gen.toNat]? = some s.cells[f.gen.toNat] := List.getElem?_eq_getElem hlt
 have e1 : s.cells.getD f.gen.toNat cS = s.cells[f.gen.toNat] := by rw [List.getD_eq_getElem?_getD, h0]; rfl
 have h3 := hr.2
 have h4 := hf.2
 simp only [decide_eq_true_eq] at h4
 rw [e1] at h4
 simp only [e1] at h3
 obtain ⟨c', q1, q2⟩ := h.num _ _ h0 h3 h4
 have e2 : t.cells.getD f.gen.toNat cS = c' := by rw [List.getD_eq_getElem?_getD, q1]; rfl
 rw [e2]; simp [q2]
theorem Runs.on {s t : aC} (h : dO s t) {p : aI} {low : Int} {f : aK} (hf : onF p s low f = true) : onF p t low f = true := by
 unfold onF at hf ⊢
 simp only [Bool.and_eq_true] at hf ⊢
 exact ⟨⟨⟨h.frame hf.1.1.1, hf.1.1.2⟩, hf.1.2⟩, hf.2⟩
theorem Runs.stack {s t : aC} (h : Runs s t) {p : aI} : ∀ {fs : List aK} {k : Nat} {low : Int}, fH p s k low fs → fH p t k low fs
 | [], _, _, _ => trivial
 | f :: fs, k, low, hs => ⟨⟨Runs.on h.keeps hs.1.1, fun h0 => h.goes (hs.1.2 h0)⟩, Runs.stack h hs.2⟩
theorem dO.head {s t : aC} (h : dO s t) (hl : s.threads.length ≤ t.threads.length) {p : aI} {x : aJ} (hx : jF p s x = true) : jF p t x = true := by
 unfold jF at hx ⊢
 simp only [Bool.and_eq_true] at hx ⊢
 refine ⟨⟨⟨hx.1.1.1, h.fits hx.1.1.2⟩, hx.1.2⟩, ?_⟩
 have h2 := hx.2
 split at h2
 ·rename_i s1; rw [if_pos s1]; exact h.ref h2
 ·rename_i s1
  rw [if_neg s1]
  split at h2
  ·rename_i s2; rw [if_pos s2]; simp at h2 ⊢; omega
  ·rename_i s2; rw [if_neg s2]; exact h2
theorem mD {p : aI} {s : aC} : ∀ {fs : List aK} {k : Nat} {low : Int} {i : Nat} {f : aK}, fH p s k low fs → fs[i]? = some f → ∃ low', onF p s low' f = true ∧ (0 ≤ f.gen → gZ s (k + i) f = true)
 | f0 :: fs, k, low, 0, f, h, hf => by simp at hf; subst hf; exact ⟨_, h.1⟩
 | f0 :: fs, k, low, i + 1, f, h, hf => by
  have := mD (i := i) h.2 (by simpa using hf)
  rwa [show k + 1 + i = k + (i + 1) by omega] at this
 | [], _, _, _, _, _, hf => by simp at hf
theorem yD {p : aI} {s : aC} {f f' : aK} (hl : f'.regs.length = f.regs.length) (ho : ∀ low, onF p s low f = true → onF p s low f' = true) (hg : f'.gen = f.gen) : ∀ {fs : List aK} {k : Nat} {low : Int} {i : Nat}, fH p s k low fs → fs[i]? = some f → fH p s k low (fs.set i f')
 | f0 :: fs, k, low, 0, h, hf => by
  simp at hf; subst hf
  refine ⟨⟨ho _ h.1.1, fun h0 => ?_⟩, ?_⟩
  ·have := h.1.2 (by rw [← hg]; exact h0)
   unfold gZ at this ⊢
   rw [hg]; exact this
  ·rw [hl]; exact h.2
 | f0 :: fs, k, low, i + 1, h, hf => ⟨h.1, yD hl ho hg h.2 (by simpa using hf)⟩
 | [], _, _, _, _, hf => by simp at hf
theorem zK {f f' : aK} (hg : f'.gen = f.gen) : ∀ {fs : List aK} {i : Nat}, fs[i]? = some f → gensL (fs.set i f') = gensL fs
 | f0 :: fs, 0, hf => by
  simp at hf; subst hf
  unfold gensL
  simp only [List.set_cons_zero, List.filter_cons, hg]
  split <;> simp [hg]
 | f0 :: fs, i + 1, hf => by
  have := zK hg (fs := fs) (i := i) (by simpa using hf)
  unfold gensL at this ⊢
  simp only [List.set_cons_succ, List.filter_cons]
  split
  ·simp only [List.map_cons, this]
  ·exact this
 | [], _, hf => by simp at hf
theorem sW {p : aI} {s : aC} {low : Int} {f : aK} (h : onF p s low f = true) : cR p s f = true := by
 unfold onF at h
 simp only [Bool.and_eq_true] at h
 exact h.1.1.1
theorem aBa (n : Nat) {C : Ctx} {f : Nat} {args : List AV} {rs0 : List (Nat × Nat × Res)} {xs ys : List RV} {y z : AV} (hf : FC C f args rs0 (.tup [.agg (xs.map .r), y, z]) []) (h : rowB (nilB n) xs ys) : FC C f args rs0 (.tup [.agg (ys.map .r), y, z]) [] := by
 refine Sy hf fun cur g w N v hv => ?_
 cases hv with
 | tup _ us hs hu =>
  refine .tup _ us hs fun j x u hx hju => ?_
  match j with
  | 0 =>
   simp at hx; subst hx
   exact AR.nilD (tP h) (fun j x y hx hy => vU n x y (vP h hx hy)) (hu 0 _ u rfl hju)
  | 1 => exact hu 1 x u hx hju
  | 2 => exact hu 2 x u hx hju
  | j + 3 => simp at hx
theorem Md (l : List (Int × Int)) : ndRs (l.map valN) = l.map valR := by rw [oG, List.map_map]; rfl
theorem lD (l : List aK) : ndRs (l.map kN) = l.map bM := by
 rw [oG, List.map_map]
 refine List.map_congr_left fun f _ => ?_
 show [_, _, _, _, _, _, RV.rs 2 (ndRs (f.regs.map valN)), _] = _
 rw [Md]; rfl
@[go_sem] theorem Ep (n : Nat) (st : St) : ∀ (l : List aZ) (K : List Loc → List (List RV) → Prop), qG (eV n st) (l.map eJ) K = K [] (l.map bA)
 | [], K => rfl
 | x :: l, K => by
  have e : bA x = [.v (.int .i64 x.kind), .v (.int .i64 x.num), .rs 2 (x.vals.map valR), .rs 8 (ndRs (x.frames.map kN))] := by rw [lD]
  cases n <;> (simp only [List.map_cons, qG, lX, eV, e]; rw [Ep _ st l]; rfl)
@[go_sem] theorem yT (n : Nat) (st : St) : ∀ (l : List aJ) (K : List Loc → List (List RV) → Prop), qG (eV n st) (l.map bV) K = K [] (l.map aL)
 | [], K => rfl
 | x :: l, K => by
  have e : aL x = [.rs 8 (ndRs (x.frames.map kN)), .v (.int .i64 x.state), .v (.int .i64 x.on), .v (.int .i64 x.val.1), .v (.int .i64 x.val.2)] := by rw [lD]
  cases n <;> (simp only [List.map_cons, qG, lX, eV, e]; rw [yT _ st l]; rfl)
@[go_sem] theorem aFs (σ δ : Nat → Nat) (l : List aZ) : (l.map eJ).map (renL σ δ) = l.map eJ := by rw [List.map_map]; exact List.map_congr_left fun x _ => rfl
@[go_sem] theorem aAq (σ δ : Nat → Nat) (l : List aJ) : (l.map bV).map (renL σ δ) = l.map bV := by rw [List.map_map]; exact List.map_congr_left fun x _ => rfl
theorem Lq (c : aZ) : rZ (eJ c) (bA c) := ⟨rfl, rfl, rfl, congrArg (RV.rs 8) (lD _).symm, trivial⟩
theorem Mm (t : aJ) : rZ (bV t) (aL t) := ⟨congrArg (RV.rs 8) (lD _).symm, rfl, rfl, rfl, rfl, trivial⟩
theorem Pg (s : aC) (hm : Sml s) (a b : Nat) (hab : (a == b) = false) : NOk (C := Cx) 84 [(7, a), (16, b)] [cE s] (.agg [.os 7 1, aN s.shapes, bN s.texts, .os 16 1, cA s.ends, aN s.said, Iv s.asked, Iv s.steps]) [ownC 7 1 s.cells, ownT 16 1 s.threads] :=
 ⟨aFt s hm, rfl, by simp [ndB, memN, show a ≠ b by simpa using hab], rfl, rfl, fun _ _ => rfl, rfl, fun p hp => by
  rcases List.mem_cons.1 hp with rfl | hp
  ·exact Uw s.cells s.threads 7
  ·rcases List.mem_cons.1 hp with rfl | hp
   ·exact Uw s.cells s.threads 16
   ·simp at hp, fun q hq => by
  rcases List.mem_cons.1 hq with rfl | hq
  ·exact ⟨rfl, Nat.le_refl _⟩
  ·rcases List.mem_cons.1 hq with rfl | hq
   ·exact ⟨rfl, Nat.le_refl _⟩
   ·simp at hq⟩
def thrS (s : aC) (th : Nat) (t : aJ) (v : Int × Int) : aC := ⟨(unwF v t.frames t.frames.length s.cells).1, s.shapes, s.texts, s.threads.set th (thrT v t (unwF v t.frames t.frames.length s.cells)), s.ends, s.said, s.asked, s.steps⟩
def thrE (p : aI) (s : aC) (th : Nat) (t : aJ) (f : aK) (v : Int × Int) : List iZ := [{ atF p s th f with kind := 7, val := v }, { atF p s th f with kind := if (unwF v t.frames t.frames.length s.cells).2.2 = true then 8 else 17, val := v }]
theorem do_Q (s : aC) (th : Nat) (t : aJ) (v : Int × Int) (e : iZ) (ht : s.threads[th]? = some t) (hl : t.frames.length ≤ 1000000000) (hcl : s.cells.length ≤ 1000000000)
  (hfs : ∀ f ∈ t.frames, (f.tries.length ≤ 1000000000 ∧ ∀ y ∈ f.tries, 0 ≤ y.1 ∧ y.1 < (f.regs.length : Int)) ∧ (0 ≤ f.gen → f.gen < (s.cells.length : Int))) (k a b d0 d1 d2 : Nat) (hab : (k == a || k == b || a == b) = false) :
  QOk (C := Cx) 85 [(0, k, d0), (1, a, d1), (2, b, d2)] [.os 0 0, Iv th, VV v.1 v.2, iA e] [boxS s 0 0 1 0 2 0, ownC 1 0 s.cells, ownT 2 0 s.threads]
   (gV [{ e with kind := 7, val := v }, { e with kind := if (unwF v t.frames t.frames.length s.cells).2.2 = true then 8 else 17, val := v }])
   [boxS s 0 0 1 0 2 0, ownC 1 0 (thrS s th t v).cells, ownT 2 0 (thrS s th t v).threads] := by
 have hab' : (k ≠ a ∧ k ≠ b) ∧ a ≠ b := by simpa using hab
 have hi : ∀ (cs : List aZ) (ts : List aJ), ∀ p ∈ [boxS s 0 0 1 0 2 0, ownC 1 0 cs, ownT 2 0 ts], bE (domR [boxS s 0 0 1 0 2 0, ownC 1 0 cs, ownT 2 0 ts]) p.2.2 := fun cs ts p hp => by
  rcases List.mem_cons.1 hp with rfl | hp
  ·exact Kd s cs ts 0
  ·rcases List.mem_cons.1 hp with rfl | hp
   ·exact Kd s cs ts 1
   ·rcases List.mem_cons.1 hp with rfl | hp
    ·exact Kd s cs ts 2
    ·simp at hp
 exact ⟨do_c s th t v e ht hl hcl hfs, rfl, by simp [ndB, memN, hab'], rfl, rfl, rfl, hi _ _, hi _ _⟩
theorem Ua {s : aC} (h : fC s = 0) {c : aZ} (hc : c ∈ s.cells) (k5 : c.kind = 5) (n0 : c.num = 0) : c.frames.length = 1 := by
 have := (jY.1 h).cells c hc
 unfold gC at this
 simp only [Bool.and_eq_true, decide_eq_true_eq] at this
 obtain ⟨⟨⟨_, a4⟩, _⟩, _⟩ := this
 have : dF c = 1 := if_pos ⟨k5, n0⟩
 rw [this] at a4; omega
theorem uT {p : aI} {s : aC} (hw : Pwf p) (hR : oP p s) : Sml s ∧ (∀ t ∈ s.threads, t.frames.length ≤ 30 ∧ ∀ f ∈ t.frames, (f.tries.length ≤ 1000000000 ∧ ∀ y ∈ f.tries, 0 ≤ y.1 ∧ y.1 < (f.regs.length : Int)) ∧ (0 ≤ f.gen → f.gen < (s.cells.length : Int))) := by
 have hH := jY.1 hR.heap
 have hfew := hR.few
 unfold uW at hfew
 simp only [Bool.or_eq_false_iff, decide_eq_false_iff_not, List.any_eq_false, decide_eq_true_eq] at hfew
 have h100 : s.shapes.length ≤ 100 := (Sh.good_ups hH.shapes 0).2.1
 have fr : ∀ f : aK, cR p s f = true → f.regs.length ≤ 1000000000 ∧ f.tries.length ≤ 1000000000 ∧ ∀ y ∈ f.tries, 0 ≤ y.1 ∧ y.1 < (f.regs.length : Int) := fun f hf => by
  obtain ⟨a1, a2, a3, a4⟩ := vE hw hR.prog hf
  refine ⟨by omega, by omega, fun y hy => ?_⟩
  obtain ⟨j, hj⟩ := List.mem_iff_getElem?.1 hy
  rw [a3]; exact (a4 j y hj).1
 have thr : ∀ t ∈ s.threads, t.frames.length ≤ 30 ∧ ∀ f ∈ t.frames, cR p s f = true ∧ (0 ≤ f.gen → f.gen < (s.cells.length : Int)) := fun t ht => by
  refine ⟨by have := hfew.2 t ht; omega, fun f hf => ?_⟩
  obtain ⟨j, hj⟩ := List.mem_iff_getElem?.1 hf
  obtain ⟨low, ho, hg⟩ := mD (hR.threads t ht).2 hj
  refine ⟨sW ho, fun h0 => ?_⟩
  have := hg h0
  unfold gZ at this
  simp only [Bool.and_eq_true] at this
  exact (Iw this.1.2).2.1
 refine ⟨⟨by have := hH.cellN; omega, by omega, by have := hH.textN; omega, by omega, by have := hH.endN; omega, by have := hH.saidN; omega, fun c hc => ?_, fun c hc => ?_, fun t ht => ⟨by have := (thr t ht).1; omega, fun f hf => ⟨(fr f ((thr t ht).2 f hf).1).1, (fr f ((thr t ht).2 f hf).1).2.1⟩⟩⟩, fun t ht => ⟨(thr t ht).1, fun f hf => ⟨(fr f ((thr t ht).2 f hf).1).2, ((thr t ht).2 f hf).2⟩⟩⟩
 ·have := hH.valN c hc
  unfold bigC at this
  simp at this; omega
 ·have hcf := hH.cells c hc
  by_cases hg : c.kind = 5 ∧ c.num = 0
  ·have h1 := Ua hR.heap hc hg.1 hg.2
   obtain ⟨f, hf⟩ := List.length_eq_one_iff.1 h1
   have hh := hR.cells c hc
   unfold dW at hh
   rw [if_neg (by rw [hg.1]; decide), if_pos hg.1, hg.2, hf] at hh
   have hs : hJ p s f = true := by simpa using hh
   unfold hJ at hs
   simp only [Bool.and_eq_true] at hs
   have hfr := fr f hs.1.1.1.1
   rw [hf]
   exact ⟨by simp, fun g hg' => by simp at hg'; subst hg'; exact ⟨hfr.1, hfr.2.1⟩⟩
  ·have h1 : dF c = 0 := if_neg hg
   unfold gC at hcf
   simp only [Bool.and_eq_true, decide_eq_true_eq] at hcf
   have h2 := hcf.1.1.2
   rw [h1] at h2
   have h3 : c.frames = [] := List.length_eq_zero_iff.1 (by omega)
   rw [h3]
   exact ⟨by simp, fun g hg' => by simp at hg'⟩
noncomputable def throwE (p : aI) (s : aC) (th : Int) (v : Int × Int) : Int :=
 if cP p s ≠ 0 then cP p s else if th < 0 ∨ (s.threads.length : Int) ≤ th then 5 else if (s.threads.getD th.toNat rO).frames.length = 0 then 8 else if fitsF s v = false then 1 else 0
theorem Qa (p : aI) (s : aC) (th : Int) (v : Int × Int) (hw : Pwf p) (hs : Swf s) (h : throwE p s th v ≠ 0) : FC Cx 33 [cV p, cE s, Iv th, VV v.1 v.2] [] (.tup [cE fW, gV [], Iv (throwE p s th v)]) [] := by
 refine aBa 1 (xs := [.v (.slice none 0 0), .v (.slice none 0 0), .v (.slice none 0 0), .v (.slice none 0 0), .v (.slice none 0 0), .v (.slice none 0 0), .v (.int .i64 0), .v (.int .i64 0)]) (ys := bR fW) ?_ (by simp [rowB, nilB, nilX, fW])
 have l1 : (s.threads.map aL).length = s.threads.length := List.length_map ..
 obtain ⟨vk, vn⟩ := v
 dsimp only
 unfold throwE at h ⊢
 by_cases hf : cP p s = 0
 case neg =>
  rw [if_pos hf]
  have d0 : decide (cP p s = 0) = false := by simpa using hf
  clear hf h
  refine mR [eY, gW] Tryz.func33 rfl Tryz.ntmps33 (by simp) Tryz.results33 rfl ?_
  refine rnst ?_
  refine goR ?_
  refine fzB 4 ?_
  refine fzB 7 ?_
  (any_goals refine go lv33 0 ?_)
  all_goals (try simp only [go_sem])
 rw [if_neg (by simpa using hf)] at h ⊢
 have d0 : decide (cP p s = 0) = true := by simpa using hf
 by_cases h0 : th < 0 ∨ (s.threads.length : Int) ≤ th
 ·rw [if_pos h0]
  have d1 : (decide (th < 0) || decide ((s.threads.length : Int) ≤ th)) = true := by simpa using h0
  by_cases h1 : th < 0
  ·have d2 : decide (th < 0) = true := by simpa using h1
   clear hf h h0 h1 d1
   refine mR [eY, gW] Tryz.func33 rfl Tryz.ntmps33 (by simp) Tryz.results33 rfl ?_
   refine rnst ?_
   refine goR ?_
   refine fzB 4 ?_
   refine fzB 7 ?_
   (any_goals refine go lv33 0 ?_)
   all_goals (try simp only [go_sem])
  ·have d2 : decide (th < 0) = false := by simpa using h1
   have d3 : decide ((s.threads.length : Int) ≤ th) = true := by rw [decide_eq_true_eq]; omega
   clear hf h h0 h1 d1
   refine mR [eY, gW] Tryz.func33 rfl Tryz.ntmps33 (by simp) Tryz.results33 rfl ?_
   refine rnst ?_
   refine goR ?_
   refine fzB 4 ?_
   refine fzB 7 ?_
   (any_goals refine go lv33 0 ?_)
   all_goals (try simp only [go_sem])
 rw [if_neg h0] at h ⊢
 have d2 : decide (th < 0) = false := by rw [decide_eq_false_iff_not]; omega
 have d3 : decide ((s.threads.length : Int) ≤ th) = false := by rw [decide_eq_false_iff_not]; omega
 have h00 : 0 ≤ th := by omega
 have h01 : th < (s.threads.length : Int) := by omega
 obtain ⟨t, ht⟩ : ∃ t, s.threads[th.toNat]? = some t := ⟨s.threads[th.toNat]'(by omega), List.getElem?_eq_getElem _⟩
 have hg := aG aL ht ([] : List RV)
 have et : s.threads.getD th.toNat rO = t := by rw [List.getD_eq_getElem?_getD, ht]; rfl
 have lf : (t.frames.map bM).length = t.frames.length := List.length_map ..
 rw [et] at h ⊢
 by_cases h2 : t.frames.length = 0
 ·rw [if_pos h2]
  have d4 : decide ((t.frames.length : Int) = 0) = true := by rw [decide_eq_true_eq]; omega
  clear hf h h0 h2 et
  refine mR [eY, gW] Tryz.func33 rfl Tryz.ntmps33 (by simp) Tryz.results33 rfl ?_
  refine rnst ?_
  refine goR ?_
  refine fzB 4 ?_
  refine fzB 7 ?_
  (any_goals refine go lv33 0 ?_)
  all_goals (try simp only [go_sem])
 rw [if_neg h2] at h ⊢
 have d4 : decide ((t.frames.length : Int) = 0) = false := by rw [decide_eq_false_iff_not]; omega
 by_cases h3 : fitsF s (vk, vn) = false
 ·rw [if_pos h3]
  clear hf h h0 h2 et
  refine mR [eY, gW] Tryz.func33 rfl Tryz.ntmps33 (by simp) Tryz.results33 rfl ?_
  refine rnst ?_
  refine goR ?_
  refine fzB 4 ?_
  refine fzB 7 ?_
  (any_goals refine go lv33 0 ?_)
  all_goals (try simp only [go_sem])
 ·rw [if_neg h3] at h; exact absurd rfl h
theorem zH (p : aI) (s : aC) (th : Nat) (t : aJ) (f : aK) (v : Int × Int) (hw : Pwf p) (hs : Swf s) (hf : cP p s = 0) (ht : s.threads[th]? = some t) (hfr : t.frames[t.frames.length - 1]? = some f) (hv : fitsF s v = true) :
  FC Cx 33 [cV p, cE s, Iv th, VV v.1 v.2] [] (.tup [cE (thrS s th t v), gV (thrE p s th t f v), Iv 0]) [] := by
 have hR := gL.1 hf
 obtain ⟨hm, hth⟩ := uT hw hR
 obtain ⟨h30, hfs⟩ := hth t (List.mem_of_getElem? ht)
 have hk := (List.getElem?_eq_some_iff.1 ht).1
 have hfk := (List.getElem?_eq_some_iff.1 hfr).1
 have l1 : (s.threads.map aL).length = s.threads.length := List.length_map ..
 have lf : (t.frames.map bM).length = t.frames.length := List.length_map ..
 have hg := aG aL ht ([] : List RV)
 have d0 : decide (cP p s = 0) = true := by simpa using hf
 have d2 : decide ((th : Int) < 0) = false := by rw [decide_eq_false_iff_not]; omega
 have d3 : decide ((s.threads.length : Int) ≤ (th : Int)) = false := by rw [decide_eq_false_iff_not]; omega
 have d4 : decide ((t.frames.length : Int) = 0) = false := by rw [decide_eq_false_iff_not]; omega
 have t1 : Int.toNat (th : Int) = th := by omega
 have hgo := wR hw hR.prog
 have hfF : cR p s f = true := by
  obtain ⟨low, ho, _⟩ := mD (hR.threads t (List.mem_of_getElem? ht)).2 hfr
  exact sW ho
 have hA : ∀ y, y = [.r (.rp (jG p)), gK s, Iv th] → aO Cx 86 y (iA (atF p s th f)) := fun y hy => by
  subst hy; exact aB (aCm p s th t f hgo ht hfr hfF (by omega)) en86 rfl rfl
 have q1 := Pg s hm 300 301 rfl
 have q2 := do_Q s th t v (atF p s th f) ht (by omega) hm.cells hfs 5 300 301 1 1 1 rfl
 have en1 : aD Cx.P 84 := en84
 have en2 : aD Cx.P 85 := en85
 have hE : thrE p s th t f v = [{ atF p s th f with kind := 7, val := v }, { atF p s th f with kind := if (unwF v t.frames t.frames.length s.cells).2.2 = true then 8 else 17, val := v }] := rfl
 rw [← hE] at q2
 have eS : cE (thrS s th t v) = .agg [bW (thrS s th t v).cells, aN s.shapes, bN s.texts, bJ (thrS s th t v).threads, cA s.ends, aN s.said, Iv s.asked, Iv s.steps] := rfl
 rw [eS]
 generalize thrE p s th t f v = L at *
 generalize (thrS s th t v).cells = cs at *
 generalize (thrS s th t v).threads = ts at *
 obtain ⟨vk, vn⟩ := v
 dsimp only at *
 clear hE eS hfs hfF hR hth hfr hm hgo hf
 generalize atF p s th f = e0 at *
 refine mR [eY, gW, ctN 84 [(7, 300), (16, 301)] [cE s] (.agg [.os 7 1, aN s.shapes, bN s.texts, .os 16 1, cA s.ends, aN s.said, Iv s.asked, Iv s.steps]) [ownC 7 1 s.cells, ownT 16 1 s.threads] en1 q1, ctE 86 [.r (.rp (jG p)), gK s, Iv th] (iA e0) hA, ctQ 85 [(0, 5, 1), (1, 300, 1), (2, 301, 1)] [.os 0 0, Iv th, VV vk vn, iA e0] [boxS s 0 0 1 0 2 0, ownC 1 0 s.cells, ownT 2 0 s.threads] (gV L) [boxS s 0 0 1 0 2 0, ownC 1 0 cs, ownT 2 0 ts] en2 q2] Tryz.func33 rfl Tryz.ntmps33 (by simp) Tryz.results33 rfl ?_
 refine rnst ?_
 refine goR ?_
 refine fzB 4 ?_
 refine fzB 7 ?_
 (any_goals refine goN lv33 0 ?_)
 (apply pQ 300 (cs.map bA); (exact rfl); (exact iJ Lq); (exact rfl); (intro K0; (try simp only [go_sem]); exact ⟨id⟩))
 (apply pQ 301 (ts.map aL); (exact rfl); (exact iJ Mm); (exact rfl); (intro K0; (try simp only [go_sem]); exact ⟨id⟩))
 (any_goals refine go lv33 0 ?_)
 all_goals (try simp only [go_sem])
def rowM (n : Nat) : List AV → List AV → Prop
 | [], [] => True
 | a :: l, b :: m => (a = b ∨ ∃ x y, a = .r x ∧ b = .r y ∧ nilB n x y) ∧ rowM n l m
 | _, _ => False
theorem Em {n : Nat} : ∀ {l m : List AV}, rowM n l m → m.length = l.length
 | [], [], _ => rfl
 | a :: l, b :: m, h => by simp [Em h.2]
 | [], _ :: _, h => h.elim
 | _ :: _, [], h => h.elim
theorem Lv {n : Nat} : ∀ {l m : List AV} {j : Nat} {b : AV}, rowM n l m → m[j]? = some b → ∃ a, l[j]? = some a ∧ (a = b ∨ ∃ x y, a = .r x ∧ b = .r y ∧ nilB n x y)
 | a :: l, b :: m, 0, b', h, hb => by simp at hb; subst hb; exact ⟨a, rfl, h.1⟩
 | a :: l, b :: m, j + 1, b', h, hb => by
  obtain ⟨a', h1, h2⟩ := Lv (j := j) h.2 (by simpa using hb)
  exact ⟨a', by simpa using h1, h2⟩
 | [], [], j, b, _, hb => by simp at hb
 | [], _ :: _, _, _, h, _ => h.elim
 | _ :: _, [], _, _, h, _ => h.elim
theorem AR.nilM {cur : Nat → Nat} {g : Gh} {w : World} {N : Nat → Prop} {n : Nat} {xs ys : List AV} {v : Value} (h : rowM n xs ys) (hv : AR cur g w N (.agg xs) v) : AR cur g w N (.agg ys) v := by
 cases hv with
 | agg _ us hs hu =>
  refine .agg _ us (by rw [hs, Em h]) fun j y u hy hju => ?_
  obtain ⟨a, ha, hab⟩ := Lv h hy
  have := hu j a u ha hju
  rcases hab with rfl | ⟨x, z, rfl, rfl, hn⟩
  ·exact this
  ·cases this with | r this => exact .r (RR.nilD (vU n x z hn) this)
theorem aA5 (n : Nat) {C : Ctx} {f : Nat} {args : List AV} {rs0 rs1 : List (Nat × Nat × Res)} {xs ys : List AV} {y : AV} (hf : FC C f args rs0 (.tup [.agg xs, y]) rs1) (h : rowM n xs ys) : FC C f args rs0 (.tup [.agg ys, y]) rs1 := by
 refine ⟨fun e g w vs hok hs hvs => (hf.run e g w vs hok hs hvs).mono ?_⟩
 rintro x w' ⟨v, g', rfl, hs', hv, hk⟩
 refine ⟨v, g', rfl, hs', ?_, hk⟩
 cases hv with
 | tup _ us hs hu =>
  refine .tup _ us hs fun j x u hx hju => ?_
  match j with
  | 0 =>
   simp at hx; subst hx
   exact AR.nilM h (hu 0 _ u rfl hju)
  | 1 => exact hu 1 x u hx hju
  | j + 2 => simp at hx
abbrev Jt (L : List (Int × Int)) : List NV := [.r (.v (.int .i64 0)), .r (.v (.int .i64 0)), .r (.v (.int .i64 (-1))), .r (.v (.int .i64 (-1))), .r (.v (.int .i64 5)), .r (.v (.int .i64 0)), .r (.rs 2 (L.map valR)), .r (.v (.slice none 0 0))]
abbrev xY (v : Nat) (L : List (Int × Int)) : Nat × Nat × Res := (30, v, .sl 56 5 [[.nd 61 8 [Jt L], Iv 0, Iv 0, Iv 0, Iv 0]])
theorem aBd (v : Nat) (L : List (Int × Int)) (k : Nat) : bE (domR [xY v L]) (aA k [xY v L]).2 := by
 have e : aA k [xY v L] = if k = 30 then (v, (xY v L).2.2) else (0, .gone) := rfl
 rw [e]
 split
 ·exact fun row h => by
   rcases List.mem_cons.1 h with rfl | h
   ·rfl
   ·simp at h
 ·trivial
theorem Oe (p : aI) (hw : Pwf p) (hp : checkF p = 0) : FC Cx 14 [cV p] [] (.tup [.agg [bW [⟨4, 0, [], []⟩], aN [(-1, -1)], bN p.texts, .os 30 1, cA [], aN [], Iv 0, Iv 0], Iv 0]) [xY 1 (List.replicate (p.fns.getD 0 fn0).regs.toNat (0, 0))] := by
 refine aA5 2 (xs := [.r (.rs 4 [[.v (.int .i64 4), .v (.int .i64 0), .v (.slice none 0 0), .v (.slice none 0 0)]]), aN [(-1, -1)], bN p.texts, .os 30 1, NilS, NilS, Iv 0, Iv 0]) ?_ (by simp [rowM, nilB, nilX, Gl, rowB])
 have d0 : decide (checkF p = 0) = true := by simpa using hp
 have hn := iF hp
 have l1 : (p.fns.map fnR).length = p.fns.length := List.length_map ..
 have l2 : (p.texts.map strR).length = p.texts.length := List.length_map ..
 obtain ⟨F, hF⟩ : ∃ F, p.fns[0]? = some F := ⟨p.fns[0]'(by omega), List.getElem?_eq_getElem _⟩
 have gF := aG fnR hF ([] : List RV)
 have eF : p.fns.getD 0 fn0 = F := by rw [List.getD_eq_getElem?_getD, hF]; rfl
 obtain ⟨hpok, hfun, _, _⟩ := lZ hw hp (List.mem_of_getElem? hF)
 have htx := hpok.texts
 have hr1 : 1 ≤ F.regs := by
  unfold cB at hfun
  split at hfun
  ·cases hfun
  ·omega
 have hr2 := (hpok.fn F (List.mem_of_getElem? hF)).2.1
 rw [eF]
 have hins := aBd 1 (List.replicate F.regs.toNat (0, 0))
 obtain ⟨L0, hL0⟩ : ∃ L, L = List.replicate F.regs.toNat ((0 : Int), (0 : Int)) := ⟨_, rfl⟩
 have hz : List.replicate F.regs.toNat [Iv 0, Iv 0] = L0.map valC := by rw [hL0]; simp
 rw [← hL0] at hins ⊢
 clear hL0 eF hp
 refine gY [ct_check', uR]  Tryz.func14 rfl Tryz.ntmps14 (by simp) Tryz.results14 rfl (hins) ?_
 refine rnst ?_
 clear hins
 refine goR ?_
 refine fzB 1 ?_
 (any_goals refine go (iS 5 lv14) 0 ?_)
 (apply sM 18 (L0.map valR); (exact rfl); (exact (Rv L0).symm); (exact rfl); (intro K0; (try simp only [go_sem]); exact ⟨id⟩))
 (any_goals refine goN lv14 0 ?_)
 (apply fS 30 0 0 28 [Jt L0]; (exact rfl); (exact rfl); (exact rfl); (exact (by decide)); (exact rfl); (exact rfl); (intro K0; (try simp only [go_sem]); exact ⟨id⟩))
 (apply Bm 21; (exact rfl); (exact rfl); (exact rfl); (intro K0; (try simp only [go_sem]); exact ⟨id⟩))
 (apply Bm 23; (exact rfl); (exact rfl); (exact rfl); (intro K0; (try simp only [go_sem]); exact ⟨id⟩))
 (any_goals refine go lv14 0 ?_)
 all_goals (try simp only [go_sem])
 all_goals rfl
mutual
def jD : AV → Bool
 | .r x => Fu x
 | .os _ _ => true
 | .agg cs => oS cs
 | .tup cs => oS cs
 | .any => true
 | _ => false
def oS : List AV → Bool
 | [] => true
 | x :: l => jD x && oS l
end
theorem gM : ∀ {l : List AV}, oS l = true → ∀ (j : Nat) (x : AV), l[j]? = some x → jD x = true
 | y :: l, h, 0, x, hx => by
  simp only [oS, Bool.and_eq_true] at h
  simp at hx; subst hx; exact h.1
 | y :: l, h, j + 1, x, hx => by
  simp only [oS, Bool.and_eq_true] at h
  exact gM h.2 j x (by simpa using hx)
theorem Ex {x : AV} (h : jD x = true) : isNd x = false := by cases x <;> first | rfl | (simp [jD] at h)
theorem xR {cur cur' : Nat → Nat} {g g' : Gh} {w w' : World} {N N' : Nat → Prop} {x : AV} {v : Value} (h : AR cur g w N x v) {ok : Nat → Bool} (hw : aW ok x = true) (hf : jD x = true) (σ δ : Nat → Nat)
  (hc : ∀ k, ok k = true → cur k + δ k < cur' (σ k) ∨ cur k + δ k = cur' (σ k) ∧ g k = g' (σ k)) : AR cur' g' w' N' (ren σ δ x) v := by
 induction h with
 | r h => cases h <;> first | exact .r (.v _) | (simp [jD, Fu] at hf; done) | exact .r (.nan _ ‹_›) | exact .r (.ln _ _ _) | exact .r (.un _)
 | os k ver v h1 h =>
  simp only [aW] at hw
  refine .os _ _ v h1 ?_
  rcases hc k hw with h2 | ⟨h2, h3⟩ <;> rcases h with h | ⟨h, h4⟩
  ·left; omega
  ·left; omega
  ·left; omega
  ·right; exact ⟨by omega, by rw [← h3]; exact h4⟩
 | rf _ _ _ _ _ _ => simp [jD] at hf
 | re _ _ _ _ _ _ _ _ => simp [jD] at hf
 | agg cs xs hs' _ ih =>
  simp only [aW] at hw
  refine .agg _ xs (by rw [cX]; exact hs') (fun j x y hx hy => ?_)
  rw [cY] at hx
  cases hj : cs[j]? with
  | none => simp [hj] at hx
  | some z => simp [hj] at hx; subst hx; exact ih j z y hj hy (bI hw j z hj) (gM (by simpa [jD] using hf) j z hj)
 | tup cs xs hs' _ ih =>
  simp only [aW] at hw
  refine .tup _ xs (by rw [cX]; exact hs') (fun j x y hx hy => ?_)
  rw [cY] at hx
  cases hj : cs[j]? with
  | none => simp [hj] at hx
  | some z => simp [hj] at hx; subst hx; exact ih j z y hj hy (bI hw j z hj) (gM (by simpa [jD] using hf) j z hj)
 | any v => exact .any v
 | cl _ _ _ _ _ => simp [jD] at hf
 | nd _ _ _ _ => simp [jD] at hf
theorem Nest.bare {w w' : World} {N N' : Nat → Prop} {v : Value} {f : List Nat} (h : Nest w N v [] f) : Nest w' N' v [] f := by
 obtain ⟨h1, h2⟩ := h
 cases h1
 exact ⟨.nil, h2⟩
def Bu (ok : Nat → Bool) : Res → Prop
 | .gone => True
 | .sl _ _ rows => ∀ row ∈ rows, aP ok row = true ∧ oS row = true
 | _ => False
open Classical in
theorem Ry {C : Ctx} {f : Nat} {args : List AV} {rs1 : List (Nat × Nat × Res)} {r : AV} (hfc : FC C f args [] r rs1) {e : Env} {st : St} {g : Gh} {a : Act} {w : World} (hok : e.ok C) (hs : SR C e st g a w) (hG : C.G w) (hgs : C.gs ≤ w.heap.size)
  (σ δ : Nat → Nat) (ks : List Nat) (hks1 : ∀ k, domR rs1 k = true → k ∈ ks) (hinj : ∀ j ∈ ks, ∀ k ∈ ks, σ j = σ k → j = k)
  (h1 : ∀ k ∈ ks, domR rs1 k = true → st.cur (σ k) < (aA k rs1).1 + δ k) (hin1 : ∀ k, Bu (domR rs1) (aA k rs1).2) (hr : aW (domR rs1) r = true) (hrf : jD r = true)
  {vs : Array Value} (hvs : ∀ cur' g', PW cur' g' w (fun _ => False) args vs) :
  Calls C.P f vs w fun x w' => ∃ v g2, x = .returned v ∧ SR C e { st with rs := kD σ δ rs1 st ks st.rs } g2 a w' ∧
   AR ({ st with rs := kD σ δ rs1 st ks st.rs } : St).cur g2 w' (e.N { st with rs := kD σ δ rs1 st ks st.rs } g2) (ren σ δ r) v := by
 let e1 : Env := ⟨w, fun _ => False, fun _ => False, (stR []).cur, gh0⟩
 have hno : ∀ g b, ¬ own (stR []) g b := fun g b ⟨k, hk⟩ => by simp [blk, aA] at hk
 have hs1 : SR C e1 (stR []) gh0 act0 w := ⟨rfl, rfl, fun d => .any _, fun k => trivial, fun k k' b hk => by simp [blk, aA] at hk, fun k b hk => by simp [blk, aA] at hk, ⟨rfl, rfl, rfl, Nat.le_refl _, fun b _ _ => ⟨rfl, hno gh0 b⟩⟩, fun _ => .inr ⟨rfl, rfl⟩⟩
 have hok1 : e1.ok C := ⟨hG, hgs, fun b h => h.elim, fun b h => h.elim⟩
 have hN0 : e1.N (stR []) gh0 = fun _ => False := by
  funext b
  exact propext ⟨fun h => h.elim id (hno gh0 b), fun h => h.elim⟩
 refine (hfc.run e1 gh0 w vs hok1 hs1 (by rw [hN0]; exact hvs _ _)).mono ?_
 rintro x w' ⟨v, g', rfl, hs', hv, hh⟩
 let g2 : Gh := ⟨fun j => if h : ∃ k, k ∈ ks ∧ σ k = j then g' (Classical.choose h) else g j, fun j => if h : ∃ k, k ∈ ks ∧ σ k = j then g'.f (Classical.choose h) else g.f j⟩
 have G1 : ∀ k ∈ ks, g2 (σ k) = g' k := fun k hk => by
  have h : ∃ k', k' ∈ ks ∧ σ k' = σ k := ⟨k, hk, rfl⟩
  show (if h : ∃ k', k' ∈ ks ∧ σ k' = σ k then g' (Classical.choose h) else g (σ k)) = g' k
  rw [dif_pos h]
  obtain ⟨h2, h3⟩ := Classical.choose_spec h
  rw [hinj _ h2 _ hk h3]
 have G2 : ∀ j, (∀ k ∈ ks, σ k ≠ j) → g2 j = g j := fun j hj => by
  show (if h : ∃ k', k' ∈ ks ∧ σ k' = j then g' (Classical.choose h) else g j) = g j
  rw [dif_neg]
  rintro ⟨k, hk, he⟩
  exact hj k hk he
 have F1 : ∀ k ∈ ks, g2.f (σ k) = g'.f k := fun k hk => by
  have h : ∃ k', k' ∈ ks ∧ σ k' = σ k := ⟨k, hk, rfl⟩
  show (if h : ∃ k', k' ∈ ks ∧ σ k' = σ k then g'.f (Classical.choose h) else g.f (σ k)) = g'.f k
  rw [dif_pos h]
  obtain ⟨h2, h3⟩ := Classical.choose_spec h
  rw [hinj _ h2 _ hk h3]
 have F2 : ∀ j, (∀ k ∈ ks, σ k ≠ j) → g2.f j = g.f j := fun j hj => by
  show (if h : ∃ k', k' ∈ ks ∧ σ k' = j then g'.f (Classical.choose h) else g.f j) = g.f j
  rw [dif_neg]
  rintro ⟨k, hk, he⟩
  exact hj k hk he
 generalize hst2 : ({ st with rs := kD σ δ rs1 st ks st.rs } : St) = st2
 have L1 : ∀ k ∈ ks, aA (σ k) st2.rs = (eH δ σ rs1 st k, cD σ δ (aA k rs1).2) := fun k hk => by rw [← hst2]; exact tY hinj k hk
 have L2 : ∀ j, (∀ k ∈ ks, σ k ≠ j) → aA j st2.rs = aA j st.rs := fun j hj => by rw [← hst2]; exact rR hj
 have B1 : ∀ k ∈ ks, blk st2 g2 (σ k) = blk (stR rs1) g' k := fun k hk => Cn (σ := σ) (δ := δ) (by rw [L1 k hk]) (G1 k hk) (F1 k hk)
 have B2 : ∀ j, (∀ k ∈ ks, σ k ≠ j) → blk st2 g2 j = blk st g j := fun j hj => qU (by rw [L2 j hj]) (G2 j hj) (F2 j hj)
 have two : ∀ j, (∃ k ∈ ks, σ k = j) ∨ ∀ k ∈ ks, σ k ≠ j := fun j => by
  by_cases h : ∃ k ∈ ks, σ k = j
  ·exact .inl h
  ·exact .inr fun k hk he => h ⟨k, hk, he⟩
 -- what was there is not new
 have new : ∀ b, b < w.heap.size → w'.heap[b]? = w.heap[b]? ∧ ¬ own (stR rs1) g' b := fun b hb => hs'.ext.block b hb fun h => h
 have old : ∀ j, ∀ b, blk st g j b → ¬ own (stR rs1) g' b := fun j b hb => (new b (hs.low j b hb).2.1).2
 have hcur : ∀ j, st.cur j < st2.cur j ∨ st.cur j = st2.cur j ∧ g j = g2 j := fun j => by
  rcases two j with ⟨k, hk, rfl⟩ | hj
  ·have hv2 : st2.cur (σ k) = eH δ σ rs1 st k := by simp only [St.cur]; rw [L1 k hk]
   rw [hv2]
   unfold eH
   by_cases d1 : domR rs1 k = true
   ·rw [if_pos d1]; left; exact h1 k hk d1
   ·rw [if_neg d1]; left; omega
  ·right
   exact ⟨by simp only [St.cur]; rw [L2 j hj], (G2 j hj).symm⟩
 have own2 : ∀ b, own st2 g2 b → own (stR rs1) g' b ∨ ∃ j, (∀ k ∈ ks, σ k ≠ j) ∧ blk st g j b := by
  rintro b ⟨j, hj⟩
  rcases two j with ⟨k, hk, rfl⟩ | hn
  ·rw [B1 k hk] at hj; exact .inl ⟨k, hj⟩
  ·rw [B2 j hn] at hj; exact .inr ⟨j, hn, hj⟩
 have hx : Ext w (own st g) w' (own st2 g2) := by
  refine ⟨hs'.ext.os, hs'.ext.tape, hs'.ext.output, hs'.ext.size, fun b hb hn => ?_⟩
  obtain ⟨q1, q2⟩ := new b hb
  exact ⟨q1, fun h => (own2 b h).elim q2 fun ⟨j, _, hj⟩ => hn ⟨j, hj⟩⟩
 have hback : ∀ x v, aW (domR rs1) x = true → jD x = true → AR (stR rs1).cur g' w' (e1.N (stR rs1) g') x v → AR st2.cur g2 w' (e.N st2 g2) (ren σ δ x) v := fun x v hw hf hv =>
  xR hv hw hf σ δ (fun k hk => .inr ⟨by simp only [St.cur]; rw [L1 k (hks1 k hk)]; unfold eH; rw [if_pos hk], (G1 k (hks1 k hk)).symm⟩)
 have ht : st2.t = st.t := by rw [← hst2]
 have hn : st2.n = st.n := by rw [← hst2]
 refine ⟨v, g2, rfl, ⟨hs.defers, by rw [hn]; exact hs.size, fun d => by rw [ht]; exact (hs.temps d).lift hx hcur, fun j => ?_, fun j j' b hj hj' => ?_, fun j b hj => ?_, hs.ext.trans hx, iH hs.hist hcur⟩, hback _ _ hr hrf hv⟩
 ·rcases two j with ⟨k, hk, rfl⟩ | hj
  ·rw [L1 k hk]
   show ResR _ _ _ _ _ (cD σ δ (aA k rs1).2)
   have q := hs'.res k
   have hin := hin1 k
   revert q hin
   show ResR _ _ _ _ _ (aA k rs1).2 → _ → _
   cases (aA k rs1).2 with
   | gone => intro _ _; trivial
   | bx cells => intro _ h; exact h.elim
   | mp f n => intro _ h; exact h.elim
   | sl el sz rows =>
    rintro ⟨xs, q1, q2, q3, q5⟩ hin
    have hno : nds rows.flatten xs = [] := gE fun x hx => by
     obtain ⟨row, hrow, hxr⟩ := List.mem_flatten.1 hx
     obtain ⟨j, hj⟩ := List.mem_iff_getElem?.1 hxr
     exact Ex (gM (hin row hrow).2 j x hj)
    refine ⟨xs, by rw [G1 k hk, List.length_map]; exact q1, fun row hrow => ?_, fun i j row x y hi hj hy => ?_, by rw [wM, G1 k hk, F1 k hk, hno]; rw [hno] at q5; exact q5.bare⟩
    ·obtain ⟨row0, hr0, rfl⟩ := List.mem_map.1 hrow
     rw [cX]; exact q2 row0 hr0
    ·rw [List.getElem?_map] at hi
     cases hi0 : rows[i]? with
     | none => simp [hi0] at hi
     | some row0 =>
      simp [hi0] at hi
      subst hi
      rw [cY] at hj
      cases hc : row0[j]? with
      | none => simp [hc] at hj
      | some z =>
       simp [hc] at hj; subst hj
       have hm := hin row0 (List.mem_of_getElem? hi0)
       exact hback _ _ (bI hm.1 j z hc) (gM hm.2 j z hc) (q3 i j row0 z y hi0 hc hy)
  ·rw [L2 j hj]
   refine (hs.res j).lift hx hcur (G2 j hj) (F2 j hj) fun hne b hb => ?_
   exact (new b (hs.low j b ⟨hne, hb⟩).2.1).1
 ·rcases two j with ⟨k, hk, rfl⟩ | hn1 <;> rcases two j' with ⟨k', hk', rfl⟩ | hn2
  ·rw [B1 k hk] at hj; rw [B1 k' hk'] at hj'
   rw [hs'.uniq k k' b hj hj']
  ·rw [B1 k hk] at hj; rw [B2 j' hn2] at hj'
   exact absurd ⟨k, hj⟩ (old j' b hj')
  ·rw [B2 j hn1] at hj; rw [B1 k' hk'] at hj'
   exact absurd ⟨k', hj'⟩ (old j b hj)
  ·rw [B2 j hn1] at hj; rw [B2 j' hn2] at hj'
   exact hs.uniq j j' b hj hj'
 ·rcases two j with ⟨k, hk, rfl⟩ | hn1
  ·rw [B1 k hk] at hj
   obtain ⟨q1, q2, _⟩ := hs'.low k b hj
   refine ⟨q1, q2, fun h => ?_⟩
   have h3 := hok.av b h
   have h4 := hs.ext.size
   exact (new b (Nat.lt_of_lt_of_le h3 h4)).2 ⟨k, hj⟩
  ·rw [B2 j hn1] at hj
   obtain ⟨q1, q2, q3⟩ := hs.low j b hj
   exact ⟨q1, Nat.lt_of_lt_of_le q2 hs'.ext.size, q3⟩
structure LOk {C : Ctx} (f : Nat) (m : List (Nat × Nat)) (args0 : List AV) (r0 : AV) (rs1 : List (Nat × Nat × Res)) : Prop where
 fc : FC C f args0 [] r0 rs1
 keys : (rs1.all fun p => m.any fun q => q.1 == p.1) = true
 nd : ndB (m.map (·.2)) = true
 nd1 : ndB (m.map (·.1)) = true
 res : aW (domR rs1) r0 = true
 flat : jD r0 = true
 in1 : ∀ p ∈ rs1, Bu (domR rs1) p.2.2
 dom : ∀ q ∈ m, domR rs1 q.1 = true ∧ 1 ≤ (aA q.1 rs1).1
def outL (m : List (Nat × Nat)) (rs1 : List (Nat × Nat × Res)) (st : St) : List (Loc × Cont) :=
 m.map fun q => (.R q.2, .s ((aA q.1 rs1).1 + st.cur q.2) (cD (mpS (m.map fun q => (q.1, q.2, st.cur q.2))) (mpD (m.map fun q => (q.1, q.2, st.cur q.2))) (aA q.1 rs1).2))
def retL (m : List (Nat × Nat)) (r0 : AV) (st : St) : AV := ren (mpS (m.map fun q => (q.1, q.2, st.cur q.2))) (mpD (m.map fun q => (q.1, q.2, st.cur q.2))) r0
def Gv (m : List (Nat × Nat)) (args0 : List AV) (r0 : AV) (rs1 : List (Nat × Nat × Res)) (c : Call) (fop : Operand) (caps : List AV) (o : Oper) (st : St) (K : List Loc → List (Loc × Cont) → Prop) : Prop :=
 nD st (c.args.toList.map (ev st) ++ caps) fun l ys => ys = args0 ∧ match o.dst with
  | some d => d < st.n ∧ K (rd (fop :: c.args.toList) ++ (l ++ m.map fun q => .R q.2)) (outL m rs1 st ++ [(.T d, .a (retL m r0 st))])
  | none => K (rd (fop :: c.args.toList) ++ (l ++ m.map fun q => .R q.2)) (outL m rs1 st ++ [])
theorem Pn {C : Ctx} {f : Nat} {m : List (Nat × Nat)} {args0 : List AV} {r0 : AV} {rs1 : List (Nat × Nat × Res)} (he : aD C.P f) (q : LOk (C := C) f m args0 r0 rs1) {c : Call} {fop : Operand} {caps : List AV} {o : Oper} {st : St} {K : List Loc → List (Loc × Cont) → Prop} (ho : o.op = .call c) (hc : c.callee = .value fop) (hf : FnIs (ev st fop) f caps) (h : Gv m args0 r0 rs1 c fop caps o st K) :
  ∃ l outs, K l outs ∧ fU C o st.n (l.map fun x => (x, st.get x)) outs := by
 unfold Gv at h
 obtain ⟨l, ys, ⟨rfl, h2⟩, hlen, hbor⟩ := pX h
 have key : ∃ outs, K (rd (fop :: c.args.toList) ++ (l ++ m.map fun q => .R q.2)) outs ∧ (match o.dst with | some d => d < st.n ∧ outs = outL m rs1 st ++ [(.T d, .a (retL m r0 st))] | none => outs = outL m rs1 st ++ []) := by
  revert h2
  cases o.dst with
  | none => intro h2; exact ⟨_, h2, rfl⟩
  | some d => intro h2; exact ⟨_, h2.2, h2.1, rfl⟩
 obtain ⟨outs, hK, hdst⟩ := key
 refine ⟨_, outs, hK, ?_⟩
 intro e st' a w next Q hn hS ha hnext
 obtain ⟨hG, hgs⟩ := G_of hS
 obtain ⟨heok, g, hs⟩ := hS
 replace ha := bG.1 ha
 obtain ⟨vs, hv, hpw⟩ := Cr hs ha.left hf rfl
 have hcu : ∀ p ∈ m, st'.cur p.2 = st.cur p.2 := fun p hp => by
  have := ha.right.right.R (k := p.2) (List.mem_map.2 ⟨p, hp, rfl⟩)
  simp only [St.cur]; rw [this]
 have hm : (m.map fun q => (q.1, q.2, st'.cur q.2)) = m.map fun q => (q.1, q.2, st.cur q.2) := List.map_congr_left fun p hp => by rw [hcu p hp]
 have hmp := Kk (rB q.nd1) st.cur
 generalize hM : (m.map fun q => (q.1, q.2, st.cur q.2)) = M at *
 have hvs : ∀ cur' g', PW cur' g' w (fun _ => False) ys (c.args.map a.eval ++ vs) := fun cur' g' => ⟨by rw [hlen]; exact hpw.1, fun j x y hx hy => by
  have hj : j < (c.args.toList.map (ev st) ++ caps).length := by rw [← hlen]; exact (List.getElem?_eq_some_iff.1 hx).1
  have hj' := List.getElem?_eq_getElem hj
  exact Uk (hbor j _ x hj' hx).1 hs ha.right.left (hbor j _ x hj' hx).2 (hpw.2 j _ y hj' hy) _ _⟩
 have hk : ∀ k, domR rs1 k = true → k ∈ m.map (·.1) := fun k hk => by
  obtain ⟨p, hp, he⟩ := List.any_eq_true.1 (List.all_eq_true.1 q.keys _ (pV hk))
  exact List.mem_map.2 ⟨p, hp, by simpa using he⟩
 have hinj : ∀ j ∈ m.map (·.1), ∀ k ∈ m.map (·.1), mpS M j = mpS M k → j = k := by
  have := Be (m := M) (by rw [← hM, List.map_map]; exact rB q.nd)
  rw [← hM, List.map_map] at this
  rw [← hM]
  exact this
 have hflat : ∀ k, Bu (domR rs1) (aA k rs1).2 := fun k => by
  by_cases hd : domR rs1 k = true
  ·exact q.in1 _ (pV hd)
  ·rw [vN hd]; trivial
 have hrun : (execOp a.eval o).run C.P w = .ok (.enter f (c.args.map a.eval ++ vs)) w := At ho hc hv he
 refine qP hrun ((Ry q.fc heok hs hG hgs (mpS M) (mpD M) (m.map (·.1)) hk hinj (fun k hkm _ => ?_) hflat q.res q.flat hvs).mono ?_)
 ·obtain ⟨p, hp, rfl⟩ := List.mem_map.1 hkm
  have h5 := (q.dom p hp).2
  have h6 := hmp p hp
  rw [h6.1, h6.2, hcu p hp]
  exact Nat.lt_add_of_pos_left h5
 rintro x w' ⟨v, g2, rfl, hs2, hav⟩
 refine ⟨v, rfl, hnext _ _ ⟨heok, g2, ?_⟩⟩
 have e1 : outL m rs1 st = (m.map (·.1)).map fun k => ((.R (mpS M k), .s (eH (mpD M) (mpS M) rs1 st' k) (cD (mpS M) (mpD M) (aA k rs1).2)) : Loc × Cont) := by
  unfold outL
  rw [hM, List.map_map]
  refine List.map_congr_left fun p hp => ?_
  simp only [Function.comp]
  rw [(hmp p hp).1]
  unfold eH
  rw [if_pos (q.dom p hp).1, (hmp p hp).2]
 have e2 : retL m r0 st = ren (mpS M) (mpD M) r0 := by unfold retL; rw [hM]
 rw [e1, e2] at hdst
 revert hdst
 cases hd : o.dst with
 | none => intro h; subst h; rw [vX, sE]; exact hs2
 | some d =>
  rintro ⟨hdn, rfl⟩
  rw [vX, sE]
  exact hs2.put (by show d < st'.n; rw [hn]; exact hdn) hav
noncomputable def ctL {C : Ctx} (f : Nat) (m : List (Nat × Nat)) (args0 : List AV) (r0 : AV) (rs1 : List (Nat × Nat × Res)) (he : aD C.P f) (q : LOk (C := C) f m args0 r0 rs1) : Ct C where
 g := f
 run := Gv m args0 r0 rs1
 ok := Pn he q
@[go_sem] theorem aRk {C : Ctx} (f : Nat) (m : List (Nat × Nat)) (args0 : List AV) (r0 : AV) (rs1 : List (Nat × Nat × Res)) (he : aD C.P f) (q : LOk (C := C) f m args0 r0 rs1) : (ctL f m args0 r0 rs1 he q).g = f := rfl
@[go_sem] theorem aQw {C : Ctx} (f : Nat) (m : List (Nat × Nat)) (args0 : List AV) (r0 : AV) (rs1 : List (Nat × Nat × Res)) (he : aD C.P f) (q : LOk (C := C) f m args0 r0 rs1) (c : Call) (fop : Operand) (cs : List AV) (o : Oper) (st : St) (K : List Loc → List (Loc × Cont) → Prop) : (ctL f m args0 r0 rs1 he q).run c fop cs o st K = Gv m args0 r0 rs1 c fop cs o st K := rfl
attribute [go_sem] Gv outL retL
theorem FC.thin {C : Ctx} {f : Nat} {args : List AV} {r r' : AV} {rs : List (Nat × Nat × Res)} {k e sz : Nat} {rows rows' : List (List AV)} (hf : FC C f args [] r rs) (hk : aA k rs = (1, .sl e sz rows)) (hr : ∀ cur g w N v, AR cur g w N r v → AR cur g w N r' v) (hrf : jD r' = true) (hrw : aW (fun j => j == k) r' = true)
  (hl : rows'.length = rows.length) (hc : ∀ (i : Nat) (row row' : List AV), rows[i]? = some row → rows'[i]? = some row' → row'.length = row.length ∧ ∀ (j : Nat) (x : AV), row'[j]? = some x → x = .any ∨ row[j]? = some x) (hff : ∀ row ∈ rows', oS row = true ∧ aP bD row = true) :
  FC C f args [] r' [(k, 1, .sl e sz rows')] := by
 refine ⟨fun e0 g w vs hok hs hvs => (hf.run e0 g w vs hok hs hvs).mono ?_⟩
 rintro x w' ⟨v, g', rfl, hs', hv, hh⟩
 generalize hrs : [(k, 1, Res.sl e sz rows')] = rs'
 have k1 : aA k rs' = (1, .sl e sz rows') := by rw [← hrs]; simp [aA]
 have k2 : ∀ j, j ≠ k → aA j rs' = (0, .gone) := fun j hj => by rw [← hrs]; simp [aA, hj]
 have dk : ∀ j, domR rs' j = true → j = k := fun j hj => by
  by_cases h : j = k
  ·exact h
  ·unfold domR at hj; rw [k2 j h] at hj; simp at hj
 have dk' : domR rs k = true := by unfold domR; rw [hk]
 have ck : (stR rs').cur k = (stR rs).cur k := by simp only [St.cur, stR]; rw [k1, hk]
 have bk : ∀ j b, blk (stR rs') ⟨g', fun _ => []⟩ j b → j = k ∧ blk (stR rs) g' k b := fun j b hb => by
  by_cases h : j = k
  ·subst h
   refine ⟨rfl, ?_⟩
   unfold blk at hb ⊢
   simp only [stR] at hb ⊢
   rw [k1] at hb
   rw [hk]
   refine ⟨by simp, ?_⟩
   rcases hb.2 with h | h
   ·exact .inl h
   ·simp at h
  ·unfold blk at hb
   simp only [stR] at hb
   rw [k2 j h] at hb
   exact absurd rfl hb.1
 have hc0 : ∀ j, ((fun j => j == k) j) = true → (stR rs).cur j + 0 < (stR rs').cur (id j) ∨ (stR rs).cur j + 0 = (stR rs').cur (id j) ∧ g' j = (⟨g', fun _ => []⟩ : Gh) (id j) := fun j hj => by
  obtain rfl : j = k := by simpa using hj
  exact .inr ⟨by rw [Nat.add_zero]; exact ck.symm, rfl⟩
 refine ⟨v, ⟨g', fun _ => []⟩, rfl, ⟨rfl, rfl, fun d => .any _, fun j => ?_, fun j j' b hj hj' => ?_, fun j b hj => hs'.low k b (bk j b hj).2, ⟨hs'.ext.os, hs'.ext.tape, hs'.ext.output, hs'.ext.size, fun b hb hn => ⟨(hs'.ext.block b hb hn).1, fun ⟨j, hj⟩ => (hs'.ext.block b hb hn).2 ⟨k, (bk j b hj).2⟩⟩⟩, fun _ => .inr ⟨rfl, rfl⟩⟩, ?_, fun j hj => ?_⟩
 ·by_cases h : j = k
  ·subst h
   have q := hs'.res j
   show ResR _ _ _ _ _ (aA j rs').2
   rw [k1]
   rw [show (aA j (stR rs).rs).2 = .sl e sz rows by simp only [stR]; rw [hk]] at q
   obtain ⟨xs, q1, q2, q3, q5⟩ := q
   have hno : nds rows'.flatten xs = [] := gE fun x hx => by
    obtain ⟨row, hrow, hxr⟩ := List.mem_flatten.1 hx
    obtain ⟨i, hi⟩ := List.mem_iff_getElem?.1 hxr
    exact Ex (gM (hff row hrow).1 i x hi)
   have at' : ∀ (i : Nat) (row' : List AV), rows'[i]? = some row' → ∃ row, rows[i]? = some row := fun i row' hi => ⟨rows[i]'(by have := (List.getElem?_eq_some_iff.1 hi).1; omega), List.getElem?_eq_getElem _⟩
   refine ⟨xs, by rw [hl]; exact q1, fun row' hrow' => ?_, fun i j row' x y hi hj hy => ?_, ?_⟩
   ·obtain ⟨i, hi⟩ := List.mem_iff_getElem?.1 hrow'
    obtain ⟨row, h1⟩ := at' i row' hi
    rw [(hc i row row' h1 hi).1]; exact q2 row (List.mem_of_getElem? h1)
   ·obtain ⟨row, h1⟩ := at' i row' hi
    rcases (hc i row row' h1 hi).2 j x hj with rfl | hx
    ·exact .any _
    ·have h3 := hff row' (List.mem_of_getElem? hi)
     have := xR (w' := w') (N' := (e0.re (stR rs') ⟨g', fun _ => []⟩).N (stR rs') ⟨g', fun _ => []⟩) (q3 i j row x y h1 hx hy) (ok := bD) (bI h3.2 j x hj) (gM h3.1 j x hj) id (fun _ => 0) (cur' := (stR rs').cur) (g' := ⟨g', fun _ => []⟩) (fun k hk => by simp [bD] at hk)
     rwa [wW] at this
   ·rw [hno]
    refine ⟨.nil, ?_⟩
    show ((bH (g' j)).toList ++ []).Nodup
    cases bH (g' j) <;> simp
  ·show ResR _ _ _ _ _ (aA j rs').2
   rw [k2 j h]; trivial
 ·rw [(bk j b hj).1, (bk j' b hj').1]
 ·have := xR (w' := w') (N' := (e0.re (stR rs') ⟨g', fun _ => []⟩).N (stR rs') ⟨g', fun _ => []⟩) (hr _ _ _ _ _ hv) (ok := fun j => j == k) hrw hrf id (fun _ => 0) (cur' := (stR rs').cur) (g' := ⟨g', fun _ => []⟩) hc0
  rwa [wW] at this
 ·obtain rfl := dk j hj
  rw [ck]; exact hh j dk'
theorem aB1 {cur : Nat → Nat} {g : Gh} {w : World} {N : Nat → Prop} {sz : Nat} {rows : List (List RV)} {v : Value} (h : AR cur g w N (.r (.rs sz rows)) v) : AR cur g w N (.r (.ln rows.length)) v := by
 cases h with
 | r h => cases h with
  | nil => exact .r (.ln _ _ _)
  | rs => exact .r (.ln _ _ _)
theorem aGc (ts : List aJ) (k : Nat) : bE (domR [ownT 301 1 ts]) (aA k [ownT 301 1 ts]).2 := by
 have e : aA k [ownT 301 1 ts] = if k = 301 then (1, .sl 56 5 (ts.map bV)) else (0, .gone) := rfl
 rw [e]
 split
 ·exact fun row h => by obtain ⟨x, _, rfl⟩ := List.mem_map.1 h; rfl
 ·trivial
theorem Oa (p : aI) (s : aC) (th : Nat) (t : aJ) (f : aK) (v : Int × Int) (hw : Pwf p) (hs : Swf s) (hf : cP p s = 0) (ht : s.threads[th]? = some t) (hfr : t.frames[t.frames.length - 1]? = some f) (hv : fitsF s v = true) :
  FC Cx 33 [cV p, cE s, Iv th, VV v.1 v.2] [] (.tup [.agg [bW (thrS s th t v).cells, aN s.shapes, bN s.texts, .os 301 1, cA s.ends, aN s.said, Iv s.asked, Iv s.steps], gV (thrE p s th t f v), Iv 0]) [ownT 301 1 (thrS s th t v).threads] := by
 have hR := gL.1 hf
 obtain ⟨hm, hth⟩ := uT hw hR
 obtain ⟨h30, hfs⟩ := hth t (List.mem_of_getElem? ht)
 have hk := (List.getElem?_eq_some_iff.1 ht).1
 have hfk := (List.getElem?_eq_some_iff.1 hfr).1
 have l1 : (s.threads.map aL).length = s.threads.length := List.length_map ..
 have lf : (t.frames.map bM).length = t.frames.length := List.length_map ..
 have hg := aG aL ht ([] : List RV)
 have d0 : decide (cP p s = 0) = true := by simpa using hf
 have d2 : decide ((th : Int) < 0) = false := by rw [decide_eq_false_iff_not]; omega
 have d3 : decide ((s.threads.length : Int) ≤ (th : Int)) = false := by rw [decide_eq_false_iff_not]; omega
 have d4 : decide ((t.frames.length : Int) = 0) = false := by rw [decide_eq_false_iff_not]; omega
 have t1 : Int.toNat (th : Int) = th := by omega
 have hgo := wR hw hR.prog
 have hfF : cR p s f = true := by
  obtain ⟨low, ho, _⟩ := mD (hR.threads t (List.mem_of_getElem? ht)).2 hfr
  exact sW ho
 have hA : ∀ y, y = [.r (.rp (jG p)), gK s, Iv th] → aO Cx 86 y (iA (atF p s th f)) := fun y hy => by
  subst hy; exact aB (aCm p s th t f hgo ht hfr hfF (by omega)) en86 rfl rfl
 have q1 := Pg s hm 300 301 rfl
 have q2 := do_Q s th t v (atF p s th f) ht (by omega) hm.cells hfs 5 300 301 1 1 1 rfl
 have en1 : aD Cx.P 84 := en84
 have en2 : aD Cx.P 85 := en85
 have hE : thrE p s th t f v = [{ atF p s th f with kind := 7, val := v }, { atF p s th f with kind := if (unwF v t.frames t.frames.length s.cells).2.2 = true then 8 else 17, val := v }] := rfl
 rw [← hE] at q2
 have hins := aGc (thrS s th t v).threads
 generalize thrE p s th t f v = L at *
 generalize (thrS s th t v).cells = cs at *
 generalize (thrS s th t v).threads = ts at *
 obtain ⟨vk, vn⟩ := v
 dsimp only at *
 clear hE hfs hfF hR hth hfr hm hgo hf
 generalize atF p s th f = e0 at *
 refine gY [eY, gW, ctN 84 [(7, 300), (16, 301)] [cE s] (.agg [.os 7 1, aN s.shapes, bN s.texts, .os 16 1, cA s.ends, aN s.said, Iv s.asked, Iv s.steps]) [ownC 7 1 s.cells, ownT 16 1 s.threads] en1 q1, ctE 86 [.r (.rp (jG p)), gK s, Iv th] (iA e0) hA, ctQ 85 [(0, 5, 1), (1, 300, 1), (2, 301, 1)] [.os 0 0, Iv th, VV vk vn, iA e0] [boxS s 0 0 1 0 2 0, ownC 1 0 s.cells, ownT 2 0 s.threads] (gV L) [boxS s 0 0 1 0 2 0, ownC 1 0 cs, ownT 2 0 ts] en2 q2]  Tryz.func33 rfl Tryz.ntmps33 (by simp) Tryz.results33 rfl (hins) ?_
 refine rnst ?_
 clear hins
 refine goR ?_
 refine fzB 4 ?_
 refine fzB 7 ?_
 (any_goals refine goN lv33 0 ?_)
 (apply pQ 300 (cs.map bA); (exact rfl); (exact iJ Lq); (exact rfl); (intro K0; (try simp only [go_sem]); exact ⟨id⟩))
 (any_goals refine go lv33 0 ?_)
 all_goals (try simp only [go_sem])
 all_goals (first | rfl | exact ⟨rfl, rfl⟩)
theorem lnM {α : Type} {cur : Nat → Nat} {g : Gh} {w : World} {N : Nat → Prop} {sz : Nat} {f : α → List RV} {l : List α} {v : Value} (h : AR cur g w N (.r (.rs sz (l.map f))) v) : AR cur g w N (.r (.ln l.length)) v := by
 have := aB1 h
 rwa [List.length_map] at this
abbrev aA9 (t : aJ) : List AV := [.any, Iv t.state, Iv t.on, Iv t.val.1, Iv t.val.2]
theorem Hw (p : aI) (s : aC) (th : Nat) (t : aJ) (f : aK) (v : Int × Int) (hw : Pwf p) (hs : Swf s) (hf : cP p s = 0) (ht : s.threads[th]? = some t) (hfr : t.frames[t.frames.length - 1]? = some f) (hv : fitsF s v = true) :
  FC Cx 33 [cV p, cE s, Iv th, VV v.1 v.2] [] (.tup [.agg [.r (.ln (thrS s th t v).cells.length), .r (.ln s.shapes.length), .r (.ln s.texts.length), .os 301 1, .r (.ln s.ends.length), .r (.ln s.said.length), Iv s.asked, Iv s.steps], .r (.ln 2), Iv 0]) [(301, 1, .sl 56 5 ((thrS s th t v).threads.map aA9))] := by
 refine (Oa p s th t f v hw hs hf ht hfr hv).thin (k := 301) (rows := (thrS s th t v).threads.map bV) rfl (fun cur g w N v h => ?_) rfl rfl (by simp) (fun i row row' h1 h2 => ?_) (fun row hrow => ?_)
 ·cases h with
  | tup _ us hs hu =>
   refine .tup _ us hs fun j x u hx hju => ?_
   match j with
   | 0 =>
    simp at hx; subst hx
    have h0 := hu 0 _ u rfl hju
    cases h0 with
    | agg _ xs hxs hq =>
     refine .agg _ xs hxs fun i y z hy hz => ?_
     match i with
     | 0 => simp at hy; subst hy; exact lnM (f := bA) (hq 0 _ z rfl hz)
     | 1 => simp at hy; subst hy; exact lnM (f := valR) (hq 1 _ z rfl hz)
     | 2 => simp at hy; subst hy; exact lnM (f := strR) (hq 2 _ z rfl hz)
     | 3 => simp at hy; subst hy; exact hq 3 _ z rfl hz
     | 4 => simp at hy; subst hy; exact lnM (f := endR) (hq 4 _ z rfl hz)
     | 5 => simp at hy; subst hy; exact lnM (f := valR) (hq 5 _ z rfl hz)
     | 6 => simp at hy; subst hy; exact hq 6 _ z rfl hz
     | 7 => simp at hy; subst hy; exact hq 7 _ z rfl hz
     | i + 8 => simp at hy
   | 1 =>
    simp at hx; subst hx
    exact aB1 (hu 1 _ u rfl hju)
   | 2 => exact hu 2 x u hx hju
   | j + 3 => simp at hx
 ·rw [List.getElem?_map] at h1 h2
  cases h : (thrS s th t v).threads[i]? with
  | none => rw [h] at h1; cases h1
  | some y =>
   rw [h] at h1 h2
   simp at h1 h2
   subst h1; subst h2
   refine ⟨rfl, fun j x hx => ?_⟩
   match j with
   | 0 => simp at hx; subst hx; exact .inl rfl
   | 1 => exact .inr hx
   | 2 => exact .inr hx
   | 3 => exact .inr hx
   | 4 => exact .inr hx
   | j + 5 => simp at hx
 ·obtain ⟨y, _, rfl⟩ := List.mem_map.1 hrow
  exact ⟨rfl, rfl⟩
abbrev mJ : aI := lR [⟨30, 1, 2, 0, 0⟩, ⟨31, 0, 0, 0, 0⟩, ⟨28, 0, 0, 0, 0⟩]
abbrev fr0 : aK := ⟨0, 0, -1, -1, (5, 0), [(0, 0), (0, 0), (0, 0)], []⟩
abbrev fr1 : aK := ⟨0, 1, -1, -1, (5, 0), [(0, 0), (0, 0), (0, 0)], [(1, 2)]⟩
abbrev stL (W : List ByteArray) (ts : List aJ) : aC := ⟨[⟨4, 0, [], []⟩], [(-1, -1)], W, ts, [], [], 0, 0⟩
theorem kV : checkF mJ = 0 := by kernel_rfl
theorem oE : Pwf mJ := Ql _ (by decide)
theorem uP : tS mJ = stL bP [⟨[fr0], 0, 0, (0, 0)⟩] := by unfold tS; rw [if_pos kV]; rfl
theorem Ev : cP mJ (stL bP [⟨[fr0], 0, 0, (0, 0)⟩]) = 0 := by rw [← uP]; exact Gz oE kV
theorem Uq : cP mJ (stL bP [⟨[fr1], 0, 0, (0, 0)⟩]) = 0 := by
 have h0 := gL.1 Ev
 refine gL.2 ⟨kV, h0.heap, by kernel_rfl, rfl, by decide, by decide, by decide, fun c hc => h0.cells c hc, fun t ht => ?_, (show ([] : List Int).Nodup from List.nodup_nil), fun k c hk k5 => ?_⟩
 ·simp at ht; subst ht
  refine ⟨by kernel_rfl, ⟨by kernel_rfl, fun h => ?_⟩, trivial⟩
  exact absurd h (by decide)
 ·have := List.mem_of_getElem? hk
  simp at this; subst this; cases k5
theorem Xe (p : aI) (hw : Pwf p) (hp : checkF p = 0) (L : List (Int × Int)) (hL : List.replicate (p.fns.getD 0 fn0).regs.toNat (0, 0) = L) (a : Nat) : NOk (C := Cx) 14 [(30, a)] [cV p] (.tup [.agg [bW [⟨4, 0, [], []⟩], aN [(-1, -1)], bN p.texts, .os 30 1, cA [], aN [], Iv 0, Iv 0], Iv 0]) [xY 1 L] := by
 subst hL
 exact ⟨Oe p hw hp, rfl, rfl, rfl, rfl, fun _ _ => rfl, rfl, fun q hq => by
  rcases List.mem_cons.1 hq with rfl | hq
  ·exact aBd 1 _ 30
  ·simp at hq, fun q hq => by
  rcases List.mem_cons.1 hq with rfl | hq
  ·exact ⟨rfl, Nat.le_refl _⟩
  ·simp at hq⟩
theorem zG (ts : List aJ) (h : ∀ t ∈ ts, t.frames.length ≤ 9223372036854775807 ∧ ∀ f ∈ t.frames, Gwf f) (hl : ts.length ≤ 9) : Swf (stL bP ts) := by
 obtain ⟨⟨a1, a2, a3, _, a5, a6⟩, b, c, _⟩ := Rq oE
 rw [uP] at a1 a2 a3 a5 a6 b c
 exact ⟨⟨a1, a2, a3, by show ts.length ≤ _; omega, a5, a6⟩, b, c, h⟩
theorem qC : FC Cx 39 [] [] (Bv true) [] := by
 have hg : ∀ n : Int, n = -1 → WI n := fun n h => by subst h; exact Lo (by decide) (by decide)
 have w0 : Swf (stL bP [⟨[fr0], 0, 0, (0, 0)⟩]) := zG _ (fun t ht => by
  simp at ht; subst ht
  refine ⟨by simp, fun f hf => ?_⟩
  simp at hf; subst hf
  exact ⟨by simp, by simp, hg _ rfl⟩) (by simp)
 have w1 : Swf (stL bP [⟨[fr1], 0, 0, (0, 0)⟩]) := zG _ (fun t ht => by
  simp at ht; subst ht
  refine ⟨by simp, fun f hf => ?_⟩
  simp at hf; subst hf
  exact ⟨by simp, by simp, hg _ rfl⟩) (by simp)
 have hSm : ∀ y, y = [mI [⟨30, 1, 2, 0, 0⟩, ⟨31, 0, 0, 0, 0⟩, ⟨28, 0, 0, 0, 0⟩]] → aO Cx 49 y (cV mJ) := fun y hy => by
  subst hy; exact aB (Xq _) en49 rfl rfl
 have hN := Xe mJ oE kV [(0, 0), (0, 0), (0, 0)] rfl 302
 have enS : aD Cx.P 14 := en14
 have hT0 : LOk (C := Cx) 33 [(301, 304)] [cV mJ, .agg [.r (.rs 4 [bA ⟨4, 0, [], []⟩]), .r (.rs 2 [valR (-1, -1)]), .r (.rs 1 (bP.map strR)), .r (.rs 5 [[.rs 8 [[.v (.int .i64 0), .v (.int .i64 0), .v (.int .i64 (-1)), .v (.int .i64 (-1)), .v (.int .i64 5), .v (.int .i64 0), .rs 2 [valR (0, 0), valR (0, 0), valR (0, 0)], .rs 2 []]], .v (.int .i64 0), .v (.int .i64 0), .v (.int .i64 0), .v (.int .i64 0)]]), .r (.rs 3 []), .r (.rs 2 []), Iv 0, Iv 0], Iv 0, VV 2 5] (.tup [.agg [.r (.ln 1), .r (.ln 1), .r (.ln bP.length), .os 301 1, .r (.ln 0), .r (.ln 0), Iv 0, Iv 0], .r (.ln 2), Iv 0]) [(301, 1, .sl 56 5 [[.any, Iv 4, Iv 0, Iv 2, Iv 5]])] :=
  ⟨Hw mJ _ 0 ⟨[fr0], 0, 0, (0, 0)⟩ fr0 (2, 5) oE w0 Ev rfl rfl rfl, rfl, rfl, rfl, rfl, rfl, fun p hp => by
   rcases List.mem_cons.1 hp with rfl | hp
   ·exact fun row hrow => by
     rcases List.mem_cons.1 hrow with rfl | hrow
     ·exact ⟨rfl, rfl⟩
     ·simp at hrow
   ·simp at hp, fun q hq => by
   rcases List.mem_cons.1 hq with rfl | hq
   ·exact ⟨rfl, Nat.le_refl _⟩
   ·simp at hq⟩
 have enT : aD Cx.P 33 := en33
 have hT1 : ∀ y, y = [cV mJ, .agg [.r (.rs 4 [bA ⟨4, 0, [], []⟩]), .r (.rs 2 [valR (-1, -1)]), .r (.rs 1 (bP.map strR)), .r (.rs 5 [[.rs 8 [[.v (.int .i64 0), .v (.int .i64 1), .v (.int .i64 (-1)), .v (.int .i64 (-1)), .v (.int .i64 5), .v (.int .i64 0), .rs 2 [valR (0, 0), valR (0, 0), valR (0, 0)], .rs 2 [[.v (.int .i64 1), .v (.int .i64 2)]]]], .v (.int .i64 0), .v (.int .i64 0), .v (.int .i64 0), .v (.int .i64 0)]]), .r (.rs 3 []), .r (.rs 2 []), Iv 0, Iv 0], Iv 0, VV 2 5] → aO Cx 33 y (.tup [.agg [.r (.rs 4 [bA ⟨4, 0, [], []⟩]), .r (.rs 2 [valR (-1, -1)]), .r (.rs 1 (bP.map strR)), .r (.rs 5 [[.rs 8 [[.v (.int .i64 0), .v (.int .i64 2), .v (.int .i64 (-1)), .v (.int .i64 (-1)), .v (.int .i64 5), .v (.int .i64 0), .rs 2 [[.v (.int .i64 0), .v (.int .i64 0)], [.v (.int .i64 2), .v (.int .i64 5)], [.v (.int .i64 0), .v (.int .i64 0)]], .rs 2 []]], .v (.int .i64 0), .v (.int .i64 0), .v (.int .i64 0), .v (.int .i64 0)]]), .r (.rs 3 []), .r (.rs 2 []), Iv 0, Iv 0], .r (.rs 12 [[.v (.int .i64 7), .v (.int .i64 0), .v (.int .i64 0), .v (.int .i64 0), .v (.int .i64 1), .v (.int .i64 0), .v (.int .i64 0), .v (.int .i64 0), .v (.int .i64 2), .v (.int .i64 5), .v (.int .i64 0), .v (.int .i64 0)], [.v (.int .i64 8), .v (.int .i64 0), .v (.int .i64 0), .v (.int .i64 0), .v (.int .i64 1), .v (.int .i64 0), .v (.int .i64 0), .v (.int .i64 0), .v (.int .i64 2), .v (.int .i64 5), .v (.int .i64 0), .v (.int .i64 0)]]), Iv 0]) := fun y hy => by
  subst hy; exact aB (zH mJ _ 0 ⟨[fr1], 0, 0, (0, 0)⟩ fr1 (2, 5) oE w1 Uq rfl rfl rfl) en33 rfl rfl
 have eT : mJ.texts = bP := rfl
 rw [eT] at hN
 clear w0 w1 hg eT
 generalize mJ = P at *
 generalize bP = W at *
 refine aE [ctE 49 [mI [⟨30, 1, 2, 0, 0⟩, ⟨31, 0, 0, 0, 0⟩, ⟨28, 0, 0, 0, 0⟩]] (cV P) hSm, ctN 14 [(30, 302)] [cV P] (.tup [.agg [bW [⟨4, 0, [], []⟩], aN [(-1, -1)], bN W, .os 30 1, cA [], aN [], Iv 0, Iv 0], Iv 0]) [xY 1 [(0, 0), (0, 0), (0, 0)]] enS hN, Ic, ctL 33 [(301, 304)] [cV P, .agg [.r (.rs 4 [bA ⟨4, 0, [], []⟩]), .r (.rs 2 [valR (-1, -1)]), .r (.rs 1 (W.map strR)), .r (.rs 5 [[.rs 8 [[.v (.int .i64 0), .v (.int .i64 0), .v (.int .i64 (-1)), .v (.int .i64 (-1)), .v (.int .i64 5), .v (.int .i64 0), .rs 2 [valR (0, 0), valR (0, 0), valR (0, 0)], .rs 2 []]], .v (.int .i64 0), .v (.int .i64 0), .v (.int .i64 0), .v (.int .i64 0)]]), .r (.rs 3 []), .r (.rs 2 []), Iv 0, Iv 0], Iv 0, VV 2 5] (.tup [.agg [.r (.ln 1), .r (.ln 1), .r (.ln W.length), .os 301 1, .r (.ln 0), .r (.ln 0), Iv 0, Iv 0], .r (.ln 2), Iv 0]) [(301, 1, .sl 56 5 [[.any, Iv 4, Iv 0, Iv 2, Iv 5]])] enT hT0] Tryz.func39 Tryz.ntmps39 Tryz.results39 ?_
 (any_goals refine goF ((1000000, [13]) :: iS 3 lv39) 0 ?_)
 (apply wY 302 0 0 303; (exact rfl); (exact rfl); (exact rfl); (exact rfl); (exact rfl); (intro K0; (try simp only [go_sem]); exact ⟨id⟩))
 (apply Qh 303 [[Iv 0, Iv 0, Iv (-1), Iv (-1), Iv 5, Iv 0, .r (.rs 2 [valR (0, 0), valR (0, 0), valR (0, 0)]), .r (.rs 2 [])]]; (exact rfl); (exact rfl); (exact (by simp [noNd, isNd])); (exact (by simp [Er, rowA, nilT])); (exact rfl); (intro K0; (try simp only [go_sem]); exact ⟨id⟩))
 (any_goals refine go (iS 7 lv39) 0 ?_)
 (apply fS 303 0 7 66 [[.r (.v (.int .i64 1)), .r (.v (.int .i64 2))]]; (exact rfl); (exact rfl); (exact rfl); (exact (by decide)); (exact rfl); (exact rfl); (intro K0; (try simp only [go_sem]); exact ⟨id⟩))
 (apply fS 302 0 0 303 [[.r (.v (.int .i64 0)), .r (.v (.int .i64 1)), .r (.v (.int .i64 (-1))), .r (.v (.int .i64 (-1))), .r (.v (.int .i64 5)), .r (.v (.int .i64 0)), .r (.rs 2 [valR (0, 0), valR (0, 0), valR (0, 0)]), .nd 81 2 [[.r (.v (.int .i64 1)), .r (.v (.int .i64 2))]]]]; (exact rfl); (exact rfl); (exact rfl); (exact (by decide)); (exact rfl); (exact rfl); (intro K0; (try simp only [go_sem]); exact ⟨id⟩))
 (apply pQ 302 [[.rs 8 [[.v (.int .i64 0), .v (.int .i64 1), .v (.int .i64 (-1)), .v (.int .i64 (-1)), .v (.int .i64 5), .v (.int .i64 0), .rs 2 [valR (0, 0), valR (0, 0), valR (0, 0)], .rs 2 [[.v (.int .i64 1), .v (.int .i64 2)]]]], .v (.int .i64 0), .v (.int .i64 0), .v (.int .i64 0), .v (.int .i64 0)]]; (exact rfl); (exact ⟨⟨rfl, rfl, rfl, rfl, rfl, trivial⟩, trivial⟩); (exact rfl); (intro K0; (try simp only [go_sem]); exact ⟨id⟩))
 refine Rn_T [Ic, ctE 33 [cV P, .agg [.r (.rs 4 [bA ⟨4, 0, [], []⟩]), .r (.rs 2 [valR (-1, -1)]), .r (.rs 1 (W.map strR)), .r (.rs 5 [[.rs 8 [[.v (.int .i64 0), .v (.int .i64 1), .v (.int .i64 (-1)), .v (.int .i64 (-1)), .v (.int .i64 5), .v (.int .i64 0), .rs 2 [valR (0, 0), valR (0, 0), valR (0, 0)], .rs 2 [[.v (.int .i64 1), .v (.int .i64 2)]]]], .v (.int .i64 0), .v (.int .i64 0), .v (.int .i64 0), .v (.int .i64 0)]]), .r (.rs 3 []), .r (.rs 2 []), Iv 0, Iv 0], Iv 0, VV 2 5] (.tup [.agg [.r (.rs 4 [bA ⟨4, 0, [], []⟩]), .r (.rs 2 [valR (-1, -1)]), .r (.rs 1 (W.map strR)), .r (.rs 5 [[.rs 8 [[.v (.int .i64 0), .v (.int .i64 2), .v (.int .i64 (-1)), .v (.int .i64 (-1)), .v (.int .i64 5), .v (.int .i64 0), .rs 2 [[.v (.int .i64 0), .v (.int .i64 0)], [.v (.int .i64 2), .v (.int .i64 5)], [.v (.int .i64 0), .v (.int .i64 0)]], .rs 2 []]], .v (.int .i64 0), .v (.int .i64 0), .v (.int .i64 0), .v (.int .i64 0)]]), .r (.rs 3 []), .r (.rs 2 []), Iv 0, Iv 0], .r (.rs 12 [[.v (.int .i64 7), .v (.int .i64 0), .v (.int .i64 0), .v (.int .i64 0), .v (.int .i64 1), .v (.int .i64 0), .v (.int .i64 0), .v (.int .i64 0), .v (.int .i64 2), .v (.int .i64 5), .v (.int .i64 0), .v (.int .i64 0)], [.v (.int .i64 8), .v (.int .i64 0), .v (.int .i64 0), .v (.int .i64 0), .v (.int .i64 1), .v (.int .i64 0), .v (.int .i64 0), .v (.int .i64 0), .v (.int .i64 2), .v (.int .i64 5), .v (.int .i64 0), .v (.int .i64 0)]]), Iv 0]) hT1] ?_
 (any_goals refine go lv39 0 ?_)
 all_goals (try simp only [go_sem])
 trace_state
def oD (cs cs' : List aZ) (D : List Int) : Prop := cs'.length = cs.length ∧ ∀ (k : Nat) (c : aZ), cs[k]? = some c → cs'[k]? = some (if (k : Int) ∈ D then { c with num := 2 } else c)
theorem Ak (cs : List aZ) : oD cs cs [] := ⟨rfl, fun k c h => by rw [if_neg (by simp)]; exact h⟩
theorem Ie (f : aK) (cs : List aZ) : oD cs (killC f cs) (gensL [f]) := by
 refine ⟨tX f cs, fun k c h => ?_⟩
 unfold killC gensL
 by_cases hg : 0 ≤ f.gen
 ·rw [if_pos hg, List.filter_cons_of_pos (by simpa using hg)]
  simp only [List.filter_nil, List.map_cons, List.map_nil, List.mem_singleton]
  by_cases hk : (k : Int) = f.gen
  ·rw [if_pos hk]
   have e : f.gen.toNat = k := by omega
   rw [e, h]
   exact List.getElem?_set_self (List.getElem?_eq_some_iff.1 h).1
  ·rw [if_neg hk]
   split
   ·rw [List.getElem?_set_ne (by omega)]; exact h
   ·exact h
 ·rw [if_neg hg, List.filter_cons_of_neg (by simpa using hg), if_neg (by simp)]
  exact h
theorem oD.trans {a b c : List aZ} {D E : List Int} (h : oD a b D) (h' : oD b c E) : oD a c (E ++ D) := by
 refine ⟨h'.1.trans h.1, fun k x hk => ?_⟩
 have h1 := h'.2 k _ (h.2 k x hk)
 rw [h1]
 by_cases d : (k : Int) ∈ D <;> by_cases e : (k : Int) ∈ E <;> simp [d, e]
theorem uC (l m : List aK) : gensL (l ++ m) = gensL l ++ gensL m := by unfold gensL; rw [List.filter_append, List.map_append]
theorem Bt {v : Int × Int} {fs : List aK} : ∀ (m : Nat) (cs : List aZ), m ≤ fs.length → ∃ (j : Nat) (D : List Int), j ≤ m ∧ gensL (fs.take m) = gensL (fs.take j) ++ D ∧ oD cs (unwF v fs m cs).1 D ∧
  ((j = 0 ∧ (unwF v fs m cs).2 = ([], false)) ∨ ∃ (k : Nat) (f : aK) (y : Int × Int), j = k + 1 ∧ fs[k]? = some f ∧ f.tries[f.tries.length - 1]? = some y ∧ (unwF v fs m cs).2 = (fs.take k ++ [{ f with tries := f.tries.take (f.tries.length - 1), pc := y.2, regs := f.regs.set y.1.toNat v }], true))
 | 0, cs, _ => ⟨0, [], Nat.le_refl _, by simp, Ak cs, .inl ⟨rfl, rfl⟩⟩
 | m + 1, cs, hm => by
  obtain ⟨f, hf⟩ : ∃ f, fs[m]? = some f := ⟨fs[m]'(by omega), List.getElem?_eq_getElem _⟩
  unfold unwF
  rw [hf]
  dsimp only
  cases hy : f.tries[f.tries.length - 1]? with
  | some y => exact ⟨m + 1, [], Nat.le_refl _, by simp, Ak cs, .inr ⟨m, f, y, rfl, hf, hy, rfl⟩⟩
  | none =>
   obtain ⟨j, D, h1, h2, h3, h4⟩ := Bt (v := v) (fs := fs) m (killC f cs) (by omega)
   refine ⟨j, D ++ gensL [f], by omega, ?_, (Ie f cs).trans h3, h4⟩
   rw [List.take_add_one, hf]
   show gensL (fs.take m ++ [f]) = _
   rw [uC, h2, List.append_assoc]
theorem oZ {g : Int} {fs : List aK} : g ∈ gensL fs ↔ ∃ f ∈ fs, 0 ≤ f.gen ∧ f.gen = g := by
 unfold gensL
 simp only [List.mem_map, List.mem_filter, decide_eq_true_eq]
 exact ⟨fun ⟨f, ⟨h1, h2⟩, h3⟩ => ⟨f, h1, h2, h3⟩, fun ⟨f, h1, h2, h3⟩ => ⟨f, ⟨h1, h2⟩, h3⟩⟩
theorem mE {g : Int} {ts : List aJ} : g ∈ iM ts ↔ ∃ t ∈ ts, g ∈ gensL t.frames := by
 unfold iM
 simp only [List.mem_flatten, List.mem_map]
 exact ⟨fun ⟨l, ⟨t, h1, h2⟩, h3⟩ => ⟨t, h1, h2 ▸ h3⟩, fun ⟨t, h1, h2⟩ => ⟨_, ⟨t, h1, rfl⟩, h2⟩⟩
theorem wZ {g : Int} : ∀ {ts : List aJ} {i j : Nat} {t x : aJ}, (iM ts).Nodup → ts[i]? = some t → ts[j]? = some x → i ≠ j → g ∈ gensL t.frames → g ∉ gensL x.frames
 | [], i, j, t, x, _, hi, _, _, _ => by simp at hi
 | u :: ts, i, j, t, x, h, hi, hj, hne, hg => by
  have hn : (gensL u.frames ++ iM ts).Nodup := h
  obtain ⟨n1, n2, n3⟩ := List.nodup_append.1 hn
  cases i with
  | zero =>
   cases j with
   | zero => exact absurd rfl hne
   | succ j =>
    simp at hi hj
    subst hi
    intro hx
    exact n3 g hg g (mE.2 ⟨x, List.mem_of_getElem? hj, hx⟩) rfl
  | succ i =>
   cases j with
   | zero =>
    simp at hi hj
    subst hj
    intro hx
    exact n3 g hx g (mE.2 ⟨t, List.mem_of_getElem? hi, hg⟩) rfl
   | succ j => exact wZ (ts := ts) (i := i) (j := j) n2 (by simpa using hi) (by simpa using hj) (by omega) hg
theorem zQ {t t' : aJ} (hg : (gensL t'.frames).Sublist (gensL t.frames)) : ∀ {ts : List aJ} {i : Nat}, ts[i]? = some t → (iM (ts.set i t')).Sublist (iM ts)
 | t0 :: ts, 0, ht => by
  simp at ht; subst ht
  exact List.Sublist.append hg (List.Sublist.refl _)
 | t0 :: ts, i + 1, ht => List.Sublist.append (List.Sublist.refl _) (zQ hg (by simpa using ht))
 | [], _, ht => by simp at ht
theorem xJ {p : aI} {s : aC} {fs : List aK} (h : fH p s 0 0 fs) {g : Int} (hg : g ∈ gensL fs) : 0 ≤ g ∧ ∃ c, s.cells[g.toNat]? = some c ∧ c.kind = 5 ∧ c.num = 1 := by
 obtain ⟨f, hf, h0, rfl⟩ := oZ.1 hg
 obtain ⟨j, hj⟩ := List.mem_iff_getElem?.1 hf
 obtain ⟨_, _, h2⟩ := mD h hj
 have := h2 h0
 unfold gZ at this
 simp only [Bool.and_eq_true, decide_eq_true_eq] at this
 obtain ⟨r1, r2, r3⟩ := Iw this.1.2
 have hlt : f.gen.toNat < s.cells.length := by omega
 have hc : s.cells[f.gen.toNat]? = some s.cells[f.gen.toNat] := List.getElem?_eq_getElem hlt
 have e : s.cells.getD f.gen.toNat cS = s.cells[f.gen.toNat] := by rw [List.getD_eq_getElem?_getD, hc]; rfl
 rw [e] at r3 this
 exact ⟨r1, _, hc, r3, this.2⟩
theorem Hl {s : aC} {cs' : List aZ} {ts' : List aJ} {D : List Int} (hD : oD s.cells cs' D) (h5 : ∀ g ∈ D, 0 ≤ g ∧ ∃ c, s.cells[g.toNat]? = some c ∧ c.kind = 5 ∧ c.num = 1) : dO s ⟨cs', s.shapes, s.texts, ts', s.ends, s.said, s.asked, s.steps⟩ := by
 refine ⟨Nat.le_refl _, fun k c hk => ⟨_, hD.2 k c hk, ?_, fun k4 => ?_⟩⟩
 ·split <;> rfl
 ·split
  ·rename_i h
   obtain ⟨_, c', h1, h2, _⟩ := h5 _ h
   rw [show ((k : Int)).toNat = k by omega, hk] at h1
   cases h1; omega
  ·rfl
theorem Mi {s : aC} {cs' : List aZ} {ts' : List aJ} {D : List Int} (hD : oD s.cells cs' D) (hk : dO s ⟨cs', s.shapes, s.texts, ts', s.ends, s.said, s.asked, s.steps⟩) {k : Nat} {f : aK} (hn : f.gen ∉ D) (h : gZ s k f = true) : gZ ⟨cs', s.shapes, s.texts, ts', s.ends, s.said, s.asked, s.steps⟩ k f = true := by
 unfold gZ at h ⊢
 simp only [Bool.and_eq_true] at h ⊢
 refine ⟨⟨h.1.1, hk.ref h.1.2⟩, ?_⟩
 obtain ⟨r1, r2, _⟩ := Iw h.1.2
 have hlt : f.gen.toNat < s.cells.length := by omega
 have hc : s.cells[f.gen.toNat]? = some s.cells[f.gen.toNat] := List.getElem?_eq_getElem hlt
 have h2 := hD.2 _ _ hc
 rw [if_neg (by rw [show ((f.gen.toNat : Nat) : Int) = f.gen by omega]; exact hn)] at h2
 have e1 : s.cells.getD f.gen.toNat cS = s.cells[f.gen.toNat] := by rw [List.getD_eq_getElem?_getD, hc]; rfl
 have e2 : cs'.getD f.gen.toNat cS = s.cells[f.gen.toNat] := by rw [List.getD_eq_getElem?_getD, h2]; rfl
 rw [e2, ← e1]; exact h.2
theorem rE {p : aI} {s : aC} {cs' : List aZ} {ts' : List aJ} {D : List Int} (hD : oD s.cells cs' D) (hk : dO s ⟨cs', s.shapes, s.texts, ts', s.ends, s.said, s.asked, s.steps⟩) : ∀ {fs : List aK} {k : Nat} {low : Int}, (∀ g ∈ gensL fs, g ∉ D) → fH p s k low fs → fH p ⟨cs', s.shapes, s.texts, ts', s.ends, s.said, s.asked, s.steps⟩ k low fs
 | [], _, _, _, _ => trivial
 | f :: fs, k, low, hn, h => ⟨⟨Runs.on hk h.1.1, fun h0 => Mi hD hk (hn _ (oZ.2 ⟨f, List.mem_cons_self .., h0, rfl⟩)) (h.1.2 h0)⟩, rE hD hk (fun g hg => hn g (by
   obtain ⟨x, hx, q⟩ := oZ.1 hg
   exact oZ.2 ⟨x, List.mem_cons_of_mem _ hx, q⟩)) h.2⟩
theorem zA {p : aI} {s : aC} {i : Nat} {t t' : aJ} {cs' : List aZ} {D : List Int} (h : oP p s) (ht : s.threads[i]? = some t) (hD : oD s.cells cs' D) (hg : gensL t.frames = gensL t'.frames ++ D) (hh : jF p s t' = true) (hs : fH p s 0 0 t'.frames) (hn : t'.frames.length ≤ 30) :
  oP p ⟨cs', s.shapes, s.texts, s.threads.set i t', s.ends, s.said, s.asked, s.steps⟩ := by
 have hT := h.threads t (List.mem_of_getElem? ht)
 have hH := jY.1 h.heap
 have h5 : ∀ g ∈ D, 0 ≤ g ∧ ∃ c, s.cells[g.toNat]? = some c ∧ c.kind = 5 ∧ c.num = 1 := fun g hgD => xJ hT.2 (by rw [hg]; exact List.mem_append_right _ hgD)
 have hk : dO s ⟨cs', s.shapes, s.texts, s.threads.set i t', s.ends, s.said, s.asked, s.steps⟩ := Hl hD h5
 have hl : (s.threads.set i t').length = s.threads.length := List.length_set
 have hNt : (gensL t'.frames ++ D).Nodup := by
  have : (gensL t.frames).Sublist (iM s.threads) := by
   unfold iM
   exact List.sublist_flatten_of_mem (List.mem_map.2 ⟨t, List.mem_of_getElem? ht, rfl⟩)
  rw [← hg]
  exact this.nodup h.gens
 -- a cell of it is one of the other's
 have back : ∀ (k : Nat) (c' : aZ), cs'[k]? = some c' → ∃ c, s.cells[k]? = some c ∧ c' = if (k : Int) ∈ D then { c with num := 2 } else c := fun k c' hk' => by
  have hlt := (List.getElem?_eq_some_iff.1 hk').1
  rw [hD.1] at hlt
  have h1 := List.getElem?_eq_getElem hlt
  have h2 := hD.2 k _ h1
  rw [hk'] at h2
  exact ⟨_, h1, Option.some.inj h2⟩
 have dead : ∀ (k : Nat) (c : aZ), s.cells[k]? = some c → (k : Int) ∈ D → c.kind = 5 ∧ c.num = 1 := fun k c hc hkD => by
  obtain ⟨_, c', h1, h2⟩ := h5 _ hkD
  rw [show ((k : Int)).toNat = k by omega, hc] at h1
  cases h1; exact h2
 refine ⟨h.prog, jY.2 ⟨by show cs'.length ≤ 300; rw [hD.1]; exact hH.cellN, hH.textN, hH.saidN, hH.endN, hH.bytes, fun c' hc' => ?_, hH.shapes, hH.words, hH.names, fun c' hc' => ?_, fun v hv => ⟨(hH.said v hv).1, hk.fits (hH.said v hv).2⟩, fun e he => ?_⟩, ?_, h.texts, h.steps, h.asked, by show (s.threads.set i t').length ≠ 0; rw [hl]; exact h.any, fun c' hc' => ?_, fun x hx => ?_, ?_, fun k c' hk' k5 n1 => ?_⟩
 ·obtain ⟨k, hk'⟩ := List.mem_iff_getElem?.1 hc'
  obtain ⟨c, h1, rfl⟩ := back k c' hk'
  have := hH.valN c (List.mem_of_getElem? h1)
  split
  ·exact this
  ·exact this
 ·obtain ⟨k, hk'⟩ := List.mem_iff_getElem?.1 hc'
  obtain ⟨c, h1, rfl⟩ := back k c' hk'
  have hc := hk.cell rfl (hH.cells c (List.mem_of_getElem? h1))
  split
  ·rename_i hkD
   obtain ⟨q5, q1⟩ := dead k c h1 hkD
   obtain ⟨ck, cn, cv, cf⟩ := c
   dsimp only at q5 q1
   subst q5; subst q1
   unfold gC at hc ⊢
   simp only [Bool.and_eq_true] at hc ⊢
   obtain ⟨⟨⟨⟨⟨a1, a2⟩, a3⟩, a4⟩, a5⟩, a6⟩ := hc
   exact ⟨⟨⟨⟨⟨a1, by simp [numF]⟩, by simpa [kP] using a3⟩, by simpa [dF] using a4⟩, a5⟩, a6⟩
  ·exact hc
 ·obtain ⟨⟨e1, e2⟩, e3⟩ := hH.ends e he
  exact ⟨⟨e1, by show e.cell ≤ (cs'.length : Int) - 1; rw [hD.1]; exact e2⟩, hk.is e3⟩
 ·have := h.few
  unfold uW at this ⊢
  simp only [Bool.or_eq_false_iff, decide_eq_false_iff_not, List.any_eq_false, decide_eq_true_eq] at this ⊢
  refine ⟨by show ¬ (5 : Int) < ((s.threads.set i t').length : Int); rw [hl]; exact this.1, fun x hx => ?_⟩
  rcases List.mem_or_eq_of_mem_set hx with hx | rfl
  ·exact this.2 x hx
  ·omega
 ·obtain ⟨k, hk'⟩ := List.mem_iff_getElem?.1 hc'
  obtain ⟨c, h1, rfl⟩ := back k c' hk'
  have hc := hk.heap (h.cells c (List.mem_of_getElem? h1))
  split
  ·rename_i hkD
   obtain ⟨q5, q1⟩ := dead k c h1 hkD
   unfold dW
   rw [if_neg (by show ¬ c.kind = 4; omega), if_pos q5]
   rfl
  ·exact hc
 ·obtain ⟨j, hj⟩ := List.mem_iff_getElem?.1 hx
  have hj' : j < s.threads.length := by have := (List.getElem?_eq_some_iff.1 hj).1; rw [← hl]; exact this
  by_cases hij : i = j
  ·subst hij
   have hx' : x = t' := by
    have h1 : (s.threads.set i t')[i]? = some t' := List.getElem?_set_self hj'
    exact Option.some.inj (hj.symm.trans h1)
   subst hx'
   refine ⟨hk.head (by show s.threads.length ≤ (s.threads.set i x).length; rw [hl]; exact Nat.le_refl _) hh, rE hD hk (fun g hg1 hg2 => (List.nodup_append.1 hNt).2.2 g hg1 g hg2 rfl) hs⟩
  ·have hx' : s.threads[j]? = some x := by
    have h1 : (s.threads.set i t')[j]? = s.threads[j]? := List.getElem?_set_ne hij
    rw [← h1]; exact hj
   have hX := h.threads x (List.mem_of_getElem? hx')
   refine ⟨hk.head (by show s.threads.length ≤ (s.threads.set i t').length; rw [hl]; exact Nat.le_refl _) hX.1, rE hD hk (fun g hg1 hg2 => ?_) hX.2⟩
   exact wZ h.gens ht hx' hij (by rw [hg]; exact List.mem_append_right _ hg2) hg1
 ·exact (zQ (t := t) (t' := t') (by rw [hg]; exact List.sublist_append_left _ _) ht).nodup h.gens
 ·obtain ⟨c, h1, rfl⟩ := back k c' hk'
  by_cases hkD : (k : Int) ∈ D
  ·rw [if_pos hkD] at n1; cases n1
  ·rw [if_neg hkD] at k5 n1
   obtain ⟨x, hx, hgx⟩ := mE.1 (h.runs k c h1 k5 n1)
   obtain ⟨j, hj⟩ := List.mem_iff_getElem?.1 hx
   have hi' := (List.getElem?_eq_some_iff.1 ht).1
   by_cases hij : i = j
   ·subst hij
    rw [ht] at hj; cases hj
    rw [hg] at hgx
    rcases List.mem_append.1 hgx with hgx | hgx
    ·exact mE.2 ⟨t', List.mem_of_getElem? (List.getElem?_set_self hi'), hgx⟩
    ·exact absurd hgx hkD
   ·exact mE.2 ⟨x, List.mem_of_getElem? (i := j) (by show (s.threads.set i t')[j]? = some x; rw [List.getElem?_set_ne hij]; exact hj), hgx⟩
theorem Ta {p : aI} {s : aC} {f : aK} {y : Int × Int} {v : Int × Int} (hw : Pwf p) (hp : checkF p = 0) (hv : fitsF s v = true) (hy : f.tries[f.tries.length - 1]? = some y) {low : Int} (h : onF p s low f = true) :
  onF p s low { f with tries := f.tries.take (f.tries.length - 1), pc := y.2, regs := f.regs.set y.1.toNat v } = true := by
 have hF := sW h
 obtain ⟨_, _, _, a4⟩ := vE hw hp hF
 have hT := (a4 _ y hy).2
 unfold onF at h ⊢
 simp only [Bool.and_eq_true] at h ⊢
 refine ⟨⟨⟨?_, h.1.1.2⟩, h.1.2⟩, h.2⟩
 unfold cR at hF ⊢
 simp only [Bool.and_eq_true, decide_eq_true_eq] at hF ⊢
 obtain ⟨⟨⟨⟨⟨⟨⟨b1, b2⟩, b3⟩, b4⟩, b5⟩, b6⟩, b7⟩, b8⟩ := hF
 refine ⟨⟨⟨⟨⟨⟨⟨b1, b2⟩, b3⟩, by rw [List.length_set]; exact b4⟩, ⟨hT.lo, by have := hT.hi; omega⟩⟩, hT.seen⟩, hT.out.symm⟩, List.all_eq_true.2 fun x hx => ?_⟩
 rcases List.mem_or_eq_of_mem_set hx with hx | rfl
 ·exact List.all_eq_true.1 b8 x hx
 ·exact hv
theorem xS {p : aI} {s : aC} : ∀ {fs : List aK} {k : Nat} {low : Int} {m : List aK}, fH p s k low (fs ++ m) → fH p s k low fs
 | [], _, _, _, _ => trivial
 | _ :: _, _, _, _, h => ⟨h.1, xS h.2⟩
theorem Og {p : aI} {s : aC} {th : Nat} {t : aJ} {v : Int × Int} (hw : Pwf p) (h : oP p s) (ht : s.threads[th]? = some t) (hn : t.frames.length ≠ 0) (hv : fitsF s v = true) : oP p (thrS s th t v) := by
 have hT := h.threads t (List.mem_of_getElem? ht)
 have h30 : t.frames.length ≤ 30 := by
  have := h.few
  unfold uW at this
  simp only [Bool.or_eq_false_iff, decide_eq_false_iff_not, List.any_eq_false, decide_eq_true_eq] at this
  have := this.2 t (List.mem_of_getElem? ht)
  omega
 have hval : t.val = (0, 0) := by
  have h1 := hT.1
  unfold jF at h1
  simp only [Bool.and_eq_true, Bool.or_eq_true, decide_eq_true_eq, beq_iff_eq] at h1
  obtain ⟨⟨⟨⟨h2, h3⟩, _⟩, _⟩, _⟩ := h1
  rcases h3 with h3 | h3
  ·rw [decide_eq_true h3] at h2
   have := h2.symm
   rw [decide_eq_true_eq] at this
   exact absurd this hn
  ·exact h3
 obtain ⟨j, D, h1, h2, h3, h4⟩ := Bt (v := v) (fs := t.frames) t.frames.length s.cells (Nat.le_refl _)
 rw [List.take_length] at h2
 have e : thrS s th t v = ⟨(unwF v t.frames t.frames.length s.cells).1, s.shapes, s.texts, s.threads.set th (thrT v t (unwF v t.frames t.frames.length s.cells)), s.ends, s.said, s.asked, s.steps⟩ := rfl
 rw [e]
 rcases h4 with ⟨rfl, h4⟩ | ⟨k, f, y, rfl, hf, hy, h4⟩
 ·have et : thrT v t (unwF v t.frames t.frames.length s.cells) = ⟨[], 4, 0, v⟩ := by unfold thrT; rw [h4]; rfl
  rw [et]
  exact zA h ht h3 (by rw [h2]; rfl) (by unfold jF; simp [hv]) trivial (by show 0 ≤ 30; omega)
 ·have et : thrT v t (unwF v t.frames t.frames.length s.cells) = ⟨t.frames.take k ++ [{ f with tries := f.tries.take (f.tries.length - 1), pc := y.2, regs := f.regs.set y.1.toNat v }], 0, 0, (0, 0)⟩ := by unfold thrT; rw [h4, ← hval]; rfl
  rw [et]
  have hk := (List.getElem?_eq_some_iff.1 hf).1
  have hlen : (t.frames.take k).length = k := by rw [List.length_take]; omega
  have hst : fH p s 0 0 (t.frames.take k ++ [f]) := by
   have h5 := hT.2
   rw [← List.take_append_drop (k + 1) t.frames] at h5
   have h6 := xS h5
   rw [List.take_add_one, hf] at h6
   exact h6
  have hset := yD (f := f) (f' := { f with tries := f.tries.take (f.tries.length - 1), pc := y.2, regs := f.regs.set y.1.toNat v }) (by rw [List.length_set]) (fun low => Ta hw h.prog hv hy) rfl (i := k) hst (by rw [List.getElem?_append_right (by omega), hlen, Nat.sub_self]; rfl)
  rw [List.set_append_right _ _ (by omega), hlen, Nat.sub_self] at hset
  refine zA h ht h3 ?_ ?_ hset ?_
  ·rw [h2, List.take_add_one, hf]
   show gensL (t.frames.take k ++ [f]) ++ D = _
   rw [uC, uC]
   exact congrArg (fun z => gensL (t.frames.take k) ++ z ++ D) (zK (f := f) (f' := { f with tries := f.tries.take (f.tries.length - 1), pc := y.2, regs := f.regs.set y.1.toNat v }) rfl (fs := [f]) (i := 0) rfl).symm
  ·have hz : fitsF s (0, 0) = true := by
    have := hT.1
    unfold jF at this
    simp only [Bool.and_eq_true] at this
    rw [← hval]; exact this.1.1.2
   unfold jF
   simp [hz]
  ·show (t.frames.take k ++ [_]).length ≤ 30
   rw [List.length_append, hlen]
   show k + 1 ≤ 30
   omega
theorem Oc {p : aI} {s : aC} {th : Nat} {t : aJ} {v : Int × Int} (h : oP p s) (ht : s.threads[th]? = some t) : (thrS s th t v).cells.length = s.cells.length ∧ ∀ (k : Nat) (c : aZ), s.cells[k]? = some c → ∃ c', (thrS s th t v).cells[k]? = some c' ∧ c'.kind = c.kind ∧ (c'.num = c.num ∨ c.kind = 5 ∧ c'.num = 2) := by
 have hT := h.threads t (List.mem_of_getElem? ht)
 obtain ⟨j, D, _, h2, h3, _⟩ := Bt (v := v) (fs := t.frames) t.frames.length s.cells (Nat.le_refl _)
 rw [List.take_length] at h2
 refine ⟨h3.1, fun k c hk => ⟨_, h3.2 k c hk, ?_, ?_⟩⟩
 ·split <;> rfl
 ·split
  ·rename_i hD
   obtain ⟨_, c', q1, q2, _⟩ := xJ hT.2 (g := (k : Int)) (by rw [h2]; exact List.mem_append_right _ hD)
   rw [show ((k : Int)).toNat = k by omega, hk] at q1
   cases q1
   exact .inr ⟨q2, rfl⟩
  ·exact .inl rfl
def Sl (args : List AV) (K : AV → Prop) : Prop := match args with
 | [.agg [.r (.rs 4 ca), .r (.rs 2 sh), .r (.rs 1 tx), .r (.rs 5 th), .r (.rs 3 en), .r (.rs 2 sd), .r (.v (.int .i64 aq)), .r (.v (.int .i64 sq))], .agg [.r (.rs 4 ca'), .r (.rs 2 sh'), .r (.rs 1 tx'), .r (.rs 5 th'), .r (.rs 3 en'), .r (.rs 2 sd'), .r (.v (.int .i64 aq')), .r (.v (.int .i64 sq'))]] =>
  (((ca = (cellsOf ca).map bA ∧ sh = (valsOf sh).map valR ∧ tx = (strsOf tx).map strR ∧ th = (threadsOf th).map aL ∧ en = (aH en).map endR ∧ sd = (valsOf sd).map valR) ∧ (ca' = (cellsOf ca').map bA ∧ sh' = (valsOf sh').map valR ∧ tx' = (strsOf tx').map strR ∧ th' = (threadsOf th').map aL ∧ en' = (aH en').map endR ∧ sd' = (valsOf sd').map valR)) ∧ Swf ⟨cellsOf ca, valsOf sh, strsOf tx, threadsOf th, aH en, valsOf sd, aq, sq⟩ ∧ Swf ⟨cellsOf ca', valsOf sh', strsOf tx', threadsOf th', aH en', valsOf sd', aq', sq'⟩) ∧ K (Bv (decide (⟨cellsOf ca, valsOf sh, strsOf tx, threadsOf th, aH en, valsOf sd, aq, sq⟩ = (⟨cellsOf ca', valsOf sh', strsOf tx', threadsOf th', aH en', valsOf sd', aq', sq'⟩ : aC))))
 | _ => False
attribute [go_sem] Sl
end Go.Proofs.YtbhnmolmkembdaaGreatDoor
namespace Go.Proofs.YtbhnmolmkembdaaGreatDoor.Sh
set_option linter.unusedVariables false
set_option linter.unusedSimpArgs false
set_option maxHeartbeats 10000000
open Go
set_option maxRecDepth 10000
end Go.Proofs.YtbhnmolmkembdaaGreatDoor.Sh
namespace Go.Proofs.YtbhnmolmkembdaaGreatDoor.Sh
set_option linter.unusedVariables false
set_option linter.unusedSimpArgs false
set_option maxHeartbeats 10000000
open Go
set_option maxRecDepth 10000
end Go.Proofs.YtbhnmolmkembdaaGreatDoor.Sh
namespace Go.Proofs.YtbhnmolmkembdaaGreatDoor.Sh
set_option linter.unusedVariables false
set_option linter.unusedSimpArgs false
set_option maxHeartbeats 10000000
open Go
set_option maxRecDepth 10000
section
variable {C : Ctx} {T : List (Ct C)} {r : List It} {st : St} {K : Exit → St → Prop} {A : St → Prop}
end
end Go.Proofs.YtbhnmolmkembdaaGreatDoor.Sh
namespace Go.Proofs.YtbhnmolmkembdaaGreatDoor.Sh
set_option linter.unusedVariables false
set_option linter.unusedSimpArgs false
set_option maxHeartbeats 10000000
open Go
set_option maxRecDepth 10000
end Go.Proofs.YtbhnmolmkembdaaGreatDoor.Sh
namespace Go.Proofs.YtbhnmolmkembdaaGreatDoor
set_option linter.unusedVariables false
set_option linter.unusedSimpArgs false
set_option maxHeartbeats 10000000
open Go
set_option maxRecDepth 10000
def aC3 (a b : aC) : Bool := decide (a = b)
def Oh (args : List AV) (K : AV → Prop) : Prop := match args with
 | [.agg [.r (.rs 4 ca), .r (.rs 2 sh), .r (.rs 1 tx), .r (.rs 5 th), .r (.rs 3 en), .r (.rs 2 sd), .r (.v (.int .i64 aq)), .r (.v (.int .i64 sq))], .agg [.r (.rs 4 ca'), .r (.rs 2 sh'), .r (.rs 1 tx'), .r (.rs 5 th'), .r (.rs 3 en'), .r (.rs 2 sd'), .r (.v (.int .i64 aq')), .r (.v (.int .i64 sq'))]] => (((ca = (cellsOf ca).map bA ∧ sh = (valsOf sh).map valR ∧ tx = (strsOf tx).map strR ∧ th = (threadsOf th).map aL ∧ en = (aH en).map endR ∧ sd = (valsOf sd).map valR) ∧ (ca' = (cellsOf ca').map bA ∧ sh' = (valsOf sh').map valR ∧ tx' = (strsOf tx').map strR ∧ th' = (threadsOf th').map aL ∧ en' = (aH en').map endR ∧ sd' = (valsOf sd').map valR)) ∧ Swf ⟨cellsOf ca, valsOf sh, strsOf tx, threadsOf th, aH en, valsOf sd, aq, sq⟩ ∧ Swf ⟨cellsOf ca', valsOf sh', strsOf tx', threadsOf th', aH en', valsOf sd', aq', sq'⟩) ∧ K (Bv (aC3 ⟨cellsOf ca, valsOf sh, strsOf tx, threadsOf th, aH en, valsOf sd, aq, sq⟩ ⟨cellsOf ca', valsOf sh', strsOf tx', threadsOf th', aH en', valsOf sd', aq', sq'⟩))
 | [.agg [.r (.rs 4 ca), .r (.rs 2 sh), .r (.rs 1 tx), .r (.rs 5 th), .r (.rs 3 en), .r (.rs 2 sd), .r (.v (.int .i64 aq)), .r (.v (.int .i64 sq))], .agg [.r (.v (.slice none 0 0)), .r (.v (.slice none 0 0)), .r (.v (.slice none 0 0)), .r (.v (.slice none 0 0)), .r (.v (.slice none 0 0)), .r (.v (.slice none 0 0)), .r (.v (.int .i64 aq')), .r (.v (.int .i64 sq'))]] => ((ca = (cellsOf ca).map bA ∧ sh = (valsOf sh).map valR ∧ tx = (strsOf tx).map strR ∧ th = (threadsOf th).map aL ∧ en = (aH en).map endR ∧ sd = (valsOf sd).map valR) ∧ Swf ⟨cellsOf ca, valsOf sh, strsOf tx, threadsOf th, aH en, valsOf sd, aq, sq⟩) ∧ K (Bv (aC3 ⟨cellsOf ca, valsOf sh, strsOf tx, threadsOf th, aH en, valsOf sd, aq, sq⟩ ⟨[], [], [], [], [], [], aq', sq'⟩))
 | _ => False
attribute [go_sem] Oh
section
variable {C : Ctx} {T : List (Ct C)} {r : List It} {st st' : St} {K : Exit → St → Prop}
end
theorem Rk {f : aK} {cs : List aZ} (h : ∀ c ∈ cs, Cwf c) : ∀ c ∈ killC f cs, Cwf c := by
 unfold killC
 split
 ·split
  ·rename_i c hc
   intro d hd
   rcases List.mem_or_eq_of_mem_set hd with hd | rfl
   ·exact h d hd
   ·obtain ⟨a1, a2, a3, a4⟩ := h c (List.mem_of_getElem? hc)
    exact ⟨a1, a2, a3, a4⟩
  ·exact h
 ·exact h
theorem Kb {v : Int × Int} {fs : List aK} (hf : ∀ f ∈ fs, Gwf f) (hl : fs.length ≤ 9223372036854775807) : ∀ (m : Nat) (cs : List aZ), m ≤ fs.length → (∀ c ∈ cs, Cwf c) → (unwF v fs m cs).1.length = cs.length ∧ (∀ c ∈ (unwF v fs m cs).1, Cwf c) ∧ (unwF v fs m cs).2.1.length ≤ 9223372036854775807 ∧ ∀ f ∈ (unwF v fs m cs).2.1, Gwf f
 | 0, cs, _, hc => ⟨rfl, hc, by simp [unwF], fun f h => by simp [unwF] at h⟩
 | m + 1, cs, hm, hc => by
  obtain ⟨f, hfm⟩ : ∃ f, fs[m]? = some f := ⟨fs[m]'(by omega), List.getElem?_eq_getElem _⟩
  have hg := hf f (List.mem_of_getElem? hfm)
  unfold unwF
  rw [hfm]
  dsimp only
  cases hy : f.tries[f.tries.length - 1]? with
  | none =>
   have := Kb (v := v) hf hl m (killC f cs) (by omega) (Rk hc)
   rw [tX] at this
   exact this
  | some y =>
   refine ⟨rfl, hc, by simp only [List.length_append, List.length_take, List.length_singleton]; omega, fun g hgm => ?_⟩
   rcases List.mem_append.1 hgm with h | h
   ·exact hf g (List.mem_of_mem_take h)
   ·simp at h; subst h
    exact ⟨by show (f.regs.set _ _).length ≤ _; rw [List.length_set]; exact hg.regs, by show (f.tries.take _).length ≤ _; rw [List.length_take]; have := hg.tries; omega, hg.gen⟩
theorem aAe {s : aC} {th : Nat} {t : aJ} {v : Int × Int} (hs : Swf s) (ht : s.threads[th]? = some t) : Swf (thrS s th t v) := by
 obtain ⟨⟨a1, a2, a3, a4, a5, a6⟩, b, c, d⟩ := hs
 obtain ⟨d1, d2⟩ := d t (List.mem_of_getElem? ht)
 obtain ⟨u1, u2, u3, u4⟩ := Kb (v := v) d2 d1 t.frames.length s.cells (Nat.le_refl _) c
 refine ⟨⟨by show (unwF _ _ _ _).1.length ≤ _; rw [u1]; exact a1, a2, a3, by show (s.threads.set th _).length ≤ _; rw [List.length_set]; exact a4, a5, a6⟩, b, u2, fun x hx => ?_⟩
 rcases List.mem_or_eq_of_mem_set hx with hx | rfl
 ·exact d x hx
 ·unfold thrT
  split
  ·exact ⟨u3, u4⟩
  ·exact ⟨u3, u4⟩
end Go.Proofs.YtbhnmolmkembdaaGreatDoor
