/- GenResumes: whatever is handed in, Resume answers what the document says. No condition. -/
import Derived.Test.YtbhnmolmkembdaaGreatDoorY7
import Derived.Test.YtbhnmolmkembdaaGreatDoorY8
namespace Go.Proofs.YtbhnmolmkembdaaGreatDoor
set_option linter.unusedVariables false
set_option linter.unusedSimpArgs false
set_option maxHeartbeats 10000000
open Go Go.ChangeShapes Go.WideShapes Go.ChangeAt Go.RowKit
set_option maxRecDepth 100000 in
theorem xM (os : Os) (started : os.Started) (H : Type) (enc : TypeId × Value → H) :
  ReturnsInHanded {} Tryz.checked os 10 .any (fun w args => (Rows.genResumesSpec.pre enc Tryz.prog Tryz.f10 [] false w args ∧ laidMetH Tryz.prog Jw w) ∧ sizedMet enc Tryz.prog Tryz.f10 (OpenSpec.ofChange Rows.genResumesSpec) false w args)
   (Rows.genResumesSpec.post enc Tryz.prog Tryz.f10 false true false false) := by
 refine returnsInHanded_of_change_and (C := Tryz.checked) (X := fun w _ => laidMetH Tryz.prog Jw w) (fun _ _ _ hh h => h.of_heap hh) aLo started (by kernel_rfl) Tryz.func10
  (ChangeSpec.witness_shaped (enc := enc) (C := Tryz.checked) (os := os) (X := fun w _ => laidMetH Tryz.prog Jw w) false (World.doorLaid Tryz.prog 400 os) #[.agg #[.slice none 0 0, .slice none 0 0, .slice none 0 0], .agg #[.slice none 0 0, .slice none 0 0, .slice none 0 0, .slice none 0 0, .slice none 0 0, .slice none 0 0, .int .i64 0, .int .i64 0], .int .i64 0, .agg #[.int .i64 0, .int .i64 0], .agg #[.int .i64 0, .int .i64 0], .int .i64 0] 8 rfl (World.shaped_of_RefB (by kernel_rfl) (by kernel_rfl)) (by kernel_rfl) (by kernel_rfl) (by kernel_rfl) (Xw os _)) ?_
 intro W base args ds gs before hval hW _ hwt hL _
 obtain ⟨p, q, hA, hV, hpq, hfz, hnd⟩ := id hW
 obtain rfl : gs = [] := by
  cases gs with
  | nil => rfl
  | cons a b => exact hV.elim
 obtain ⟨hG, hgs⟩ := Di hL
 obtain ⟨rows, h1, h2, h3, h4, h5⟩ := Fk (fun _ => 0) gh0 hA (Ow hwt) (by kernel_rfl) (fun j t v ht hv => hval j t v (by simpa using ht) (by simpa using hv))
 rw [Tryz.params10] at h1 h2 h3 h4 h5
 match rows, h1 with
 | [r0, r1, r2, r3, r4, r5], _ =>
  obtain ⟨p, rfl, hw_p⟩ := aG4 (h4 0 _ r0 rfl rfl)
  obtain ⟨s, rfl, hw_s⟩ := Vq (h4 1 _ r1 rfl rfl)
  obtain ⟨th, rfl, hw_th⟩ := cS (h4 2 _ r2 rfl rfl) Tryz.underlying3
  obtain ⟨gk, gn, rfl⟩ := Pr (h4 3 _ r3 rfl rfl)
  obtain ⟨k, n, rfl⟩ := Pr (h4 4 _ r4 rfl rfl)
  obtain ⟨rg, rfl, hw_rg⟩ := cS (h4 5 _ r5 rfl rfl) Tryz.underlying3
  refine aF8 (C := Cx) (avs := [bC p, aH s, Iv th, VV gk gn, VV k n, Iv rg]) aRr (by kernel_rfl) rfl (by kernel_rfl) Tryz.underlying4 ?_ hW ?_ hG hgs ⟨by simpa using h2, fun j x y hx hy => ?_⟩ rfl ?_
  ·intro ds hds
   have : ds.length = 6 := hds
   match ds, this with
   | [d0, d1, d2, d3, d4, d5], _ => rfl
  ·exact h3
  ·match j with
   | 0 => simp at hx; subst hx; exact h5 0 _ _ y rfl rfl (by simpa using hy)
   | 1 => simp at hx; subst hx; exact h5 1 _ _ y rfl rfl (by simpa using hy)
   | 2 => simp at hx; subst hx; exact h5 2 _ _ y rfl rfl (by simpa using hy)
   | 3 => simp at hx; subst hx; exact h5 3 _ _ y rfl rfl (by simpa using hy)
   | 4 => simp at hx; subst hx; exact h5 4 _ _ y rfl rfl (by simpa using hy)
   | 5 => simp at hx; subst hx; exact h5 5 _ _ y rfl rfl (by simpa using hy)
   | j + 6 => simp at hx
  ·exact Fy p s th (gk, gn) (k, n) rg hw_p hw_s.1 hw_s.2
theorem zO : Rows.GenResumesSaid :=
 OpenClaim.holds_of_wide 10 Tryz.f10 rfl rfl rfl rfl rfl rfl rfl ⟨rfl, rfl, rfl, rfl, rfl⟩ rfl rfl rfl rfl rfl (by as_aux_lemma => kernel_rfl) Tryz.func10 (by as_aux_lemma => kernel_rfl)
  (of_decide_eq_true (by as_aux_lemma => kernel_rfl)) (by unfold Func.isWrapper; first | (rw [if_pos (by decide +kernel)]; kernel_rfl) | (rw [if_neg (by decide +kernel)]; exact ⟨rfl, rfl⟩))
  (fun os started H enc _ => xM os started H enc)
theorem genResumes_holds : Rows.GenResumesCardSaid :=
 Claim7.holds_tied_plain_at .later [] Rows.genResumesCard.laidKinds true Rows.genResumesCard.stood.harness false
  zO (fun _ h => by cases h) (by kernel_rfl) (fun _ h => by cases h) genResumes_row_tie rfl ⟨rfl, rfl⟩ (by kernel_rfl) rfl
  (fun f fn hf hfn => by
   obtain rfl : f = 10 := Option.some.inj ((show Tryz.prog.funcNamed Tryz.f10.name = some 10 by kernel_rfl).symm.trans hf) |>.symm
   obtain rfl : fn = Tryz.f10 := (Option.some.inj (Tryz.func10.symm.trans hfn)).symm
   exact ⟨by kernel_rfl, fun j t ht => by
    have hall : (Tryz.f10.params.toList.all fun u => !Tryz.prog.wantsStandIn u) = true := by kernel_rfl
    have hm : t ∈ Tryz.f10.params.toList := by simpa using Array.mem_of_getElem? ht
    exact (show Tryz.prog.wantsStandIn t = false by simpa using List.all_eq_true.1 hall t hm)⟩)
  (by kernel_rfl)
end Go.Proofs.YtbhnmolmkembdaaGreatDoor
