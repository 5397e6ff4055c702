/- GenYields: whatever is handed in, Yield answers what the document says. No condition. -/
import Derived.Test.YtbhnmolmkembdaaGreatDoorX7
import Derived.Test.YtbhnmolmkembdaaGreatDoorX8
namespace Go.Proofs.YtbhnmolmkembdaaGreatDoor
set_option linter.unusedVariables false
set_option linter.unusedSimpArgs false
set_option maxHeartbeats 10000000
open Go Go.ChangeShapes Go.WideShapes Go.ChangeAt Go.RowKit
set_option maxRecDepth 100000 in
theorem xW (os : Os) (started : os.Started) (H : Type) (enc : TypeId × Value → H) :
  ReturnsInHanded {} Tryz.checked os 9 .any (fun w args => (Rows.genYieldsSpec.pre enc Tryz.prog Tryz.f9 [] false w args ∧ laidMetH Tryz.prog Md w) ∧ sizedMet enc Tryz.prog Tryz.f9 (OpenSpec.ofChange Rows.genYieldsSpec) false w args)
   (Rows.genYieldsSpec.post enc Tryz.prog Tryz.f9 false true false false) := by
 refine returnsInHanded_of_change_and (C := Tryz.checked) (X := fun w _ => laidMetH Tryz.prog Md w) (fun _ _ _ hh h => h.of_heap hh) aNp started (by kernel_rfl) Tryz.func9
  (ChangeSpec.witness_shaped (enc := enc) (C := Tryz.checked) (os := os) (X := fun w _ => laidMetH Tryz.prog Md w) false (World.doorLaid Tryz.prog 400 os) #[.agg #[.slice none 0 0, .slice none 0 0, .slice none 0 0], .agg #[.slice none 0 0, .slice none 0 0, .slice none 0 0, .slice none 0 0, .slice none 0 0, .slice none 0 0, .int .i64 0, .int .i64 0], .int .i64 0, .agg #[.int .i64 0, .int .i64 0]] 8 rfl (World.shaped_of_RefB (by kernel_rfl) (by kernel_rfl)) (by kernel_rfl) (by kernel_rfl) (by kernel_rfl) (Zp os _)) ?_
 intro W base args ds gs before hval hW _ hwt hL _
 obtain ⟨p, q, hA, hV, hpq, hfz, hnd⟩ := id hW
 obtain rfl : gs = [] := by
  cases gs with
  | nil => rfl
  | cons a b => exact hV.elim
 obtain ⟨hG, hgs⟩ := Dp hL
 obtain ⟨rows, h1, h2, h3, h4, h5⟩ := Ew (fun _ => 0) gh0 hA (Ni hwt) (by kernel_rfl) (fun j t v ht hv => hval j t v (by simpa using ht) (by simpa using hv))
 rw [Tryz.params9] at h1 h2 h3 h4 h5
 match rows, h1 with
 | [r0, r1, r2, r3], _ =>
  obtain ⟨p, rfl, hw_p⟩ := aFj (h4 0 _ r0 rfl rfl)
  obtain ⟨s, rfl, hw_s⟩ := Uk (h4 1 _ r1 rfl rfl)
  obtain ⟨th, rfl, hw_th⟩ := cS (h4 2 _ r2 rfl rfl) Tryz.underlying3
  obtain ⟨k, n, rfl⟩ := Wb (h4 3 _ r3 rfl rfl)
  refine aD1 (C := Cx) (avs := [bQ p, aO s, Iv th, VV k n]) aWg (by kernel_rfl) rfl (by kernel_rfl) Tryz.underlying4 ?_ hW ?_ hG hgs ⟨by simpa using h2, fun j x y hx hy => ?_⟩ rfl ?_
  ·intro ds hds
   have : ds.length = 4 := hds
   match ds, this with
   | [d0, d1, d2, d3], _ => rfl
  ·exact h3
  ·match j with
   | 0 => simp at hx; subst hx; exact h5 0 _ _ y rfl rfl (by simpa using hy)
   | 1 => simp at hx; subst hx; exact h5 1 _ _ y rfl rfl (by simpa using hy)
   | 2 => simp at hx; subst hx; exact h5 2 _ _ y rfl rfl (by simpa using hy)
   | 3 => simp at hx; subst hx; exact h5 3 _ _ y rfl rfl (by simpa using hy)
   | j + 4 => simp at hx
  ·exact Lk p s th (k, n) hw_p hw_s.1 hw_s.2
theorem Ab : Rows.GenYieldsSaid :=
 OpenClaim.holds_of_wide 9 Tryz.f9 rfl rfl rfl rfl rfl rfl rfl ⟨rfl, rfl, rfl, rfl, rfl⟩ rfl rfl rfl rfl rfl (by as_aux_lemma => kernel_rfl) Tryz.func9 (by as_aux_lemma => kernel_rfl)
  (of_decide_eq_true (by as_aux_lemma => kernel_rfl)) (by unfold Func.isWrapper; first | (rw [if_pos (by decide +kernel)]; kernel_rfl) | (rw [if_neg (by decide +kernel)]; exact ⟨rfl, rfl⟩))
  (fun os started H enc _ => xW os started H enc)
theorem genYields_holds : Rows.GenYieldsCardSaid :=
 Claim7.holds_tied_plain_at .later [] Rows.genYieldsCard.laidKinds true Rows.genYieldsCard.stood.harness false
  Ab (fun _ h => by cases h) (by kernel_rfl) (fun _ h => by cases h) genYields_row_tie rfl ⟨rfl, rfl⟩ (by kernel_rfl) rfl
  (fun f fn hf hfn => by
   obtain rfl : f = 9 := Option.some.inj ((show Tryz.prog.funcNamed Tryz.f9.name = some 9 by kernel_rfl).symm.trans hf) |>.symm
   obtain rfl : fn = Tryz.f9 := (Option.some.inj (Tryz.func9.symm.trans hfn)).symm
   exact ⟨by kernel_rfl, fun j t ht => by
    have hall : (Tryz.f9.params.toList.all fun u => !Tryz.prog.wantsStandIn u) = true := by kernel_rfl
    have hm : t ∈ Tryz.f9.params.toList := by simpa using Array.mem_of_getElem? ht
    exact (show Tryz.prog.wantsStandIn t = false by simpa using List.all_eq_true.1 hall t hm)⟩)
  (by kernel_rfl)
end Go.Proofs.YtbhnmolmkembdaaGreatDoor
