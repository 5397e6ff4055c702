/- The document's names of shapes. No condition: contracts. -/
import Derived.Test.YtjbhpoolghfhiaaSh14
namespace Go.Proofs.Ytjbhpoolghfhiaa
set_option linter.unusedVariables false
set_option linter.unusedSimpArgs false
set_option maxHeartbeats 10000000
open Go
set_option maxRecDepth 10000

theorem Ups_le {l : List (Int × Int)} {s t : Int} (h : Ups l s) (ht : t ≤ s) : Ups l t := fun k p hp h0 hk => h k p hp h0 (by omega)

theorem namesR_fuelB (l : List (Int × Int)) : ∀ (n m : Nat) (s : Int), Ups l s → s.toNat ≤ n → s.toNat ≤ m → namesR l n s = namesR l m s
  | 0, m, s, _, h1, _ => by
    have h0 : ¬ 0 < s := by omega
    cases m with
    | zero => rfl
    | succ m => unfold namesR; rw [if_neg h0]
  | n + 1, 0, s, _, h1, h2 => by
    have h0 : ¬ 0 < s := by omega
    unfold namesR; rw [if_neg h0]
  | n + 1, m + 1, s, hu, h1, h2 => by
    unfold namesR
    by_cases h0 : 0 < s
    · rw [if_pos h0, if_pos h0]
      cases hp : l[s.toNat]? with
      | none => rfl
      | some p =>
        have := hu _ p hp (by omega) (by omega)
        exact congrArg (p.2 :: ·) (namesR_fuelB l n m p.1 (Ups_le hu (by omega)) (by omega) (by omega))
    · rw [if_neg h0, if_neg h0]

theorem namesL_upB {l : List (Int × Int)} {k : Nat} {p : Int × Int} (hp : l[k + 1]? = some p) (hu : Ups l ((k + 1 : Nat) : Int)) : namesL l ((k + 1 : Nat) : Int) = namesL l p.1 ++ [p.2] := by
  have hk := (List.getElem?_eq_some_iff.1 hp).1
  have hup := hu (k + 1) _ hp (by omega) (Int.le_refl _)
  unfold namesL
  obtain ⟨n, hn⟩ : ∃ n, l.length = n + 1 := ⟨l.length - 1, by omega⟩
  have e1 : namesR l l.length ((k + 1 : Nat) : Int) = p.2 :: namesR l n p.1 := by
    rw [hn]
    show (if 0 < ((k + 1 : Nat) : Int) then (match l[((k + 1 : Nat) : Int).toNat]? with | some p => p.2 :: namesR l n p.1 | none => []) else []) = _
    rw [if_pos (by omega), show (((k + 1 : Nat) : Int)).toNat = k + 1 by omega, hp]
  rw [e1, List.reverse_cons, namesR_fuelB l n l.length p.1 (Ups_le hu (by omega)) (by omega) (by omega)]

theorem refN_c (l : List (Int × Int)) (hl : l.length ≤ 1000) : ∀ n : Nat, Ups l n → ∀ z : Int, z.toNat ≤ n → z < l.length → FC Cx 17 [shapesV l, Iv z] [] (.os 0 1) [(0, 1, .sl 3 1 ((namesL l z).map intA))]
  | 0, hu, z, h1, h2 => by
    rw [namesL_root l z (by omega)]
    exact refN_0 l z (by rw [decide_eq_true_eq]; omega)
  | n + 1, hu, z, h1, h2 => by
    by_cases h0 : z ≤ 0
    · rw [namesL_root l z h0]
      exact refN_0 l z (by rw [decide_eq_true_eq]; omega)
    · obtain ⟨k, rfl⟩ : ∃ k : Nat, z = ((k + 1 : Nat) : Int) := ⟨z.toNat - 1, by omega⟩
      have hp : l[k + 1]? = some (l[k + 1]'(by omega)) := List.getElem?_eq_getElem (by omega)
      generalize l[k + 1]'(by omega) = p at hp
      have huk : Ups l ((k + 1 : Nat) : Int) := Ups_le hu (by omega)
      have hup := huk (k + 1) p hp (by omega) (Int.le_refl _)
      rw [namesL_upB hp huk]
      have ih := refN_c l hl n (Ups_le hu (by omega))
      refine refN_1 l n k p hp hl (by omega) (by omega)
        (.res 17 (sp_refN l n) en17 fun st d args K h => ?_) rfl (fun _ _ _ _ _ _ => rfl) (namesL_len l p.1) (by rw [decide_eq_false_iff_not]; omega) (fun l => List.length_map ..) (List.length_map ..) (fun l n => by rw [List.map_append]; rfl) (by omega) (getD_map shapeR hp []) (by omega)
      unfold sp_refN at h
      split at h
      · rename_i xs z
        obtain ⟨⟨rfl, h3, h4⟩, h5⟩ := h
        exact ⟨_, _, _, CallR.own (ih z h3 h4) rfl (flatI _) rfl d, h5⟩
      · exact h.elim

theorem refNames_c (xs : List (List RV)) (z : Int) (h : xs = (shapesOf xs).map shapeR ∧ xs.length ≤ 1000 ∧ Ups (shapesOf xs) z ∧ z < xs.length) : FC Cx 17 [.r (.rs 2 xs), Iv z] [] (intsV (namesL (shapesOf xs) z)) [] := by
  have hl : (shapesOf xs).length = xs.length := by simp [shapesOf]
  have h1 : FC Cx 17 [shapesV (shapesOf xs), Iv z] [] (.os 0 1) [(0, 1, .sl 3 1 ((namesL (shapesOf xs) z).map intA))] := by
    by_cases h0 : z ≤ 0
    · rw [namesL_root _ z h0]; exact refN_0 _ z (by rw [decide_eq_true_eq]; omega)
    · exact refN_c _ (by omega) z.toNat (Ups_le h.2.2.1 (by omega)) z (Nat.le_refl _) (by omega)
  rw [shapes_at h.1] at h1
  exact h1.freeze1 (roI _).symm
/-- How calls of this function are met. -/
def sp_refNames (args : List AV) (K : AV → Prop) : Prop := match args with
  | [.r (.rs 2 xs), .r (.v (.int .i64 z))] => (xs = (shapesOf xs).map shapeR ∧ xs.length ≤ 1000 ∧ Ups (shapesOf xs) z ∧ z < xs.length) ∧ K (intsV (namesL (shapesOf xs) z))
  | _ => False
theorem sp_refNames_ok (args : List AV) (K : AV → Prop) (h : sp_refNames args K) : ∃ r, CallOk Cx 17 args r ∧ K r := by
  unfold sp_refNames at h
  split at h
  · exact ⟨_, CallOk_of (refNames_c _ _ h.1) en17 rfl rfl, h.2⟩
  · exact h.elim
noncomputable def ct_refNames : Ct Cx := .pure 17 sp_refNames sp_refNames_ok
@[go_sem] theorem ct_refNames_g : ct_refNames.g = 17 := rfl
@[go_sem] theorem ct_refNames_run (c : Call) (fop : Operand) (caps : List RV) (o : Oper) (st : St) (K : List Loc → List (Loc × Cont) → Prop) : ct_refNames.run c fop caps o st K = callT Cx sp_refNames c fop caps o st K := rfl
@[go_sem] theorem sp_refNames_eq (args : List AV) (K : AV → Prop) : sp_refNames args K = (match args with
    | [.r (.rs 2 xs), .r (.v (.int .i64 z))] => (xs = (shapesOf xs).map shapeR ∧ xs.length ≤ 1000 ∧ Ups (shapesOf xs) z ∧ z < xs.length) ∧ K (intsV (namesL (shapesOf xs) z))
    | _ => False) := rfl

end Go.Proofs.Ytjbhpoolghfhiaa
