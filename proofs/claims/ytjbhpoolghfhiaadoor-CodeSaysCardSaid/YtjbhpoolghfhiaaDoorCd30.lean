/- The document's orderRight at Make, and all of it. No condition: contracts of the document's functions. -/
import Derived.Test.YtjbhpoolghfhiaaDoorCd29
namespace Go.Proofs.YtjbhpoolghfhiaaDoor
set_option linter.unusedVariables false
set_option linter.unusedSimpArgs false
set_option maxHeartbeats 10000000
open Go
set_option maxRecDepth 10000



/-- Is what is to be caught a register or something caught? -/
def dcau (f : FnT) (c : Int) : Bool := decide (f.regs ≤ c) || decide (c < -(f.caught.length : Int))

theorem or26_c (p : ProgT) (f : FnT) (n op a b c line : Int) (hf : Fok f) (hp : Psz p) (hE : (decide (dformF op = ⟨#[]⟩) || !decide (0 ≤ line ∧ line ≤ 2000)) = false) (hs : (dformF op).size = 3) (wm : ∀ ch, IntKind.i64.wrap (mostF p f ch - 1) = mostF p f ch - 1) (k0 : (!decide (0 ≤ a ∧ a ≤ mostF p f (((dformF op).data.toList.getD 0 0).toNat : Int) - 1)) = false) (m0 : (decide ((((dformF op).data.toList.getD 0 0).toNat : Int) = 102) && decide (a = 0)) = false) (k1 : (!decide (0 ≤ b ∧ b ≤ mostF p f (((dformF op).data.toList.getD 1 0).toNat : Int) - 1)) = false) (m1 : (decide ((((dformF op).data.toList.getD 1 0).toNat : Int) = 102) && decide (b = 0)) = false) (k2 : (!decide (0 ≤ c ∧ c ≤ mostF p f (((dformF op).data.toList.getD 2 0).toNat : Int) - 1)) = false) (m2 : (decide ((((dformF op).data.toList.getD 2 0).toNat : Int) = 102) && decide (c = 0)) = false) (o1 : decide (op = 14) = false) (o2 : decide (op = 19) = false) (o3 : decide (op = 27) = false) (o4 : decide (op = 32) = false) (o5 : decide (op = 26) = true) (g : FnT) (hg : p.fns[b.toNat]? = some g) (hb : 0 ≤ b) (hgc : g.caught.length ≤ 9223372036854775807) : FC Cx 52 [progV p, fnA f, Iv n, insA ⟨op, a, b, c, line⟩] [] (Bv (!(g.caught.any (dcau f)))) [] := by
  have s0 : (0 : Int) < ((dformF op).size : Int) := by rw [hs]; omega
  have s1 : (1 : Int) < ((dformF op).size : Int) := by rw [hs]; omega
  have s2 : (2 : Int) < ((dformF op).size : Int) := by rw [hs]; omega
  have k1' : (!decide (b ≤ mostF p f (((dformF op).data.toList.getD 1 0).toNat : Int) - 1)) = false := by simp only [hb, true_and] at k1; exact k1
  have hl : (p.fns.map fnR).length = p.fns.length := List.length_map ..
  have hgd := getD_map fnR hg ([] : List RV)
  have hlt : b < (p.fns.length : Int) := by have := (List.getElem?_eq_some_iff.1 hg).1; omega
  have hlc : (g.caught.map intR).length = g.caught.length := List.length_map ..
  have hlf : (f.caught.map intR).length = f.caught.length := List.length_map ..
  refine FCp_of [ct_dform, ct_most', ct_rBetween] Tryd.func52 rfl Tryd.ntmps52 (by simp) Tryd.results52 rfl ?_
  apply Rn_st; (intro K0; simp only [go_sem]; exact ⟨id⟩)
  refine goR (L := []) (n := 0) ?_
  (apply Rn_frzB 4; (exact rfl); (exact rfl); (exact rfl); (intro K0; (try simp only [go_sem]); exact ⟨id⟩))
  (apply Rn_frzB 5; (exact rfl); (exact rfl); (exact rfl); (intro K0; (try simp only [go_sem]); exact ⟨id⟩))
  (apply Rn_frzB 7; (exact rfl); (exact rfl); (exact rfl); (intro K0; (try simp only [go_sem]); exact ⟨id⟩))
  (any_goals refine go (dropL 21 lv52) 3 ?_)
  repeat' (first | (refine Br.go (fun h h' => ?_) (fun h h' => ?_)) | (refine Br.mk (fun h => ?_) (fun h => ?_)))
  (any_goals refine go lv52 0 ?_)
  repeat' (first | (refine Br.go (fun h h' => ?_) (fun h h' => ?_)) | (refine Br.mk (fun h => ?_) (fun h => ?_)))
  refine Rn_loopR [5, 99, 100, 101] (fun i => i ≤ g.caught.length ∧ ∀ j x, j < i → g.caught[j]? = some x → dcau f x = false)
    (fun (i : Nat) => ⟨118, [(5, .r (.rp (fnR f))), (99, intsV g.caught), (100, Iv g.caught.length), (101, Iv i)], [(4, 2, .gone), (5, 2, .gone), (7, 2, .gone)]⟩) (fun i => g.caught.length - i) 0 rfl rfl ⟨rfl, .inl ⟨rfl, rfl⟩, rfl, .inl ⟨rfl, rfl⟩, rfl, .inl ⟨rfl, rfl⟩, trivial⟩ ⟨Nat.zero_le _, fun j x hj => by omega⟩ ?_
  rintro i ⟨hi, hno⟩
  by_cases hlt' : i < g.caught.length
  · obtain ⟨x, hx⟩ : ∃ x, g.caught[i]? = some x := ⟨g.caught[i], List.getElem?_eq_getElem hlt'⟩
    have hgx := getD_map intR hx ([] : List RV)
    have hw : IntKind.i64.wrap ((i : Int) + 1) = ((i + 1 : Nat) : Int) := by rw [wrap_id] <;> omega
    have h1 : decide ((i : Int) < (g.caught.length : Int)) = true := by rw [decide_eq_true_eq]; omega
    have h2 : Int.toNat (i : Int) = i := by omega
    have hn1 : IntKind.i64.wrap (0 - (f.caught.length : Int)) = -(f.caught.length : Int) := by have := hf.caught; rw [wrap_id] <;> omega
    have hn2 : IntKind.i64.wrap (-(f.caught.length : Int)) = -(f.caught.length : Int) := by have := hf.caught; rw [wrap_id] <;> omega
    cases hp : dcau f x with
    | true =>
      have hp' : (decide (f.regs ≤ x) || decide (x < -(f.caught.length : Int))) = true := hp
      have hany : g.caught.any (dcau f) = true := List.any_eq_true.2 ⟨x, List.mem_of_getElem? hx, hp⟩
      clear hp
      (any_goals refine go lv52 0 ?_)
      repeat' (first | (refine Br.go (fun h h' => ?_) (fun h h' => ?_)) | (refine Br.mk (fun h => ?_) (fun h => ?_)))
      all_goals (try simp only [go_sem])
      rw [hany]; rfl
    | false =>
      have hp' : (decide (f.regs ≤ x) || decide (x < -(f.caught.length : Int))) = false := hp
      clear hp
      (any_goals refine go lv52 0 ?_)
      repeat' (first | (refine Br.go (fun h h' => ?_) (fun h h' => ?_)) | (refine Br.mk (fun h => ?_) (fun h => ?_)))
      all_goals (try simp only [go_sem])
      refine ⟨i + 1, ⟨by omega, fun j y hj hy => ?_⟩, by omega, Le_keepR [5, 99, 100, 101] rfl rfl ⟨rfl, .inl ⟨rfl, rfl⟩, rfl, .inl ⟨rfl, rfl⟩, rfl, .inl ⟨rfl, rfl⟩, trivial⟩⟩
      rcases Nat.lt_succ_iff_lt_or_eq.1 hj with h3 | h3
      · exact hno j y h3 hy
      · subst h3; rw [hx] at hy; cases hy; exact hp'
  · have h1 : decide ((i : Int) < (g.caught.length : Int)) = false := by rw [decide_eq_false_iff_not]; omega
    have hany : g.caught.any (dcau f) = false := List.any_eq_false.2 fun x hx => by
      obtain ⟨j, hj, rfl⟩ := List.getElem_of_mem hx
      have := hno j _ (by omega) (List.getElem?_eq_getElem hj)
      rw [this]; simp
    (any_goals refine go lv52 0 ?_)
    repeat' (first | (refine Br.go (fun h h' => ?_) (fun h h' => ?_)) | (refine Br.mk (fun h => ?_) (fun h => ?_)))
    all_goals (try simp only [go_sem])
    rw [hany]; rfl

end Go.Proofs.YtjbhpoolghfhiaaDoor
