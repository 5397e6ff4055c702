/- What a function may have caught; orders, in their place. No condition: contracts of the program's functions. -/
import Derived.Test.YtjbhpoolghfhiaaDoorCd3
namespace Go.Proofs.YtjbhpoolghfhiaaDoor
set_option linter.unusedVariables false
set_option linter.unusedSimpArgs false
set_option maxHeartbeats 10000000
open Go
set_option maxRecDepth 10000



abbrev lookR' (p : ProgT) (f : FnT) : List RV := [.rs 5 (p.fns.map fnR), .rs 2 (p.consts.map valR), .rs 1 (p.texts.map strR), .v (.int .i64 f.params), .v (.int .i64 f.regs), .v (.bool f.gen), .rs 1 (f.caught.map intR), .rs 5 (f.code.map insR)]

theorem idxfInt_c (l : List Int) (f : Nat) (caps : List RV) (dom : AV → Prop) (pv : AV → Bool) (h : ∀ y, dom y → CallOk Cx f (y :: caps.map AV.r) (Bv (pv y))) (hd : ∀ x ∈ l, dom (intA x)) (hl : l.length ≤ 9223372036854775807) :
    FC Cx 86 [intsV l, .r (.fn f caps)] [] (Iv (fidx (fun x => pv (intA x)) l)) [] := by
  have hlen : (l.map intR).length = l.length := List.length_map ..
  refine FCp_of [ctF f caps dom pv h] Tryd.func86 rfl Tryd.ntmps86 (by simp) Tryd.results86 rfl ?_
  apply Rn_st; (intro K0; simp only [go_sem]; exact ⟨id⟩)
  (any_goals refine go lv86 0 ?_)
  repeat' (first | (refine Br.go (fun h h' => ?_) (fun h h' => ?_)) | (refine Br.mk (fun h => ?_) (fun h => ?_)))
  refine Rn_loopT [0, 1, 7, 8] (fun i => i ≤ l.length ∧ ∀ j x, j < i → l[j]? = some x → pv (intA x) = false) (fun (i : Nat) => ⟨19, [(0, intsV l), (1, .r (.fn f caps)), (7, Iv l.length), (8, Iv i)], []⟩) (fun i => l.length - i) 0 rfl (by rw [← hlen]; rfl) rfl ⟨Nat.zero_le _, fun j x hj => by omega⟩ ?_
  rintro i ⟨hi, hno⟩
  by_cases hlt : i < l.length
  · obtain ⟨x, hx⟩ : ∃ x, l[i]? = some x := ⟨l[i], List.getElem?_eq_getElem hlt⟩
    have hg := getD_map intR hx ([] : List RV)
    have hdx := hd x (List.mem_of_getElem? hx)
    have hw : IntKind.i64.wrap ((i : Int) + 1) = ((i + 1 : Nat) : Int) := by rw [wrap_id] <;> omega
    have h1 : decide ((i : Int) < (l.length : Int)) = true := by rw [decide_eq_true_eq]; omega
    have h2 : Int.toNat (i : Int) = i := by omega
    cases hp : pv (intA x) with
    | true =>
      (any_goals refine go lv86 0 ?_)
      repeat' (first | (refine Br.go (fun h h' => ?_) (fun h h' => ?_)) | (refine Br.mk (fun h => ?_) (fun h => ?_)))
      all_goals (try simp only [go_sem])
      rw [fidx_hit hx hp fun j y hj hy => hno j y hj hy]
    | false =>
      (any_goals refine go lv86 0 ?_)
      repeat' (first | (refine Br.go (fun h h' => ?_) (fun h h' => ?_)) | (refine Br.mk (fun h => ?_) (fun h => ?_)))
      all_goals (try simp only [go_sem])
      refine ⟨i + 1, ⟨by omega, fun j y hj hy => ?_⟩, by omega, Le_keep [0, 1, 7, 8] rfl rfl rfl⟩
      rcases Nat.lt_succ_iff_lt_or_eq.1 hj with h3 | h3
      · exact hno j y h3 hy
      · subst h3; rw [hx] at hy; cases hy; exact hp
  · have h1 : decide ((i : Int) < (l.length : Int)) = false := by rw [decide_eq_false_iff_not]; omega
    (any_goals refine go lv86 0 ?_)
    repeat' (first | (refine Br.go (fun h h' => ?_) (fun h h' => ?_)) | (refine Br.mk (fun h => ?_) (fun h => ?_)))
    all_goals (try simp only [go_sem])
    rw [fidx_none fun j y hy => hno j y (by have := (List.getElem?_eq_some_iff.1 hy).1; omega) hy]
theorem anyInt_c (l : List Int) (f : Nat) (caps : List RV) (dom : AV → Prop) (pv : AV → Bool) (h : ∀ y, dom y → CallOk Cx f (y :: caps.map AV.r) (Bv (pv y))) (hd : ∀ x ∈ l, dom (intA x)) (hl : l.length ≤ 9223372036854775807) :
    FC Cx 84 [intsV l, .r (.fn f caps)] [] (Bv (l.any fun x => pv (intA x))) [] := by
  have hA : ∀ y, y = [intsV l, .r (.fn f caps)] → CallOk Cx 86 y (Iv (fidx (fun x => pv (intA x)) l)) := fun y hy => by
    subst hy; exact CallOk_of (idxfInt_c l f caps dom pv h hd hl) en86 rfl rfl
  refine FCp_of [ctE 86 [intsV l, .r (.fn f caps)] (Iv (fidx (fun x => pv (intA x)) l)) hA] Tryd.func84 rfl Tryd.ntmps84 (by simp) Tryd.results84 rfl ?_
  apply Rn_st; (intro K0; simp only [go_sem]; exact ⟨id⟩)
  (any_goals refine go lv84 0 ?_)
  repeat' (first | (refine Br.go (fun h h' => ?_) (fun h h' => ?_)) | (refine Br.mk (fun h => ?_) (fun h => ?_)))
  all_goals (try simp only [go_sem])
  all_goals (try rw [fidx_any])


/-- Is it something that a function may not have caught? -/
def cauF (f : FnT) (c : Int) : Bool := !wiF c 0 (f.regs - 1) && !wiF c (-(f.caught.length : Int)) (-1)

theorem cau_c (p : ProgT) (f : FnT) (c : Int) (h : Fok f) : FC Cx 85 [Iv c, .r (.rp (lookR' p f))] [] (Bv (cauF f c)) [] := by
  have hl : (f.caught.map intR).length = f.caught.length := List.length_map ..
  have hw : IntKind.i64.wrap (0 - (f.caught.length : Int)) = -(f.caught.length : Int) := by have := h.caught; rw [wrap_id] <;> omega
  have hw' : IntKind.i64.wrap (-(f.caught.length : Int)) = -(f.caught.length : Int) := by have := h.caught; rw [wrap_id] <;> omega
  refine FCp_of [ct_cwithin, ct_reg'] Tryd.func85 rfl Tryd.ntmps85 (by simp) Tryd.results85 rfl ?_
  apply Rn_st; (intro K0; simp only [go_sem]; exact ⟨id⟩)
  (any_goals refine go lv85 0 ?_)
  repeat' (first | (refine Br.go (fun h h' => ?_) (fun h h' => ?_)) | (refine Br.mk (fun h => ?_) (fun h => ?_)))
  all_goals (try simp only [go_sem])
  all_goals (first | rfl | (simp_all [cauF]; done) | trace_state)

/-- What a number stands for. -/
def numV : AV → Int
  | .r (.v (.int _ n)) => n
  | _ => 0

def caughtF (f g : FnT) : Bool := !(g.caught.any (cauF f))

theorem caught_c (p : ProgT) (f g : FnT) (h : Fok f) (hg : g.caught.length ≤ 9223372036854775807) : FC Cx 79 [lookA p f, fnA g] [] (Bv (caughtF f g)) [] := by
  have hA : ∀ y, y = [intsV g.caught, .r (.fn 85 [.rp (lookR' p f)])] → CallOk Cx 84 y (Bv (g.caught.any (cauF f))) := fun y hy => by
    subst hy
    refine CallOk_of (anyInt_c g.caught _ [.rp (lookR' p f)] (fun y => ∃ c, y = intA c) (fun y => cauF f (numV y)) ?_ (fun x _ => ⟨x, rfl⟩) hg) en84 rfl rfl
    rintro _ ⟨c, rfl⟩
    exact CallOk_of (cau_c p f c h) en85 rfl rfl
  refine FCp_of [ctE 84 [intsV g.caught, .r (.fn 85 [.rp (lookR' p f)])] (Bv (g.caught.any (cauF f))) hA] Tryd.func79 rfl Tryd.ntmps79 (by simp) Tryd.results79 rfl ?_
  apply Rn_st; (intro K0; simp only [go_sem]; exact ⟨id⟩)
  refine goR (L := []) (n := 0) ?_
  (apply Rn_frzB 2; (exact rfl); (exact rfl); (exact rfl); (intro K0; (try simp only [go_sem]); exact ⟨id⟩))
  (apply Rn_frzB 3; (exact rfl); (exact rfl); (exact rfl); (intro K0; (try simp only [go_sem]); exact ⟨id⟩))
  (any_goals refine go lv79 0 ?_)
  repeat' (first | (refine Br.go (fun h h' => ?_) (fun h h' => ?_)) | (refine Br.mk (fun h => ?_) (fun h => ?_)))
  all_goals (try simp only [go_sem])
  all_goals (first | rfl | trace_state)
theorem caught'_c (xs ys zs : List (List RV)) (pa rg : Int) (ge : Bool) (us vs : List (List RV)) (pa' rg' : Int) (ge' : Bool) (us' vs' : List (List RV)) (h : ((xs = (fnsOf xs).map fnR ∧ ys = (valsOf ys).map valR ∧ zs = (strsOf zs).map strR) ∧ us = (intsOf us).map intR ∧ vs = (inssOf vs).map insR) ∧ (us' = (intsOf us').map intR ∧ vs' = (inssOf vs').map insR) ∧ Fok ⟨pa, rg, ge, intsOf us, inssOf vs⟩ ∧ us'.length ≤ 9223372036854775807) : FC Cx 79 [.agg [.r (.rs 5 xs), .r (.rs 2 ys), .r (.rs 1 zs), Iv pa, Iv rg, Bv ge, .r (.rs 1 us), .r (.rs 5 vs)], .agg [Iv pa', Iv rg', Bv ge', .r (.rs 1 us'), .r (.rs 5 vs')]] [] (Bv (caughtF ⟨pa, rg, ge, intsOf us, inssOf vs⟩ ⟨pa', rg', ge', intsOf us', inssOf vs'⟩)) [] := by
  have := caught_c ⟨fnsOf xs, valsOf ys, strsOf zs⟩ ⟨pa, rg, ge, intsOf us, inssOf vs⟩ ⟨pa', rg', ge', intsOf us', inssOf vs'⟩ h.2.2.1 (by simpa [intsOf] using h.2.2.2)
  rwa [look_at h.1, fn_at h.2.1] at this

end Go.Proofs.YtjbhpoolghfhiaaDoor
