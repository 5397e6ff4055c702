/- Whether a program is too large; its texts and constants; whether it may be run. No condition: contracts of the program's functions. -/
import Derived.Test.YtjbhpoolghfhiaaDoorCd12
import Derived.Test.YtjbhpoolghfhiaaDoorRt1
import Derived.Test.YtjbhpoolghfhiaaDoorWd1
import Derived.StringKeys
namespace Go.Proofs.YtjbhpoolghfhiaaDoor
set_option linter.unusedVariables false
set_option linter.unusedSimpArgs false
set_option maxHeartbeats 10000000
open Go
set_option maxRecDepth 10000


theorem idxfFn_c (l : List FnT) (f : Nat) (caps : List RV) (dom : AV → Prop) (pv : AV → Bool) (h : ∀ y, dom y → CallOk Cx f (y :: caps.map AV.r) (Bv (pv y))) (hd : ∀ x ∈ l, dom (fnA x)) (hl : l.length ≤ 9223372036854775807) :
    FC Cx 68 [fnsV l, .r (.fn f caps)] [] (Iv (fidx (fun x => pv (fnA x)) l)) [] := by
  have hlen : (l.map fnR).length = l.length := List.length_map ..
  refine FCp_of [ctF f caps dom pv h] Tryd.func68 rfl Tryd.ntmps68 (by simp) Tryd.results68 rfl ?_
  apply Rn_st; (intro K0; simp only [go_sem]; exact ⟨id⟩)
  (any_goals refine go lv68 0 ?_)
  repeat' (first | (refine Br.go (fun h h' => ?_) (fun h h' => ?_)) | (refine Br.mk (fun h => ?_) (fun h => ?_)))
  refine Rn_loopT [0, 1, 7, 8] (fun i => i ≤ l.length ∧ ∀ j x, j < i → l[j]? = some x → pv (fnA x) = false) (fun (i : Nat) => ⟨19, [(0, fnsV l), (1, .r (.fn f caps)), (7, Iv l.length), (8, Iv i)], []⟩) (fun i => l.length - i) 0 rfl (by rw [← hlen]; rfl) rfl ⟨Nat.zero_le _, fun j x hj => by omega⟩ ?_
  rintro i ⟨hi, hno⟩
  by_cases hlt : i < l.length
  · obtain ⟨x, hx⟩ : ∃ x, l[i]? = some x := ⟨l[i], List.getElem?_eq_getElem hlt⟩
    have hg := getD_map fnR hx ([] : List RV)
    have hdx := hd x (List.mem_of_getElem? hx)
    have hw : IntKind.i64.wrap ((i : Int) + 1) = ((i + 1 : Nat) : Int) := by rw [wrap_id] <;> omega
    have h1 : decide ((i : Int) < (l.length : Int)) = true := by rw [decide_eq_true_eq]; omega
    have h2 : Int.toNat (i : Int) = i := by omega
    cases hp : pv (fnA x) with
    | true =>
      (any_goals refine go lv68 0 ?_)
      repeat' (first | (refine Br.go (fun h h' => ?_) (fun h h' => ?_)) | (refine Br.mk (fun h => ?_) (fun h => ?_)))
      all_goals (try simp only [go_sem])
      rw [fidx_hit hx hp fun j y hj hy => hno j y hj hy]
    | false =>
      (any_goals refine go lv68 0 ?_)
      repeat' (first | (refine Br.go (fun h h' => ?_) (fun h h' => ?_)) | (refine Br.mk (fun h => ?_) (fun h => ?_)))
      all_goals (try simp only [go_sem])
      refine ⟨i + 1, ⟨by omega, fun j y hj hy => ?_⟩, by omega, Le_keep [0, 1, 7, 8] rfl rfl rfl⟩
      rcases Nat.lt_succ_iff_lt_or_eq.1 hj with h3 | h3
      · exact hno j y h3 hy
      · subst h3; rw [hx] at hy; cases hy; exact hp
  · have h1 : decide ((i : Int) < (l.length : Int)) = false := by rw [decide_eq_false_iff_not]; omega
    (any_goals refine go lv68 0 ?_)
    repeat' (first | (refine Br.go (fun h h' => ?_) (fun h h' => ?_)) | (refine Br.mk (fun h => ?_) (fun h => ?_)))
    all_goals (try simp only [go_sem])
    rw [fidx_none fun j y hy => hno j y (by have := (List.getElem?_eq_some_iff.1 hy).1; omega) hy]
theorem anyFn_c (l : List FnT) (f : Nat) (caps : List RV) (dom : AV → Prop) (pv : AV → Bool) (h : ∀ y, dom y → CallOk Cx f (y :: caps.map AV.r) (Bv (pv y))) (hd : ∀ x ∈ l, dom (fnA x)) (hl : l.length ≤ 9223372036854775807) :
    FC Cx 49 [fnsV l, .r (.fn f caps)] [] (Bv (l.any fun x => pv (fnA x))) [] := by
  have hA : ∀ y, y = [fnsV l, .r (.fn f caps)] → CallOk Cx 68 y (Iv (fidx (fun x => pv (fnA x)) l)) := fun y hy => by
    subst hy; exact CallOk_of (idxfFn_c l f caps dom pv h hd hl) en68 rfl rfl
  refine FCp_of [ctE 68 [fnsV l, .r (.fn f caps)] (Iv (fidx (fun x => pv (fnA x)) l)) hA] Tryd.func49 rfl Tryd.ntmps49 (by simp) Tryd.results49 rfl ?_
  apply Rn_st; (intro K0; simp only [go_sem]; exact ⟨id⟩)
  (any_goals refine go lv49 0 ?_)
  repeat' (first | (refine Br.go (fun h h' => ?_) (fun h h' => ?_)) | (refine Br.mk (fun h => ?_) (fun h => ?_)))
  all_goals (try simp only [go_sem])
  all_goals (try rw [fidx_any])

theorem idxfVal_c (l : List (Int × Int)) (f : Nat) (caps : List RV) (dom : AV → Prop) (pv : AV → Bool) (h : ∀ y, dom y → CallOk Cx f (y :: caps.map AV.r) (Bv (pv y))) (hd : ∀ x ∈ l, dom (valA x)) (hl : l.length ≤ 9223372036854775807) :
    FC Cx 74 [valsV l, .r (.fn f caps)] [] (Iv (fidx (fun x => pv (valA x)) l)) [] := by
  have hlen : (l.map valR).length = l.length := List.length_map ..
  refine FCp_of [ctF f caps dom pv h] Tryd.func74 rfl Tryd.ntmps74 (by simp) Tryd.results74 rfl ?_
  apply Rn_st; (intro K0; simp only [go_sem]; exact ⟨id⟩)
  (any_goals refine go lv74 0 ?_)
  repeat' (first | (refine Br.go (fun h h' => ?_) (fun h h' => ?_)) | (refine Br.mk (fun h => ?_) (fun h => ?_)))
  refine Rn_loopT [0, 1, 7, 8] (fun i => i ≤ l.length ∧ ∀ j x, j < i → l[j]? = some x → pv (valA x) = false) (fun (i : Nat) => ⟨19, [(0, valsV l), (1, .r (.fn f caps)), (7, Iv l.length), (8, Iv i)], []⟩) (fun i => l.length - i) 0 rfl (by rw [← hlen]; rfl) rfl ⟨Nat.zero_le _, fun j x hj => by omega⟩ ?_
  rintro i ⟨hi, hno⟩
  by_cases hlt : i < l.length
  · obtain ⟨x, hx⟩ : ∃ x, l[i]? = some x := ⟨l[i], List.getElem?_eq_getElem hlt⟩
    have hg := getD_map valR hx ([] : List RV)
    have hdx := hd x (List.mem_of_getElem? hx)
    have hw : IntKind.i64.wrap ((i : Int) + 1) = ((i + 1 : Nat) : Int) := by rw [wrap_id] <;> omega
    have h1 : decide ((i : Int) < (l.length : Int)) = true := by rw [decide_eq_true_eq]; omega
    have h2 : Int.toNat (i : Int) = i := by omega
    cases hp : pv (valA x) with
    | true =>
      (any_goals refine go lv74 0 ?_)
      repeat' (first | (refine Br.go (fun h h' => ?_) (fun h h' => ?_)) | (refine Br.mk (fun h => ?_) (fun h => ?_)))
      all_goals (try simp only [go_sem])
      rw [fidx_hit hx hp fun j y hj hy => hno j y hj hy]
    | false =>
      (any_goals refine go lv74 0 ?_)
      repeat' (first | (refine Br.go (fun h h' => ?_) (fun h h' => ?_)) | (refine Br.mk (fun h => ?_) (fun h => ?_)))
      all_goals (try simp only [go_sem])
      refine ⟨i + 1, ⟨by omega, fun j y hj hy => ?_⟩, by omega, Le_keep [0, 1, 7, 8] rfl rfl rfl⟩
      rcases Nat.lt_succ_iff_lt_or_eq.1 hj with h3 | h3
      · exact hno j y h3 hy
      · subst h3; rw [hx] at hy; cases hy; exact hp
  · have h1 : decide ((i : Int) < (l.length : Int)) = false := by rw [decide_eq_false_iff_not]; omega
    (any_goals refine go lv74 0 ?_)
    repeat' (first | (refine Br.go (fun h h' => ?_) (fun h h' => ?_)) | (refine Br.mk (fun h => ?_) (fun h => ?_)))
    all_goals (try simp only [go_sem])
    rw [fidx_none fun j y hy => hno j y (by have := (List.getElem?_eq_some_iff.1 hy).1; omega) hy]
theorem anyVal_c (l : List (Int × Int)) (f : Nat) (caps : List RV) (dom : AV → Prop) (pv : AV → Bool) (h : ∀ y, dom y → CallOk Cx f (y :: caps.map AV.r) (Bv (pv y))) (hd : ∀ x ∈ l, dom (valA x)) (hl : l.length ≤ 9223372036854775807) :
    FC Cx 66 [valsV l, .r (.fn f caps)] [] (Bv (l.any fun x => pv (valA x))) [] := by
  have hA : ∀ y, y = [valsV l, .r (.fn f caps)] → CallOk Cx 74 y (Iv (fidx (fun x => pv (valA x)) l)) := fun y hy => by
    subst hy; exact CallOk_of (idxfVal_c l f caps dom pv h hd hl) en74 rfl rfl
  refine FCp_of [ctE 74 [valsV l, .r (.fn f caps)] (Iv (fidx (fun x => pv (valA x)) l)) hA] Tryd.func66 rfl Tryd.ntmps66 (by simp) Tryd.results66 rfl ?_
  apply Rn_st; (intro K0; simp only [go_sem]; exact ⟨id⟩)
  (any_goals refine go lv66 0 ?_)
  repeat' (first | (refine Br.go (fun h h' => ?_) (fun h h' => ?_)) | (refine Br.mk (fun h => ?_) (fun h => ?_)))
  all_goals (try simp only [go_sem])
  all_goals (try rw [fidx_any])


def bigS (s : ByteArray) : Bool := decide ((200 : Int) < (s.size : Int))
def bigF (f : FnT) : Bool := decide ((600 : Int) < (f.code.length : Int)) || decide (60 < f.regs)
theorem large1_c (s : ByteArray) : FC Cx 64 [Sv s] [] (Bv (bigS s)) [] := by
  refine FCp_of [] Tryd.func64 rfl Tryd.ntmps64 (by simp) Tryd.results64 rfl ?_
  apply Rn_st; (intro K0; simp only [go_sem]; exact ⟨id⟩)
  (any_goals refine go lv64 0 ?_)
  repeat' (first | (refine Br.go (fun h h' => ?_) (fun h h' => ?_)) | (refine Br.mk (fun h => ?_) (fun h => ?_)))
  all_goals (try simp only [go_sem])
  all_goals rfl
theorem large2_c (f : FnT) : FC Cx 65 [fnA f] [] (Bv (bigF f)) [] := by
  have l0 : (f.code.map insR).length = f.code.length := List.length_map ..
  refine FCp_of [] Tryd.func65 rfl Tryd.ntmps65 (by simp) Tryd.results65 rfl ?_
  apply Rn_st; (intro K0; simp only [go_sem]; exact ⟨id⟩)
  refine goR (L := []) (n := 0) ?_
  (apply Rn_frzB 1; (exact rfl); (exact rfl); (exact rfl); (intro K0; (try simp only [go_sem]); exact ⟨id⟩))
  (any_goals refine go lv65 0 ?_)
  repeat' (first | (refine Br.go (fun h h' => ?_) (fun h h' => ?_)) | (refine Br.mk (fun h => ?_) (fun h => ?_)))
  all_goals (try simp only [go_sem])
  all_goals rfl

/-- What stands for a string; for a function. -/
def strV : AV → ByteArray
  | .r (.v (.string s)) => s
  | _ => ⟨#[]⟩
def fnV : AV → FnT
  | .agg [.r (.v (.int _ p)), .r (.v (.int _ g)), .r (.v (.bool b)), .r (.rs _ cs), .r (.rs _ is)] => ⟨p, g, b, intsOf cs, inssOf is⟩
  | _ => fn0
def valV : AV → Int × Int
  | .agg [.r (.v (.int _ k)), .r (.v (.int _ n))] => (k, n)
  | _ => (0, 0)
theorem fnV_at (f : FnT) : fnV (fnA f) = f := by
  show (⟨f.params, f.regs, f.gen, intsOf (f.caught.map intR), inssOf (f.code.map insR)⟩ : FnT) = f
  rw [intsOf_map, inssOf_map]

def largeF (p : ProgT) : Bool := decide ((60 : Int) < (p.fns.length : Int)) || decide ((200 : Int) < (p.consts.length : Int)) || decide ((200 : Int) < (p.texts.length : Int)) || p.texts.any bigS || p.fns.any bigF

theorem large_c (p : ProgT) (hp : Psz p) : FC Cx 47 [progV p] [] (Bv (largeF p)) [] := by
  have l1 : (p.fns.map fnR).length = p.fns.length := List.length_map ..
  have l2 : (p.consts.map valR).length = p.consts.length := List.length_map ..
  have l3 : (p.texts.map strR).length = p.texts.length := List.length_map ..
  have hA : ∀ y, y = [strsV p.texts, .r (.fn 64 [])] → CallOk Cx 63 y (Bv (p.texts.any bigS)) := fun y hy => by
    subst hy
    refine CallOk_of (anyStr_c p.texts _ [] (fun y => ∃ s, y = strA s) (fun y => bigS (strV y)) ?_ (fun x _ => ⟨x, rfl⟩) hp.texts) en63 rfl rfl
    rintro _ ⟨s, rfl⟩
    exact CallOk_of (large1_c s) en64 rfl rfl
  have hB : ∀ y, y = [fnsV p.fns, .r (.fn 65 [])] → CallOk Cx 49 y (Bv (p.fns.any bigF)) := fun y hy => by
    subst hy
    have := CallOk_of (anyFn_c p.fns 65 [] (fun y => ∃ s, y = fnA s) (fun y => bigF (fnV y)) (by
      rintro _ ⟨s, rfl⟩
      rw [fnV_at]
      exact CallOk_of (large2_c s) en65 rfl rfl) (fun x _ => ⟨x, rfl⟩) hp.fns) en49 rfl rfl
    simpa only [fnV_at] using this
  refine FCp_of [ctE 63 [strsV p.texts, .r (.fn 64 [])] (Bv (p.texts.any bigS)) hA, ctE 49 [fnsV p.fns, .r (.fn 65 [])] (Bv (p.fns.any bigF)) hB] Tryd.func47 rfl Tryd.ntmps47 (by simp) Tryd.results47 rfl ?_
  apply Rn_st; (intro K0; simp only [go_sem]; exact ⟨id⟩)
  refine goR (L := []) (n := 0) ?_
  (apply Rn_frzB 1; (exact rfl); (exact rfl); (exact rfl); (intro K0; (try simp only [go_sem]); exact ⟨id⟩))
  (any_goals refine go lv47 0 ?_)
  repeat' (first | (refine Br.go (fun h h' => ?_) (fun h h' => ?_)) | (refine Br.mk (fun h => ?_) (fun h => ?_)))
  all_goals (try simp only [go_sem])
  all_goals (first | rfl | trace_state)
theorem large'_c (xs ys zs : List (List RV)) (h : (xs = (fnsOf xs).map fnR ∧ ys = (valsOf ys).map valR ∧ zs = (strsOf zs).map strR) ∧ Psz ⟨fnsOf xs, valsOf ys, strsOf zs⟩) : FC Cx 47 [.agg [.r (.rs 5 xs), .r (.rs 2 ys), .r (.rs 1 zs)]] [] (Bv (largeF ⟨fnsOf xs, valsOf ys, strsOf zs⟩)) [] := by
  have := large_c ⟨fnsOf xs, valsOf ys, strsOf zs⟩ h.2
  rwa [prog_at h.1] at this
/-- How calls of this function are met. -/
def sp_large' (args : List AV) (K : AV → Prop) : Prop := match args with
  | [.agg [.r (.rs 5 xs), .r (.rs 2 ys), .r (.rs 1 zs)]] => ((xs = (fnsOf xs).map fnR ∧ ys = (valsOf ys).map valR ∧ zs = (strsOf zs).map strR) ∧ Psz ⟨fnsOf xs, valsOf ys, strsOf zs⟩) ∧ K (Bv (largeF ⟨fnsOf xs, valsOf ys, strsOf zs⟩))
  | _ => False
theorem sp_large'_ok (args : List AV) (K : AV → Prop) (h : sp_large' args K) : ∃ r, CallOk Cx 47 args r ∧ K r := by
  unfold sp_large' at h
  split at h
  · exact ⟨_, CallOk_of (large'_c _ _ _ h.1) en47 rfl rfl, h.2⟩
  · exact h.elim
noncomputable def ct_large' : Ct Cx := .pure 47 sp_large' sp_large'_ok
@[go_sem] theorem ct_large'_g : ct_large'.g = 47 := rfl
@[go_sem] theorem ct_large'_run (c : Call) (fop : Operand) (caps : List RV) (o : Oper) (st : St) (K : List Loc → List (Loc × Cont) → Prop) : ct_large'.run c fop caps o st K = callT Cx sp_large' c fop caps o st K := rfl
@[go_sem] theorem sp_large'_eq (args : List AV) (K : AV → Prop) : sp_large' args K = (match args with
    | [.agg [.r (.rs 5 xs), .r (.rs 2 ys), .r (.rs 1 zs)]] => ((xs = (fnsOf xs).map fnR ∧ ys = (valsOf ys).map valR ∧ zs = (strsOf zs).map strR) ∧ Psz ⟨fnsOf xs, valsOf ys, strsOf zs⟩) ∧ K (Bv (largeF ⟨fnsOf xs, valsOf ys, strsOf zs⟩))
    | _ => False) := rfl

/-- A constant that may not be. -/
def badV (p : ProgT) (v : Int × Int) : Bool := !rightF v.1 v.2 || decide (v.1 = 5) || (decide (v.1 = 4) && decide ((p.texts.length : Int) ≤ v.2))
theorem tables1_c (p : ProgT) (v : Int × Int) : FC Cx 67 [valA v, .r (.rp (progR p))] [] (Bv (badV p v)) [] := by
  have l3 : (p.texts.map strR).length = p.texts.length := List.length_map ..
  refine FCp_of [ct_right] Tryd.func67 rfl Tryd.ntmps67 (by simp) Tryd.results67 rfl ?_
  apply Rn_st; (intro K0; simp only [go_sem]; exact ⟨id⟩)
  refine goR (L := []) (n := 0) ?_
  (apply Rn_frzB 2; (exact rfl); (exact rfl); (exact rfl); (intro K0; (try simp only [go_sem]); exact ⟨id⟩))
  (any_goals refine go lv67 0 ?_)
  repeat' (first | (refine Br.go (fun h h' => ?_) (fun h h' => ?_)) | (refine Br.mk (fun h => ?_) (fun h => ?_)))
  all_goals (try simp only [go_sem])
  all_goals (simp [badV, h'])

end Go.Proofs.YtjbhpoolghfhiaaDoor
