/- What programs are told by; the library's searches by a function. No condition: definitions, contracts. -/
import Derived.Test.YtjbhpoolghfhiaaDoorLb1
namespace Go.Proofs.YtjbhpoolghfhiaaDoor
set_option linter.unusedVariables false
set_option linter.unusedSimpArgs false
set_option maxHeartbeats 10000000
open Go
set_option maxRecDepth 10000

structure InsT where
  op : Int
  a : Int
  b : Int
  c : Int
  line : Int
  deriving DecidableEq
structure FnT where
  params : Int
  regs : Int
  gen : Bool
  caught : List Int
  code : List InsT
structure ProgT where
  fns : List FnT
  consts : List (Int × Int)
  texts : List ByteArray

abbrev intR (n : Int) : List RV := [.v (.int .i64 n)]
abbrev intsV (l : List Int) : AV := .r (.rs 1 (l.map intR))
abbrev valR (p : Int × Int) : List RV := [.v (.int .i64 p.1), .v (.int .i64 p.2)]
abbrev valsV (l : List (Int × Int)) : AV := .r (.rs 2 (l.map valR))
abbrev valA (p : Int × Int) : AV := .agg [Iv p.1, Iv p.2]
abbrev strA (s : ByteArray) : AV := .r (.v (.string s))
abbrev intA (n : Int) : AV := .r (.v (.int .i64 n))
abbrev insR (i : InsT) : List RV := [.v (.int .i64 i.op), .v (.int .i64 i.a), .v (.int .i64 i.b), .v (.int .i64 i.c), .v (.int .i64 i.line)]
abbrev insA (i : InsT) : AV := .agg [Iv i.op, Iv i.a, Iv i.b, Iv i.c, Iv i.line]
abbrev inssV (l : List InsT) : AV := .r (.rs 5 (l.map insR))
abbrev fnR (f : FnT) : List RV := [.v (.int .i64 f.params), .v (.int .i64 f.regs), .v (.bool f.gen), .rs 1 (f.caught.map intR), .rs 5 (f.code.map insR)]
abbrev fnA (f : FnT) : AV := .agg [Iv f.params, Iv f.regs, Bv f.gen, intsV f.caught, inssV f.code]
abbrev fnsV (l : List FnT) : AV := .r (.rs 5 (l.map fnR))
abbrev progR (p : ProgT) : List RV := [.rs 5 (p.fns.map fnR), .rs 2 (p.consts.map valR), .rs 1 (p.texts.map strR)]
abbrev progV (p : ProgT) : AV := .agg [fnsV p.fns, valsV p.consts, strsV p.texts]

def intsOf (xs : List (List RV)) : List Int := xs.map fun r => match r with | [.v (.int _ n)] => n | _ => 0
def valsOf (xs : List (List RV)) : List (Int × Int) := xs.map fun r => match r with | [.v (.int _ n), .v (.int _ m)] => (n, m) | _ => (0, 0)
def inssOf (xs : List (List RV)) : List InsT := xs.map fun r => match r with | [.v (.int _ o), .v (.int _ a), .v (.int _ b), .v (.int _ c), .v (.int _ l)] => ⟨o, a, b, c, l⟩ | _ => ⟨0, 0, 0, 0, 0⟩
def fnsOf (xs : List (List RV)) : List FnT := xs.map fun r => match r with | [.v (.int _ p), .v (.int _ g), .v (.bool b), .rs _ cs, .rs _ is] => ⟨p, g, b, intsOf cs, inssOf is⟩ | _ => ⟨0, 0, false, [], []⟩

@[go_sem] theorem intsOf_map (l : List Int) : intsOf (l.map intR) = l := by
  unfold intsOf; rw [List.map_map]; conv => rhs; rw [← List.map_id l]
  exact List.map_congr_left fun x _ => rfl
@[go_sem] theorem valsOf_map (l : List (Int × Int)) : valsOf (l.map valR) = l := by
  unfold valsOf; rw [List.map_map]; conv => rhs; rw [← List.map_id l]
  exact List.map_congr_left fun x _ => rfl
@[go_sem] theorem inssOf_map (l : List InsT) : inssOf (l.map insR) = l := by
  unfold inssOf; rw [List.map_map]; conv => rhs; rw [← List.map_id l]
  exact List.map_congr_left fun x _ => rfl
@[go_sem] theorem fnsOf_map (l : List FnT) : fnsOf (l.map fnR) = l := by
  unfold fnsOf; rw [List.map_map]; conv => rhs; rw [← List.map_id l]
  refine List.map_congr_left fun x _ => ?_
  show (⟨x.params, x.regs, x.gen, intsOf (x.caught.map intR), inssOf (x.code.map insR)⟩ : FnT) = x
  rw [intsOf_map, inssOf_map]
theorem intsOf_at {xs : List (List RV)} (h : xs = (intsOf xs).map intR) : intsV (intsOf xs) = .r (.rs 1 xs) := congrArg (fun z => AV.r (RV.rs 1 z)) h.symm
theorem valsOf_at {xs : List (List RV)} (h : xs = (valsOf xs).map valR) : valsV (valsOf xs) = .r (.rs 2 xs) := congrArg (fun z => AV.r (RV.rs 2 z)) h.symm
theorem inssOf_at {xs : List (List RV)} (h : xs = (inssOf xs).map insR) : inssV (inssOf xs) = .r (.rs 5 xs) := congrArg (fun z => AV.r (RV.rs 5 z)) h.symm
theorem fnsOf_at {xs : List (List RV)} (h : xs = (fnsOf xs).map fnR) : fnsV (fnsOf xs) = .r (.rs 5 xs) := congrArg (fun z => AV.r (RV.rs 5 z)) h.symm
@[go_sem] theorem fn_eta (f : FnT) : FnT.mk f.params f.regs f.gen f.caught f.code = f := rfl
@[go_sem] theorem ins_eta (i : InsT) : InsT.mk i.op i.a i.b i.c i.line = i := rfl
@[go_sem] theorem prog_eta (p : ProgT) : ProgT.mk p.fns p.consts p.texts = p := rfl
@[go_sem] theorem val_eta (p : Int × Int) : (p.1, p.2) = p := rfl

/-- Where a function first tells true; -1: nowhere. -/
def fidx {α : Type} (p : α → Bool) : List α → Int
  | [] => -1
  | x :: l => if p x = true then 0 else if fidx p l < 0 then -1 else fidx p l + 1
theorem fidx_ge {α : Type} (p : α → Bool) : ∀ l : List α, -1 ≤ fidx p l
  | [] => by simp [fidx]
  | x :: l => by
    have := fidx_ge p l
    unfold fidx; split
    · omega
    · split <;> omega
theorem fidx_hit {α : Type} {p : α → Bool} {x : α} : ∀ {l : List α} {i : Nat}, l[i]? = some x → p x = true → (∀ j y, j < i → l[j]? = some y → p y = false) → fidx p l = i
  | y :: l, 0, h, hp, _ => by simp at h; subst h; simp [fidx, hp]
  | y :: l, i + 1, h, hp, hno => by
    have h0 := hno 0 y (by omega) rfl
    have ih := fidx_hit (l := l) (i := i) (by simpa using h) hp fun j z hj hz => hno (j + 1) z (by omega) (by simpa using hz)
    unfold fidx
    rw [h0, if_neg (by simp), ih, if_neg (by omega)]
    omega
theorem fidx_none {α : Type} {p : α → Bool} : ∀ {l : List α}, (∀ (j : Nat) y, l[j]? = some y → p y = false) → fidx p l = -1
  | [], _ => rfl
  | y :: l, h => by
    have ih := fidx_none (p := p) (l := l) fun j z hz => h (j + 1) z (by simpa using hz)
    unfold fidx
    rw [h 0 y rfl, if_neg (by simp), ih]; rfl
theorem fidx_any {α : Type} (p : α → Bool) : ∀ l : List α, decide (fidx p l ≥ 0) = l.any p
  | [] => rfl
  | x :: l => by
    have ih := fidx_any p l
    have hge := fidx_ge p l
    unfold fidx
    cases hp : p x with
    | true => simp [hp]
    | false =>
      rw [if_neg (by simp), List.any_cons, hp, Bool.false_or, ← ih]
      by_cases h : fidx p l < 0
      · rw [if_pos h, decide_eq_false (by omega), decide_eq_false (by omega)]
      · rw [if_neg h, decide_eq_true (by omega), decide_eq_true (by omega)]
@[go_sem] theorem fidx_any' {α : Type} (p : α → Bool) (l : List α) : decide (0 ≤ fidx p l) = l.any p := fidx_any p l

/-- How calls of a function value are met, of which it is known what it tells of each thing that it may be asked. -/
def spF (caps : List RV) (dom : AV → Prop) (pv : AV → Bool) (args : List AV) (K : AV → Prop) : Prop := match args with
  | y :: ys => (dom y ∧ ys = caps.map .r) ∧ K (Bv (pv y))
  | [] => False
theorem spF_ok {C : Ctx} {f : Nat} {caps : List RV} {dom : AV → Prop} {pv : AV → Bool} (h : ∀ y, dom y → CallOk C f (y :: caps.map AV.r) (Bv (pv y))) (args : List AV) (K : AV → Prop) (hs : spF caps dom pv args K) : ∃ r, CallOk C f args r ∧ K r := by
  unfold spF at hs
  split at hs
  · obtain ⟨⟨h1, rfl⟩, h2⟩ := hs
    exact ⟨_, h _ h1, h2⟩
  · exact hs.elim
noncomputable def ctF {C : Ctx} (f : Nat) (caps : List RV) (dom : AV → Prop) (pv : AV → Bool) (h : ∀ y, dom y → CallOk C f (y :: caps.map AV.r) (Bv (pv y))) : Ct C := .pure f (spF caps dom pv) (spF_ok h)
@[go_sem] theorem ctF_g {C : Ctx} (f : Nat) (caps : List RV) (dom : AV → Prop) (pv : AV → Bool) (h : ∀ y, dom y → CallOk C f (y :: caps.map AV.r) (Bv (pv y))) : (ctF f caps dom pv h).g = f := rfl
@[go_sem] theorem ctF_run {C : Ctx} (f : Nat) (caps : List RV) (dom : AV → Prop) (pv : AV → Bool) (h : ∀ y, dom y → CallOk C f (y :: caps.map AV.r) (Bv (pv y))) (c : Call) (fop : Operand) (cs : List RV) (o : Oper) (st : St) (K : List Loc → List (Loc × Cont) → Prop) : (ctF f caps dom pv h).run c fop cs o st K = callT C (spF caps dom pv) c fop cs o st K := rfl
@[go_sem] theorem spF_eq (caps : List RV) (dom : AV → Prop) (pv : AV → Bool) (y : AV) (ys : List AV) (K : AV → Prop) : spF caps dom pv (y :: ys) K = ((dom y ∧ ys = caps.map .r) ∧ K (Bv (pv y))) := rfl

/-- How just such a call is met. -/
def spE (args : List AV) (r : AV) (args' : List AV) (K : AV → Prop) : Prop := args' = args ∧ K r
theorem spE_ok {C : Ctx} {f : Nat} {args : List AV} {r : AV} (h : ∀ y, y = args → CallOk C f y r) (args' : List AV) (K : AV → Prop) (hs : spE args r args' K) : ∃ r, CallOk C f args' r ∧ K r := ⟨r, h _ hs.1, hs.2⟩
noncomputable def ctE {C : Ctx} (f : Nat) (args : List AV) (r : AV) (h : ∀ y, y = args → CallOk C f y r) : Ct C := .pure f (spE args r) (spE_ok h)
@[go_sem] theorem ctE_g {C : Ctx} (f : Nat) (args : List AV) (r : AV) (h : ∀ y, y = args → CallOk C f y r) : (ctE f args r h).g = f := rfl
@[go_sem] theorem ctE_run {C : Ctx} (f : Nat) (args : List AV) (r : AV) (h : ∀ y, y = args → CallOk C f y r) (c : Call) (fop : Operand) (cs : List RV) (o : Oper) (st : St) (K : List Loc → List (Loc × Cont) → Prop) : (ctE f args r h).run c fop cs o st K = callT C (spE args r) c fop cs o st K := rfl
attribute [go_sem] spE

@[go_sem] theorem lendAs_r (st : St) : ∀ (caps : List RV) (K : List Loc → List AV → Prop), lendAs st (caps.map AV.r) K = K [] (caps.map AV.r)
  | [], K => rfl
  | x :: l, K => by
    simp only [List.map_cons, lendAs, lendA_r]
    rw [lendAs_r st l]; rfl
@[go_sem] theorem withinL_r (ok : Nat → Bool) : ∀ caps : List RV, withinL ok (caps.map AV.r) = true
  | [] => rfl
  | x :: l => by simp only [List.map_cons, withinL, within, withinL_r ok l]; rfl

theorem idxfStr_c (l : List ByteArray) (f : Nat) (caps : List RV) (dom : AV → Prop) (pv : AV → Bool) (h : ∀ y, dom y → CallOk Cx f (y :: caps.map AV.r) (Bv (pv y))) (hd : ∀ x ∈ l, dom (strA x)) (hl : l.length ≤ 9223372036854775807) :
    FC Cx 73 [strsV l, .r (.fn f caps)] [] (Iv (fidx (fun x => pv (strA x)) l)) [] := by
  have hlen : (l.map strR).length = l.length := List.length_map ..
  refine FCp_of [ctF f caps dom pv h] Tryd.func73 rfl Tryd.ntmps73 (by simp) Tryd.results73 rfl ?_
  apply Rn_st; (intro K0; simp only [go_sem]; exact ⟨id⟩)
  (any_goals refine go lv73 0 ?_)
  repeat' (first | (refine Br.go (fun h h' => ?_) (fun h h' => ?_)) | (refine Br.mk (fun h => ?_) (fun h => ?_)))
  refine Rn_loopT [0, 1, 7, 8] (fun i => i ≤ l.length ∧ ∀ j x, j < i → l[j]? = some x → pv (strA x) = false) (fun (i : Nat) => ⟨19, [(0, strsV l), (1, .r (.fn f caps)), (7, Iv l.length), (8, Iv i)], []⟩) (fun i => l.length - i) 0 rfl (by rw [← hlen]; rfl) rfl ⟨Nat.zero_le _, fun j x hj => by omega⟩ ?_
  rintro i ⟨hi, hno⟩
  by_cases hlt : i < l.length
  · obtain ⟨x, hx⟩ : ∃ x, l[i]? = some x := ⟨l[i], List.getElem?_eq_getElem hlt⟩
    have hg := getD_map strR hx ([] : List RV)
    have hdx := hd x (List.mem_of_getElem? hx)
    have hw : IntKind.i64.wrap ((i : Int) + 1) = ((i + 1 : Nat) : Int) := by rw [wrap_id] <;> omega
    have h1 : decide ((i : Int) < (l.length : Int)) = true := by rw [decide_eq_true_eq]; omega
    have h2 : Int.toNat (i : Int) = i := by omega
    cases hp : pv (strA x) with
    | true =>
      (any_goals refine go lv73 0 ?_)
      repeat' (first | (refine Br.go (fun h h' => ?_) (fun h h' => ?_)) | (refine Br.mk (fun h => ?_) (fun h => ?_)))
      all_goals (try simp only [go_sem])
      rw [fidx_hit hx hp fun j y hj hy => hno j y hj hy]
    | false =>
      (any_goals refine go lv73 0 ?_)
      repeat' (first | (refine Br.go (fun h h' => ?_) (fun h h' => ?_)) | (refine Br.mk (fun h => ?_) (fun h => ?_)))
      all_goals (try simp only [go_sem])
      refine ⟨i + 1, ⟨by omega, fun j y hj hy => ?_⟩, by omega, Le_keep [0, 1, 7, 8] rfl rfl rfl⟩
      rcases Nat.lt_succ_iff_lt_or_eq.1 hj with h3 | h3
      · exact hno j y h3 hy
      · subst h3; rw [hx] at hy; cases hy; exact hp
  · have h1 : decide ((i : Int) < (l.length : Int)) = false := by rw [decide_eq_false_iff_not]; omega
    (any_goals refine go lv73 0 ?_)
    repeat' (first | (refine Br.go (fun h h' => ?_) (fun h h' => ?_)) | (refine Br.mk (fun h => ?_) (fun h => ?_)))
    all_goals (try simp only [go_sem])
    rw [fidx_none fun j y hy => hno j y (by have := (List.getElem?_eq_some_iff.1 hy).1; omega) hy]
theorem anyStr_c (l : List ByteArray) (f : Nat) (caps : List RV) (dom : AV → Prop) (pv : AV → Bool) (h : ∀ y, dom y → CallOk Cx f (y :: caps.map AV.r) (Bv (pv y))) (hd : ∀ x ∈ l, dom (strA x)) (hl : l.length ≤ 9223372036854775807) :
    FC Cx 63 [strsV l, .r (.fn f caps)] [] (Bv (l.any fun x => pv (strA x))) [] := by
  have hA : ∀ y, y = [strsV l, .r (.fn f caps)] → CallOk Cx 73 y (Iv (fidx (fun x => pv (strA x)) l)) := fun y hy => by
    subst hy; exact CallOk_of (idxfStr_c l f caps dom pv h hd hl) en73 rfl rfl
  refine FCp_of [ctE 73 [strsV l, .r (.fn f caps)] (Iv (fidx (fun x => pv (strA x)) l)) hA] Tryd.func63 rfl Tryd.ntmps63 (by simp) Tryd.results63 rfl ?_
  apply Rn_st; (intro K0; simp only [go_sem]; exact ⟨id⟩)
  (any_goals refine go lv63 0 ?_)
  repeat' (first | (refine Br.go (fun h h' => ?_) (fun h h' => ?_)) | (refine Br.mk (fun h => ?_) (fun h => ?_)))
  all_goals (try simp only [go_sem])
  all_goals (try rw [fidx_any])


end Go.Proofs.YtjbhpoolghfhiaaDoor
