/- Operations, told of states: one by one in the text's order. No condition: plain lemmas. -/
import Derived.Test.YtjbhpoolghfhiaaDoorAv2
namespace Go.Proofs.YtjbhpoolghfhiaaDoor
set_option linter.unusedVariables false
set_option linter.unusedSimpArgs false
set_option maxHeartbeats 10000000
open Go

/-- What an operation needs is there. -/
def Agree (st : St) (ins : List (Loc × Cont)) : Prop := ∀ l c, (l, c) ∈ ins → st.get l = c

/-- An operation, told of what it reads and of what it writes, in whatever state holds what it reads. -/
def LStep (C : Ctx) (o : Oper) (n : Nat) (ins outs : List (Loc × Cont)) : Prop :=
  ∀ (e : Env) (st : St) (a : Act) (w : World) (next : Act → World → Prop) (Q : Exit → Act → World → Prop), st.n = n → S C e st a w → Agree st ins →
    (∀ a' w', S C e (st.upd outs) a' w' → next a' w') → o.wp C.P a w next Q

/-- A list of operations, told of states. -/
def lops (C : Ctx) (ops : Array Oper) (l : List Oper) (st : St) (K : St → Prop) : Prop :=
  ∀ (e : Env) (a : Act) (w : World) (Q : Exit → Act → World → Prop), S C e st a w → (∀ a' w' st', S C e st' a' w' → K st' → Q .normal a' w') → wpList C.P ops Q l a w

theorem lwp_region {C : Ctx} {id : Nat} {ops : Array Oper} {st : St} {K : Exit → St → Prop} (h : lops C ops ops.toList st (K .normal)) : lwp C (.region id ops false) st K :=
  fun e a w hs => wp_region_list (h e a w _ hs fun _ _ st' h1 h2 => ⟨st', h1, h2⟩)

theorem lops_nil {C : Ctx} {ops : Array Oper} {st : St} {K : St → Prop} (h : K st) : lops C ops [] st K := fun _ _ _ _ hs hq => hq _ _ st hs h

theorem lops_weaken {C : Ctx} {ops : Array Oper} {l : List Oper} {st st' : St} {K : St → Prop} (hl : Le st st') (h : lops C ops l st' K) : lops C ops l st K :=
  fun e a w Q hs => h e a w Q (hs.weaken hl)

theorem lops_step {C : Ctx} {ops : Array Oper} {o : Oper} {l : List Oper} {st : St} {K : St → Prop} {ins outs : List (Loc × Cont)} (hg : o.guard = none) (hs : LStep C o st.n ins outs) (ha : Agree st ins)
    (h : lops C ops l (st.upd outs) K) : lops C ops (o :: l) st K := by
  intro e a w Q hS hq
  unfold wpList
  rw [if_pos (by simp [Region.wanted, hg])]
  exact .inl (hs e st a w _ Q rfl hS ha fun a' w' h' => h e a' w' Q h' hq)

/-- The slot that a guard asks. -/
def gslot (ops : Array Oper) (j : Nat) : Nat := ((ops[j]?).bind (·.dst)).getD 0

theorem yielded_of {ops : Array Oper} {j d : Nat} {tmps : Array Value} {b : Bool} (hd : (ops[j]?).bind (·.dst) = some d) (hv : tmps.getD d undef = .bool b) : yielded ops tmps j = some b := by
  simp only [yielded, hd]
  cases h : tmps[d]? with
  | none => simp [Array.getD_eq_getD_getElem?, h, undef] at hv
  | some x =>
    have : x = .bool b := by simpa [Array.getD_eq_getD_getElem?, h] using hv
    simp [h, this]

theorem lops_guard_yes {C : Ctx} {ops : Array Oper} {o : Oper} {l : List Oper} {st : St} {K : St → Prop} {ins outs : List (Loc × Cont)} {j d : Nat} {b : Bool} (hg : o.guard = some (j, b)) (hd : (ops[j]?).bind (·.dst) = some d)
    (hv : lookT d st.t = .r (.v (.bool b))) (hs : LStep C o st.n ins outs) (ha : Agree st ins)
    (h : lops C ops l (st.upd outs) K) : lops C ops (o :: l) st K := by
  intro e a w Q hS hq
  unfold wpList
  obtain ⟨ho, g, hr⟩ := id hS
  have h1 := hr.temps d
  rw [hv] at h1
  rw [if_pos (by simp [Region.wanted, hg, yielded_of hd (AR_bool h1)])]
  exact .inl (hs e st a w _ Q rfl hS ha fun a' w' h' => h e a' w' Q h' hq)

/-- An operation that is not wanted leaves its slot bare. -/
def skipped (o : Oper) (st : St) : St :=
  match o.dst with
  | some d => { st with t := putT d (.r (.v (.tuple #[]))) st.t }
  | none => st

theorem skip_ok {C : Ctx} {e : Env} {st : St} {a : Act} {w : World} (o : Oper) (hd : ∀ d, o.dst = some d → d < st.n) (h : S C e st a w) : S C e (skipped o st) (a.put o.dst undef) w := by
  obtain ⟨ho, g, hr⟩ := h
  unfold skipped
  cases hdst : o.dst with
  | none => exact ⟨ho, g, hr⟩
  | some d => exact ⟨ho, g, hr.put (hd d hdst) (.r (.v _))⟩

theorem lops_guard_no {C : Ctx} {ops : Array Oper} {o : Oper} {l : List Oper} {st : St} {K : St → Prop} {j d : Nat} {b : Bool} (hg : o.guard = some (j, b)) (hd : (ops[j]?).bind (·.dst) = some d)
    (hv : lookT d st.t = .r (.v (.bool !b))) (hdst : ∀ d, o.dst = some d → d < st.n)
    (h : lops C ops l (skipped o st) K) : lops C ops (o :: l) st K := by
  intro e a w Q hS hq
  unfold wpList
  obtain ⟨ho, g, hr⟩ := id hS
  have h1 := hr.temps d
  rw [hv] at h1
  rw [if_neg (by simp [Region.wanted, hg, yielded_of hd (AR_bool h1)])]
  exact h e _ w Q (skip_ok o hdst hS) hq

theorem yielded_un {ops : Array Oper} {j d : Nat} {tmps : Array Value} {xs : Array Value} (hd : (ops[j]?).bind (·.dst) = some d) (hv : tmps.getD d undef = .tuple xs) : yielded ops tmps j = none := by
  simp only [yielded, hd]
  cases h : tmps[d]? with
  | none => simp [h]
  | some x =>
    have : x = .tuple xs := by simpa [Array.getD_eq_getD_getElem?, h] using hv
    simp [h, this]

theorem AR_tuple {cur : Nat → Nat} {g : Gh} {w : World} {N : Nat → Prop} {xs : Array Value} {v : Value} (h : AR cur g w N (.r (.v (.tuple xs))) v) : v = .tuple xs := by
  cases h with | r h => cases h; rfl

theorem lops_guard_un {C : Ctx} {ops : Array Oper} {o : Oper} {l : List Oper} {st : St} {K : St → Prop} {j d : Nat} {b : Bool} {xs : Array Value} (hg : o.guard = some (j, b)) (hd : (ops[j]?).bind (·.dst) = some d)
    (hv : lookT d st.t = .r (.v (.tuple xs))) (hdst : ∀ d, o.dst = some d → d < st.n)
    (h : lops C ops l (skipped o st) K) : lops C ops (o :: l) st K := by
  intro e a w Q hS hq
  unfold wpList
  obtain ⟨ho, g, hr⟩ := id hS
  have h1 := hr.temps d
  rw [hv] at h1
  rw [if_neg (by simp [Region.wanted, hg, yielded_un hd (AR_tuple h1)])]
  exact h e _ w Q (skip_ok o hdst hS) hq

/-- An operation that computes a value and leaves memory alone. -/
theorem LStep_val {C : Ctx} {o : Oper} {n d : Nat} {ins : List (Loc × Cont)} {x : AV} (hd : o.dst = some d) (hn : d < n)
    (h : ∀ (e : Env) (st : St) (g : Gh) (a : Act) (w : World), SR C e st g a w → Agree st ins →
      ∃ v w', (execOp a.eval o).run C.P w = .ok (.value v) w' ∧ w'.heap = w.heap ∧ w'.os = w.os ∧ w'.tape = w.tape ∧ w'.output = w.output ∧ AR st.cur g w (e.N st g) x v) :
    LStep C o n ins [(.T d, .a x)] := by
  intro e st a w next Q hn' ⟨ho, g, hr⟩ ha hnext
  obtain ⟨v, w', h1, hh, h2, h3, h4, h5⟩ := h e st g a w hr ha
  unfold Oper.wp
  rw [h1]
  show next (a.put o.dst v) w'
  refine hnext _ _ ⟨ho, g, ?_⟩
  rw [hd]
  show SR C e { st with t := putT d x st.t } g _ _
  exact (hr.put (by omega) h5).world hh h2 h3 h4

end Go.Proofs.YtjbhpoolghfhiaaDoor
