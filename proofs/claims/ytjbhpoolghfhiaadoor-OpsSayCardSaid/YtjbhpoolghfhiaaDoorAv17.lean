/- Steps of code over states. No condition: definitions and plain lemmas. -/
import Derived.Test.YtjbhpoolghfhiaaDoorAv16m
namespace Go.Proofs.YtjbhpoolghfhiaaDoor
set_option linter.unusedVariables false
set_option linter.unusedSimpArgs false
set_option maxHeartbeats 10000000
open Go

def lookN (j : Nat) : List (Nat × Nat) → Option Nat
  | [] => none
  | (k, d) :: l => if j = k then some d else lookN j l

/-- What is left of a region's operations, told of states; done: the slots of those that are done. -/
def lopsX (C : Ctx) (k : Nat) (done : List (Nat × Nat)) (l : List Oper) (st : St) (K : St → Prop) : Prop :=
  ∀ ops : Array Oper, ops.toList.drop k = l → (∀ j d, lookN j done = some d → (ops[j]?).bind (·.dst) = some d) → lops C ops l st K

/-- A test: both ways. -/
def CondG (q : Bool) (A B : Unit → Prop) : Prop := (q = true → A ()) ∧ (q = false → B ())

/-- A call that is still to be met by a contract. -/
def CallG (C : Ctx) (o : Oper) (st : St) (K : List Loc → List (Loc × Cont) → Prop) : Prop := ∃ l outs, K l outs ∧ LStep C o st.n (l.map fun x => (x, st.get x)) outs

/-- A region that draws its order, still to be met. -/
def DrawG (C : Ctx) (id : Nat) (ops : Array Oper) (st : St) (K : St → Prop) : Prop :=
  ∀ (e : Env) (a : Act) (w : World) (Q : Exit → Act → World → Prop), S C e st a w → (∀ a' w' st', S C e st' a' w' → K st' → Q .normal a' w') → (Code.region id ops true).wp C.P Q a w


/-- A guard that is not decided: both ways. -/
def GuardG (q : Bool) (A B : Unit → Prop) : Prop := (q = true → A ()) ∧ (q = false → B ())
theorem GuardG_true (A B : Unit → Prop) : GuardG true A B = A () := by simp [GuardG]
theorem GuardG_false (A B : Unit → Prop) : GuardG false A B = B () := by simp [GuardG]

theorem CondG_true (A B : Unit → Prop) : CondG true A B = A () := by simp [CondG]
theorem CondG_false (A B : Unit → Prop) : CondG false A B = B () := by simp [CondG]

/-- A call of a function, or another operation. -/
def opG (C : Ctx) (T : List (Ct C)) (o : Oper) (st : St) (K : List Loc → List (Loc × Cont) → Prop) : Prop :=
  match o.op with
  | .call c => match c.callee with
    | .value fop => match ev st fop with
      | .r (.fn f caps) => match findC f T with
        | some ct => ct.run c fop caps o st K
        | none => CallG C o st K
      | _ => False
    | _ => opK C o st K
  | .lookup t x i false => match o.dst with
    | some d => d < st.n ∧ lookupK C.P st t (ev st x) (ev st i) fun l r => K (l ++ rd [x, i]) [(.T d, .a r)]
    | none => opK C o st K
  | .mapUpdate t x i v => match o.dst with
    | none => updK C.P st t (ev st x) (ev st i) (ev st v) fun l outs => K (l ++ rd [x, i, v]) outs
    | some _ => opK C o st K
  | _ => opK C o st K

theorem opG_ok {C : Ctx} {T : List (Ct C)} {o : Oper} {st : St} {K : List Loc → List (Loc × Cont) → Prop} (h : opG C T o st K) : ∃ l outs, K l outs ∧ LStep C o st.n (l.map fun x => (x, st.get x)) outs := by
  unfold opG at h
  split at h
  · rename_i c ho
    split at h
    · rename_i fop hc
      split at h
      · rename_i f caps hf
        split at h
        · rename_i ct hct
          have := findC_g hct
          subst this
          exact ct.ok ho hc hf h
        · exact h
      · exact h.elim
    · exact opK_ok h
  · rename_i t x i ho
    split at h
    · rename_i d hd
      exact lookup_ok hd ho h.1 h.2
    · exact opK_ok h
  · rename_i t x i v ho
    split at h
    · rename_i hd
      exact upd_ok hd ho h
    · exact opK_ok h
  · exact opK_ok h

theorem opG_ok' {C : Ctx} {T : List (Ct C)} {o : Oper} {st : St} {K : List (Loc × Cont) → Prop} (h : opG C T o st fun _ outs => K outs) : ∃ ins outs, LStep C o st.n ins outs ∧ Agree st ins ∧ K outs := by
  obtain ⟨l, outs, h1, h2⟩ := opG_ok h
  exact ⟨_, outs, h2, Agree_of.2 fun _ _ => rfl, h1⟩

def dstOk (o : Oper) (n : Nat) : Bool := match o.dst with | some d => decide (d < n) | none => true

/-- An operation with its guard. -/
def stepG' (C : Ctx) (T : List (Ct C)) (done : List (Nat × Nat)) (o : Oper) (st : St) (K : St → Prop) : Prop :=
  match o.guard with
  | none => CallG C o st fun _ outs => K (st.upd outs)
  | some (j, b) => match lookN j done with
    | some d => match lookT d st.t with
      | .r (.v (.bool q)) => GuardG (q == b) (fun _ => CallG C o st fun _ outs => K (st.upd outs)) (fun _ => dstOk o st.n = true ∧ K (skipped o st))
      | .r (.v (.tuple _)) => dstOk o st.n = true ∧ K (skipped o st)
      | _ => False
    | none => False

def addN (k : Nat) (d : Option Nat) (done : List (Nat × Nat)) : List (Nat × Nat) := match d with | some d => (k, d) :: done | none => done

theorem stepG_ok {C : Ctx} {T : List (Ct C)} {k : Nat} {done : List (Nat × Nat)} {o : Oper} {l : List Oper} {st : St} {K K' : St → Prop} (h : stepG' C T done o st K') (hk : ∀ s, K' s → lopsX C (k + 1) (addN k o.dst done) l s K) : lopsX C k done (o :: l) st K := by
  intro ops hops hdone
  have h0 : ops.toList[k]? = some o := by
    have : (ops.toList.drop k)[0]? = some o := by rw [hops]; rfl
    simpa using this
  have hk' : ∀ s, K' s → lops C ops l s K := fun s hs => hk s hs ops (by rw [← List.drop_drop, hops]; rfl) (fun j d hj => by
    unfold addN at hj
    split at hj
    · rename_i d' hd'
      unfold lookN at hj
      split at hj
      · rename_i he
        subst he
        simp at hj
        subst hj
        have : ops[j]? = some o := by simpa using h0
        simp [this, hd']
      · exact hdone j d hj
    · exact hdone j d hj)
  unfold stepG' at h
  split at h
  · rename_i hg
    obtain ⟨l', outs, h3, h1⟩ := h
    have h2 : Agree st (l'.map fun x => (x, st.get x)) := Agree_of.2 fun _ _ => rfl
    exact lops_step hg h1 h2 (hk' _ h3)
  · rename_i j b hg
    split at h
    · rename_i d hd
      replace hd := hdone j d hd
      split at h
      · rename_i q hq
        by_cases he : (q == b) = true
        · replace h := h.1 he
          have : q = b := by simpa using he
          subst this
          obtain ⟨l', outs, h3, h1⟩ := h
          have h2 : Agree st (l'.map fun x => (x, st.get x)) := Agree_of.2 fun _ _ => rfl
          exact lops_guard_yes hg hd hq h1 h2 (hk' _ h3)
        · replace h := h.2 (by simpa using he)
          have : q = !b := by cases q <;> cases b <;> simp_all
          subst this
          refine lops_guard_no hg hd hq (fun d' hd' => ?_) (hk' _ h.2)
          have := h.1
          simpa [dstOk, hd'] using this
      · rename_i xs hq
        refine lops_guard_un hg hd hq (fun d' hd' => ?_) (hk' _ h.2)
        have := h.1
        simpa [dstOk, hd'] using this
      · exact h.elim
    · exact h.elim

end Go.Proofs.YtjbhpoolghfhiaaDoor
