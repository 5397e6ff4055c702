/- A region that draws its order, told of states: whatever the order, it comes to the same. No condition: definitions and plain lemmas. -/
import Derived.Test.YtjbhpoolghfhiaaDoorAv17
namespace Go.Proofs.YtjbhpoolghfhiaaDoor
set_option linter.unusedVariables false
set_option linter.unusedSimpArgs false
set_option maxHeartbeats 10000000
open Go

/-- Slots get what slots hold, resources what resources hold. -/
def wk : List (Loc × Cont) → Bool
  | [] => true
  | (.T _, .a _) :: l => wk l
  | (.R _, .s _ _) :: l => wk l
  | _ => false

/-- An operation with its guard, in whatever order: what it reads, what it writes. -/
def stepD (C : Ctx) (T : List (Ct C)) (done : List (Nat × Nat)) (o : Oper) (st : St) (K : List Loc → List (Loc × Cont) → Prop) : Prop :=
  match o.guard with
  | none => CallG C o st fun l outs => wk outs = true ∧ K l outs
  | some (j, b) => match lookN j done with
    | some d => match lookT d st.t with
      | .r (.v (.bool q)) => GuardG (q == b) (fun _ => CallG C o st fun l outs => wk outs = true ∧ K (.T d :: l) outs) (fun _ => dstOk o st.n = true ∧ ∃ l, match o.dst with | some d' => K (.T d :: l) [(.T d', .a (.r (.v (.tuple #[]))))] | none => K (.T d :: l) [])
      | .r (.v (.tuple _)) => dstOk o st.n = true ∧ ∃ l, match o.dst with | some d' => K (.T d :: l) [(.T d', .a (.r (.v (.tuple #[]))))] | none => K (.T d :: l) []
      | _ => False
    | none => False

/-- A region's operations in the text's order, with what each reads and writes. -/
def drun (C : Ctx) (T : List (Ct C)) : Nat → List (Nat × Nat) → List Oper → St → List (List Loc × List Loc) → (List (List Loc × List Loc) → St → Prop) → Prop
  | _, _, [], st, fps, K => K fps st
  | k, done, o :: l, st, fps, K => stepD C T done o st fun rds outs => drun C T (k + 1) (addN k o.dst done) l (st.upd outs) (fps ++ [(rds, outs.map (·.1))]) K

/-- Which operations stand ahead of each. -/
def edgesOf (ops : List Oper) : List (List Nat) := ops.map fun o => (o.after.toList.filter (Region.binds .any)).map (·.on)

def befs (edges : List (List Nat)) : List Nat := edges.foldl (fun acc es => acc ++ [es.foldl (fun s e => s ||| 2 ^ e ||| acc.getD e 0) 0]) []

def disj (a b : List Loc) : Bool := a.all fun x => !b.contains x

/-- Two operations that no edge orders do not meet. -/
def apartB (p q : List Loc × List Loc) : Bool := disj p.2 q.1 && disj p.2 q.2 && disj q.2 p.1

def indepB (edges : List (List Nat)) (fps : List (List Loc × List Loc)) : Bool :=
  let b := befs edges
  (edges.zipIdx.all fun (es, j) => es.all fun e => decide (e < j)) && (List.range fps.length).all fun j => (List.range j).all fun i => (b.getD j 0).testBit i || apartB (fps.getD i ([], [])) (fps.getD j ([], []))

/-- An operation of a region, in a state that holds what it reads. -/
def DStep (C : Ctx) (ops : Array Oper) (i n : Nat) (ins outs : List (Loc × Cont)) : Prop :=
  ∀ (e : Env) (st : St) (a : Act) (w : World) (next : Act → World → Prop) (Q : Exit → Act → World → Prop), st.n = n → S C e st a w → Agree st ins →
    (∀ a' w', S C e (st.upd outs) a' w' → next a' w') → wpOp C.P ops Q i next a w

/-- The trace of a region in the text's order. -/
def TR (C : Ctx) (ops : Array Oper) : Nat → St → List (List Loc × List (Loc × Cont)) → St → Prop
  | _, st, [], st' => st = st'
  | k, st, (rds, outs) :: L, st' => DStep C ops k st.n (rds.map fun x => (x, st.get x)) outs ∧ wk outs = true ∧ TR C ops (k + 1) (st.upd outs) L st'

theorem DStep_of {C : Ctx} {T : List (Ct C)} {ops : Array Oper} {k : Nat} {done : List (Nat × Nat)} {o : Oper} {st : St} {K : List Loc → List (Loc × Cont) → Prop} (h : stepD C T done o st K) (ho : ops[k]? = some o) (hdone : ∀ j d, lookN j done = some d → (ops[j]?).bind (·.dst) = some d) :
    ∃ l outs, DStep C ops k st.n (l.map fun x => (x, st.get x)) outs ∧ wk outs = true ∧ K l outs := by
  unfold stepD at h
  split at h
  · rename_i hg
    obtain ⟨l, outs, ⟨h2, h3⟩, h1⟩ := h
    refine ⟨l, outs, fun e st' a w next Q hn hs ha hnext => ?_, h2, h3⟩
    unfold wpOp
    rw [ho]
    simp only [Region.wanted, hg, if_true]
    exact .inl (h1 e st' a w next Q hn hs ha hnext)
  · rename_i j b hg
    split at h
    · rename_i d hd
      replace hd := hdone j d hd
      split at h
      · rename_i q hq
        by_cases he : (q == b) = true
        · replace h := h.1 he
          have : q = b := by simpa using he
          subst this
          obtain ⟨l, outs, ⟨h2, h3⟩, h1⟩ := h
          refine ⟨_, outs, fun e st' a w next Q hn hs ha hnext => ?_, h2, h3⟩
          replace ha := Agree_of.1 ha
          obtain ⟨hok, g, hr⟩ := id hs
          have h4 := hr.temps d
          rw [ha.T (d := d) (by simp), hq] at h4
          unfold wpOp
          rw [ho]
          simp only [Region.wanted, hg, yielded_of hd (AR_bool h4), beq_self_eq_true, if_true]
          exact .inl (h1 e st' a w next Q hn hs (Agree_of.2 fun x hx => ha x (List.mem_cons_of_mem _ hx)) hnext)
        · replace h := h.2 (by simpa using he)
          have : q = !b := by cases q <;> cases b <;> simp_all
          subst this
          have key : ∀ (e : Env) (st' : St) (a : Act) (w : World) (next : Act → World → Prop) (Q : Exit → Act → World → Prop), st'.n = st.n → S C e st' a w → Ag [.T d] st st' →
              (∀ a' w', S C e (skipped o st') a' w' → next a' w') → wpOp C.P ops Q k next a w := by
            intro e st' a w next Q hn hs ha hnext
            obtain ⟨hok, g, hr⟩ := id hs
            have h4 := hr.temps d
            rw [ha.T (d := d) (by simp), hq] at h4
            unfold wpOp
            rw [ho]
            have hw : Region.wanted o (yielded ops a.tmps) = false := by simp [Region.wanted, hg, yielded_of hd (AR_bool h4)]
            simp only [hw, Bool.false_eq_true, if_false]
            refine hnext _ w (skip_ok o (fun d' hd' => ?_) hs)
            have := h.1
            rw [hn]; simpa [dstOk, hd'] using this
          obtain ⟨lx, h5⟩ := h.2
          split at h5
          · rename_i d' hd'
            refine ⟨_, _, fun e st' a w next Q hn hs ha hnext => key e st' a w next Q hn hs (fun x hx => Agree_of.1 ha x (by simp at hx; simp [hx])) fun a' w' h6 => hnext a' w' ?_, rfl, h5⟩
            simpa [skipped, hd', St.upd, St.set] using h6
          · rename_i hd'
            refine ⟨_, _, fun e st' a w next Q hn hs ha hnext => key e st' a w next Q hn hs (fun x hx => Agree_of.1 ha x (by simp at hx; simp [hx])) fun a' w' h6 => hnext a' w' ?_, rfl, h5⟩
            simpa [skipped, hd', St.upd, St.set] using h6
      · rename_i xs hq
        have key : ∀ (e : Env) (st' : St) (a : Act) (w : World) (next : Act → World → Prop) (Q : Exit → Act → World → Prop), st'.n = st.n → S C e st' a w → Ag [.T d] st st' →
            (∀ a' w', S C e (skipped o st') a' w' → next a' w') → wpOp C.P ops Q k next a w := by
          intro e st' a w next Q hn hs ha hnext
          obtain ⟨hok, g, hr⟩ := id hs
          have h4 := hr.temps d
          rw [ha.T (d := d) (by simp), hq] at h4
          unfold wpOp
          rw [ho]
          have hw : Region.wanted o (yielded ops a.tmps) = false := by simp [Region.wanted, hg, yielded_un hd (AR_tuple h4)]
          simp only [hw, Bool.false_eq_true, if_false]
          refine hnext _ w (skip_ok o (fun d' hd' => ?_) hs)
          have := h.1
          rw [hn]; simpa [dstOk, hd'] using this
        obtain ⟨lx, h5⟩ := h.2
        split at h5
        · rename_i d' hd'
          refine ⟨_, _, fun e st' a w next Q hn hs ha hnext => key e st' a w next Q hn hs (fun x hx => Agree_of.1 ha x (by simp at hx; simp [hx])) fun a' w' h6 => hnext a' w' ?_, rfl, h5⟩
          simpa [skipped, hd', St.upd, St.set] using h6
        · rename_i hd'
          refine ⟨_, _, fun e st' a w next Q hn hs ha hnext => key e st' a w next Q hn hs (fun x hx => Agree_of.1 ha x (by simp at hx; simp [hx])) fun a' w' h6 => hnext a' w' ?_, rfl, h5⟩
          simpa [skipped, hd', St.upd, St.set] using h6
      · exact h.elim
    · exact h.elim

theorem drun_ok {C : Ctx} {T : List (Ct C)} {ops : Array Oper} : ∀ {l : List Oper} {k : Nat} {done : List (Nat × Nat)} {st : St} {fps : List (List Loc × List Loc)} {K : List (List Loc × List Loc) → St → Prop}, drun C T k done l st fps K → ops.toList.drop k = l → (∀ j d, lookN j done = some d → (ops[j]?).bind (·.dst) = some d) →
    ∃ L st', TR C ops k st L st' ∧ L.length = l.length ∧ K (fps ++ L.map fun p => (p.1, p.2.map (·.1))) st'
  | [], k, done, st, fps, K, h, _, _ => ⟨[], st, rfl, rfl, by simpa [drun] using h⟩
  | o :: l, k, done, st, fps, K, h, hops, hdone => by
    have h0 : ops[k]? = some o := by
      have : (ops.toList.drop k)[0]? = some o := by rw [hops]; rfl
      simpa using this
    obtain ⟨rds, outs, h1, h2, h3⟩ := DStep_of h h0 hdone
    obtain ⟨L, st', q1, q2, q3⟩ := drun_ok h3 (by rw [← List.drop_drop, hops]; rfl) (fun j d hj => by
      unfold addN at hj
      split at hj
      · rename_i d' hd'
        unfold lookN at hj
        split at hj
        · rename_i he
          subst he
          simp at hj
          subst hj
          simp [h0, hd']
        · exact hdone j d hj
      · exact hdone j d hj)
    exact ⟨(rds, outs) :: L, st', ⟨h1, h2, q1⟩, by simp [q2], by simpa using q3⟩

end Go.Proofs.YtjbhpoolghfhiaaDoor
