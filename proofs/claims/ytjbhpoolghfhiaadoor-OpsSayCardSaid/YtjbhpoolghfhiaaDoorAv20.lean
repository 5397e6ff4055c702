/- Code, run over states by rewriting. No condition: definitions and plain lemmas. -/
import Derived.Test.YtjbhpoolghfhiaaDoorAv19
namespace Go.Proofs.YtjbhpoolghfhiaaDoor
set_option linter.unusedVariables false
set_option linter.unusedSimpArgs false
set_option maxHeartbeats 10000000
open Go

/-- What is still to be done. -/
inductive It where
  | c (c : Code)
  | b (id : Nat)
  | o (k : Nat) (done : List (Nat × Nat)) (l : List Oper)

def toB (id : Nat) : List It → Option (List It)
  | [] => none
  | .b j :: r => if id = j then some r else toB id r
  | .c _ :: r => toB id r
  | .o _ _ _ :: r => toB id r

/-- What follows an exit, by what is still to be done. -/
def ck (C : Ctx) : List It → (Exit → St → Prop) → Exit → St → Prop
  | [], K, x, s => K x s
  | .c c :: r, K, .normal, s => lwp C c s (ck C r K)
  | .c _ :: r, K, x, s => ck C r K x s
  | .o k done l :: r, K, .normal, s => lopsX C k done l s (ck C r K .normal)
  | .o _ _ _ :: r, K, x, s => ck C r K x s
  | .b id :: r, K, .exit j, s => if j = id then ck C r K .normal s else ck C r K (.exit j) s
  | .b _ :: r, K, x, s => ck C r K x s

theorem ck_b {C : Ctx} {id : Nat} {r : List It} {K : Exit → St → Prop} : ck C (.b id :: r) K = blockK id (ck C r K) := by
  funext x s
  cases x <;> rfl

theorem ck_c {C : Ctx} {c : Code} {r : List It} {K : Exit → St → Prop} : ck C (.c c :: r) K = thenK (fun s => lwp C c s (ck C r K)) (ck C r K) := by
  funext x s
  cases x <;> rfl

theorem toB_ok {C : Ctx} {id : Nat} {K : Exit → St → Prop} {st : St} : ∀ {r : List It}, (∀ r', toB id r = some r' → ck C r' K .normal st → ck C r K (.exit id) st) ∧ (toB id r = none → K (.exit id) st → ck C r K (.exit id) st)
  | [] => ⟨fun r' h => by simp [toB] at h, fun _ h => h⟩
  | .c c :: r => ⟨fun r' h h2 => (toB_ok (r := r)).1 r' h h2, fun h h2 => (toB_ok (r := r)).2 h h2⟩
  | .o k done l :: r => ⟨fun r' h h2 => (toB_ok (r := r)).1 r' h h2, fun h h2 => (toB_ok (r := r)).2 h h2⟩
  | .b j :: r => by
    refine ⟨fun r' h h2 => ?_, fun h h2 => ?_⟩
    · unfold toB at h
      show if id = j then ck C r K .normal st else ck C r K (.exit id) st
      split at h
      · rename_i hj; rw [if_pos hj]; simp at h; subst h; exact h2
      · rename_i hj; rw [if_neg hj]; exact (toB_ok (r := r)).1 r' h h2
    · unfold toB at h
      show if id = j then ck C r K .normal st else ck C r K (.exit id) st
      split at h
      · simp at h
      · rename_i hj; rw [if_neg hj]; exact (toB_ok (r := r)).2 h h2

theorem ck_ret {C : Ctx} {K : Exit → St → Prop} {st : St} (h : K .ret st) : ∀ {r : List It}, ck C r K .ret st
  | [] => h
  | .c _ :: r => ck_ret (r := r) h
  | .o _ _ _ :: r => ck_ret (r := r) h
  | .b _ :: r => ck_ret (r := r) h

/-- What is still to be done, from a state. -/
def Rn (C : Ctx) (_ : List (Ct C)) (r : List It) (st : St) (K : Exit → St → Prop) : Prop := ck C r K .normal st

/-- One follows from the other. -/
structure Imp (a b : Prop) : Prop where
  run : a → b

section
variable {C : Ctx} {T : List (Ct C)} {r : List It} {st st' : St} {K : Exit → St → Prop}

theorem Rn_st (h : ∀ K0 : St → Prop, Imp (K0 st') (K0 st)) (hk : Rn C T r st' K) : Rn C T r st K := (h fun s => Rn C T r s K).run hk
theorem Rn_nil (h : K .normal st) : Rn C T [] st K := h
theorem Rn_b {id : Nat} (h : Rn C T r st K) : Rn C T (.b id :: r) st K := by unfold Rn; rw [ck_b]; exact h
theorem Rn_o_nil {k : Nat} {done : List (Nat × Nat)} (h : Rn C T r st K) : Rn C T (.o k done [] :: r) st K := fun _ _ _ => lops_nil h
theorem Rn_skip (h : Rn C T r st K) : Rn C T (.c .skip :: r) st K := lwp_skip h
theorem Rn_seq {a b : Code} (h : Rn C T (.c a :: .c b :: r) st K) : Rn C T (.c (.seq a b) :: r) st K := by
  refine lwp_seq ?_
  rw [← ck_c]
  exact h
theorem Rn_block {id : Nat} {a : Code} (h : Rn C T (.c a :: .b id :: r) st K) : Rn C T (.c (.block id a) :: r) st K := by
  refine lwp_block ?_
  rw [← ck_b]
  exact h
theorem Rn_exit {id : Nat} {r' : List It} (hr : toB id r = some r') (h : Rn C T r' st K) : Rn C T (.c (.exit id) :: r) st K := lwp_exit (toB_ok.1 r' hr h)
theorem Rn_out {id : Nat} (hr : toB id r = none) (h : K (.exit id) st) : Rn C T (.c (.exit id) :: r) st K := lwp_exit (toB_ok.2 hr h)
theorem Rn_ret (h : K .ret st) : Rn C T (.c .ret :: r) st K := lwp_ret (ck_ret h)
theorem Rn_cond {c : Operand} {a b : Code} {q : Bool} (hq : ev st c = .r (.v (.bool q))) (h1 : q = true → Rn C T (.c a :: r) st K) (h2 : q = false → Rn C T (.c b :: r) st K) : Rn C T (.c (.cond c a b) :: r) st K := by
  refine lwp_cond hq ?_
  cases q with
  | true => exact h1 rfl
  | false => exact h2 rfl
theorem Rn_cond_t {c : Operand} {a b : Code} (hq : ev st c = .r (.v (.bool true))) (h : Rn C T (.c a :: r) st K) : Rn C T (.c (.cond c a b) :: r) st K := Rn_cond hq (fun _ => h) (fun h => nomatch h)
theorem Rn_cond_f {c : Operand} {a b : Code} (hq : ev st c = .r (.v (.bool false))) (h : Rn C T (.c b :: r) st K) : Rn C T (.c (.cond c a b) :: r) st K := Rn_cond hq (fun h => nomatch h) (fun _ => h)
theorem Rn_region {id : Nat} {l : List Oper} (h : Rn C T (.o 0 [] l :: r) st K) : Rn C T (.c (.region id l.toArray false) :: r) st K :=
  lwp_region ((h : lopsX C 0 [] l st (ck C r K .normal)) _ (by simp) (fun j d hj => by simp [lookN] at hj))

theorem Rn_op {k : Nat} {done : List (Nat × Nat)} {o : Oper} {l : List Oper} (hg : o.guard = none) (h : ∀ K0 : St → Prop, Imp (K0 st') (opG C T o st fun _ outs => K0 (st.upd outs)))
    (hk : Rn C T (.o (k + 1) (addN k o.dst done) l :: r) st' K) : Rn C T (.o k done (o :: l) :: r) st K := by
  refine stepG_ok (T := T) (K' := fun s => lopsX C (k + 1) (addN k o.dst done) l s (ck C r K .normal)) ?_ fun s hs => hs
  unfold stepG'
  rw [hg]
  exact opG_ok ((h _).run hk)

theorem Rn_guard {k : Nat} {done : List (Nat × Nat)} {o : Oper} {l : List Oper} {j d : Nat} {b q : Bool} (hg : o.guard = some (j, b)) (hd : lookN j done = some d) (hq : lookT d st.t = .r (.v (.bool q)))
    (h1 : q = b → ∃ st', (∀ K0 : St → Prop, K0 st' → CallG C o st fun _ outs => K0 (st.upd outs)) ∧ Rn C T (.o (k + 1) (addN k o.dst done) l :: r) st' K)
    (h2 : q = (!b) → ∃ st', (dstOk o st.n = true ∧ skipped o st = st') ∧ Rn C T (.o (k + 1) (addN k o.dst done) l :: r) st' K) : Rn C T (.o k done (o :: l) :: r) st K := by
  refine stepG_ok (T := T) (K' := fun s => lopsX C (k + 1) (addN k o.dst done) l s (ck C r K .normal)) ?_ fun s hs => hs
  unfold stepG'
  rw [hg]
  simp only [hd, hq]
  refine ⟨fun hb => ?_, fun hb => ?_⟩
  · obtain ⟨st', h3, h4⟩ := h1 (by simpa using hb)
    exact h3 _ h4
  · obtain ⟨st', ⟨h3, h4⟩, h5⟩ := h2 (by cases q <;> cases b <;> simp_all)
    exact ⟨h3, by rw [h4]; exact h5⟩
theorem Rn_guard_yes {k : Nat} {done : List (Nat × Nat)} {o : Oper} {l : List Oper} {j d : Nat} {b : Bool} (hg : o.guard = some (j, b)) (hd : lookN j done = some d) (hq : lookT d st.t = .r (.v (.bool b)))
    (h : ∀ K0 : St → Prop, Imp (K0 st') (opG C T o st fun _ outs => K0 (st.upd outs))) (hk : Rn C T (.o (k + 1) (addN k o.dst done) l :: r) st' K) : Rn C T (.o k done (o :: l) :: r) st K :=
  Rn_guard hg hd hq (fun _ => ⟨st', fun K0 hK => opG_ok ((h K0).run hK), hk⟩) (fun h => by cases b <;> simp at h)
theorem Rn_guard_no {k : Nat} {done : List (Nat × Nat)} {o : Oper} {l : List Oper} {j d : Nat} {b q : Bool} (hg : o.guard = some (j, b)) (hd : lookN j done = some d) (hq : lookT d st.t = .r (.v (.bool q))) (hqb : q = (!b))
    (h : dstOk o st.n = true) (hs : skipped o st = st') (hk : Rn C T (.o (k + 1) (addN k o.dst done) l :: r) st' K) : Rn C T (.o k done (o :: l) :: r) st K :=
  Rn_guard hg hd hq (fun h => by subst h; cases q <;> simp at hqb) (fun _ => ⟨st', ⟨h, hs⟩, hk⟩)

theorem Rn_guard_un {k : Nat} {done : List (Nat × Nat)} {o : Oper} {l : List Oper} {j d : Nat} {b : Bool} {xs : Array Value} (hg : o.guard = some (j, b)) (hd : lookN j done = some d) (hq : lookT d st.t = .r (.v (.tuple xs)))
    (h : dstOk o st.n = true) (hs : skipped o st = st') (hk : Rn C T (.o (k + 1) (addN k o.dst done) l :: r) st' K) : Rn C T (.o k done (o :: l) :: r) st K := by
  refine stepG_ok (T := T) (K' := fun s => lopsX C (k + 1) (addN k o.dst done) l s (ck C r K .normal)) ?_ fun s hs => hs
  unfold stepG'
  rw [hg]
  simp only [hd, hq]
  exact ⟨h, by rw [hs]; exact hk⟩

abbrev UD : AV := .r (.v (.tuple #[]))

/-- Is what is guarded wanted? -/
def wantK (x : AV) (b : Bool) (K : Bool → Prop) : Prop :=
  match x with
  | .r (.v (.bool q)) => K (q == b)
  | .r (.v (.tuple _)) => K false
  | _ => False

theorem wantK_bif (c p b : Bool) (K : Bool → Prop) : wantK (bif c then .r (.v (.bool p)) else UD) b K = K (c && (p == b)) := by cases c <;> rfl

theorem wantK_ok {x : AV} {b : Bool} {K : Bool → Prop} (h : wantK x b K) : (∃ q, x = .r (.v (.bool q)) ∧ K (q == b)) ∨ (∃ xs, x = .r (.v (.tuple xs)) ∧ K false) := by
  unfold wantK at h
  split at h
  · exact .inl ⟨_, rfl, h⟩
  · exact .inr ⟨_, rfl, h⟩
  · exact h.elim

/-- One slot is written. -/
def oneK (d : Nat) (outs : List (Loc × Cont)) (K : AV → Prop) : Prop :=
  match outs with
  | [(.T e, .a x)] => e = d ∧ K x
  | _ => False

theorem oneK_ok {d : Nat} {outs : List (Loc × Cont)} {K : AV → Prop} (h : oneK d outs K) : ∃ x, outs = [(.T d, .a x)] ∧ K x := by
  unfold oneK at h
  split at h
  · obtain ⟨rfl, h⟩ := h; exact ⟨_, rfl, h⟩
  · exact h.elim

theorem CallG_mono {o : Oper} {K K' : List Loc → List (Loc × Cont) → Prop} (h : CallG C o st K) (hk : ∀ l outs, K l outs → K' l outs) : CallG C o st K' := by
  obtain ⟨l, outs, h1, h2⟩ := h
  exact ⟨l, outs, hk _ _ h1, h2⟩

/-- An operation that is wanted or not: its slot has a value, or is bare. -/
theorem Rn_lazy {k : Nat} {done : List (Nat × Nat)} {o : Oper} {l : List Oper} {j d d' : Nat} {b w : Bool} {x : AV} (hg : o.guard = some (j, b)) (hd : lookN j done = some d) (hdst : o.dst = some d') (hw : ∀ K0 : Bool → Prop, Imp (K0 w) (wantK (lookT d st.t) b K0)) (hn : d' < st.n)
    (h : w = true → ∀ K0 : AV → Prop, Imp (K0 x) (opG C T o st fun _ outs => oneK d' outs K0))
    (hst : ∀ K0 : St → Prop, Imp (K0 st') (K0 { st with t := putT d' (bif w then x else UD) st.t }))
    (hk : Rn C T (.o (k + 1) (addN k o.dst done) l :: r) st' K) : Rn C T (.o k done (o :: l) :: r) st K := by
  have hk' := (hst fun s => Rn C T (.o (k + 1) (addN k o.dst done) l :: r) s K).run hk
  rcases wantK_ok ((hw fun w' => w' = w).run rfl) with ⟨q, hq, hqw⟩ | ⟨xs, hq, hqw⟩
  · refine Rn_guard hg hd hq (fun he => ?_) (fun he => ?_)
    · have hwt : w = true := by rw [← hqw, he]; simp
      refine ⟨_, fun K0 hK => ?_, hk'⟩
      refine CallG_mono (opG_ok ((h hwt fun x' => x' = x).run rfl)) fun l outs ho => ?_
      obtain ⟨x', rfl, rfl⟩ := oneK_ok ho
      rw [hwt] at hK
      exact hK
    · have hwf : w = false := by rw [← hqw, he]; cases b <;> rfl
      refine ⟨_, ⟨by simpa [dstOk, hdst] using hn, rfl⟩, ?_⟩
      rw [hwf] at hk'
      simpa [skipped, hdst] using hk'
  · refine Rn_guard_un hg hd hq (by simpa [dstOk, hdst] using hn) rfl ?_
    rw [← hqw] at hk'
    simpa [skipped, hdst] using hk'

/-- A region that draws its order: what is left of it. -/
def Rd (C : Ctx) (T : List (Ct C)) (k : Nat) (done : List (Nat × Nat)) (l : List Oper) (st : St) (fps : List (List Loc × List Loc)) (edges : List (List Nat)) (r : List It) (K : Exit → St → Prop) : Prop :=
  drun C T k done l st fps fun fps s => indepB edges fps = true ∧ Rn C T r s K

theorem Rn_draw {id : Nat} {l : List Oper} (h : Rd C T 0 [] l st [] (edgesOf l) r K) : Rn C T (.c (.region id l.toArray true) :: r) st K :=
  fun e a w hs => (DrawG_of (T := T) (ops := l.toArray) (K := ck C r K .normal) h) e a w _ hs fun a' w' st' h1 h2 => ⟨st', h1, h2⟩

variable {k : Nat} {done : List (Nat × Nat)} {o : Oper} {l : List Oper} {fps : List (List Loc × List Loc)} {edges : List (List Nat)} {rds : List Loc} {ws : List (Loc × Cont)} {j d : Nat} {b q : Bool}

theorem Rd_nil (h : indepB edges fps = true) (hk : Rn C T r st K) : Rd C T k done [] st fps edges r K := ⟨h, hk⟩
theorem Rd_op (hg : o.guard = none) (h : ∀ K0 : List Loc → List (Loc × Cont) → St → Prop, Imp (K0 rds ws st') (opG C T o st fun l outs => wk outs = true ∧ K0 l outs (st.upd outs)))
    (hk : Rd C T (k + 1) (addN k o.dst done) l st' (fps ++ [(rds, ws.map (·.1))]) edges r K) : Rd C T k done (o :: l) st fps edges r K := by
  unfold Rd drun stepD
  rw [hg]
  exact opG_ok ((h (fun rds outs s => drun C T (k + 1) (addN k o.dst done) l s (fps ++ [(rds, outs.map (·.1))]) fun fps s => indepB edges fps = true ∧ Rn C T r s K)).run hk)
theorem Rd_guard (hg : o.guard = some (j, b)) (hd : lookN j done = some d) (hq : lookT d st.t = .r (.v (.bool q)))
    (h1 : q = b → ∃ rds ws st', (∀ K0 : List Loc → List (Loc × Cont) → St → Prop, Imp (K0 rds ws st') (opG C T o st fun l outs => wk outs = true ∧ K0 l outs (st.upd outs))) ∧ Rd C T (k + 1) (addN k o.dst done) l st' (fps ++ [(.T d :: rds, ws.map (·.1))]) edges r K)
    (h2 : q = (!b) → ∃ ws st', (dstOk o st.n = true ∧ ws = (match o.dst with | some d' => [.T d'] | none => []) ∧ skipped o st = st') ∧ Rd C T (k + 1) (addN k o.dst done) l st' (fps ++ [([.T d], ws)]) edges r K) : Rd C T k done (o :: l) st fps edges r K := by
  unfold Rd drun stepD
  rw [hg]
  simp only [hd, hq]
  refine ⟨fun hb => ?_, fun hb => ?_⟩
  · obtain ⟨rds, ws, st', h3, h4⟩ := h1 (by simpa using hb)
    exact opG_ok ((h3 (fun rds outs s => drun C T (k + 1) (addN k o.dst done) l s (fps ++ [(.T d :: rds, outs.map (·.1))]) fun fps s => indepB edges fps = true ∧ Rn C T r s K)).run h4)
  · obtain ⟨ws, st', ⟨h3, h4, h5⟩, h6⟩ := h2 (by cases q <;> cases b <;> simp_all)
    refine ⟨h3, [], ?_⟩
    subst h4; subst h5
    unfold Rd at h6
    cases hdst : o.dst with
    | none => simpa [hdst, St.upd, skipped] using h6
    | some d' => simpa [hdst, St.upd, skipped, St.set] using h6
theorem Rd_guard_yes (hg : o.guard = some (j, b)) (hd : lookN j done = some d) (hq : lookT d st.t = .r (.v (.bool b)))
    (h : ∀ K0 : List Loc → List (Loc × Cont) → St → Prop, Imp (K0 rds ws st') (opG C T o st fun l outs => wk outs = true ∧ K0 l outs (st.upd outs)))
    (hk : Rd C T (k + 1) (addN k o.dst done) l st' (fps ++ [(.T d :: rds, ws.map (·.1))]) edges r K) : Rd C T k done (o :: l) st fps edges r K :=
  Rd_guard hg hd hq (fun _ => ⟨rds, ws, st', h, hk⟩) (fun h => by cases b <;> simp at h)
theorem Rd_guard_no (hg : o.guard = some (j, b)) (hd : lookN j done = some d) (hq : lookT d st.t = .r (.v (.bool q))) (hqb : q = (!b)) (h : dstOk o st.n = true) {ws : List Loc} (hw : ws = (match o.dst with | some d' => [.T d'] | none => [])) (hs : skipped o st = st')
    (hk : Rd C T (k + 1) (addN k o.dst done) l st' (fps ++ [([.T d], ws)]) edges r K) : Rd C T k done (o :: l) st fps edges r K :=
  Rd_guard hg hd hq (fun h => by subst h; cases q <;> simp at hqb) (fun _ => ⟨ws, st', ⟨h, hw, hs⟩, hk⟩)
theorem Rd_guard_un {xs : Array Value} (hg : o.guard = some (j, b)) (hd : lookN j done = some d) (hq : lookT d st.t = .r (.v (.tuple xs))) (h : dstOk o st.n = true) {ws : List Loc} (hw : ws = (match o.dst with | some d' => [.T d'] | none => [])) (hs : skipped o st = st')
    (hk : Rd C T (k + 1) (addN k o.dst done) l st' (fps ++ [([.T d], ws)]) edges r K) : Rd C T k done (o :: l) st fps edges r K := by
  unfold Rd drun stepD
  rw [hg]
  simp only [hd, hq]
  refine ⟨h, [], ?_⟩
  subst hw; subst hs
  unfold Rd at hk
  cases hdst : o.dst with
  | none => simpa [hdst, St.upd, skipped] using hk
  | some d' => simpa [hdst, St.upd, skipped, St.set] using hk
theorem Rd_lazy {d' : Nat} {w : Bool} {x : AV} (hg : o.guard = some (j, b)) (hd : lookN j done = some d) (hdst : o.dst = some d') (hw : ∀ K0 : Bool → Prop, Imp (K0 w) (wantK (lookT d st.t) b K0)) (hn : d' < st.n)
    (h : w = true → ∀ K0 : List Loc → AV → Prop, Imp (K0 rds x) (opG C T o st fun l outs => oneK d' outs (K0 l)))
    (hst : ∀ K0 : St → Prop, Imp (K0 st') (K0 { st with t := putT d' (bif w then x else UD) st.t }))
    (hk : Rd C T (k + 1) (addN k o.dst done) l st' (fps ++ [(.T d :: rds, [.T d'])]) edges r K) : Rd C T k done (o :: l) st fps edges r K := by
  have hk' := (hst fun s => Rd C T (k + 1) (addN k o.dst done) l s (fps ++ [(.T d :: rds, [.T d'])]) edges r K).run hk
  have no : w = false → skipped o st = { st with t := putT d' (bif w then x else UD) st.t } := fun hwf => by rw [hwf]; simp [skipped, hdst]
  rcases wantK_ok ((hw fun w' => w' = w).run rfl) with ⟨q, hq, hqw⟩ | ⟨xs, hq, hqw⟩
  · unfold Rd drun stepD
    rw [hg]
    simp only [hd, hq]
    refine ⟨fun hb => ?_, fun hb => ⟨by simpa [dstOk, hdst] using hn, rds, ?_⟩⟩
    · have hwt : w = true := by rw [← hqw, hb]
      refine CallG_mono (opG_ok ((h hwt fun l' x' => l' = rds ∧ x' = x).run ⟨rfl, rfl⟩)) fun l' outs ho => ?_
      obtain ⟨x', rfl, rfl, rfl⟩ := oneK_ok ho
      refine ⟨rfl, ?_⟩
      rw [hwt] at hk'
      unfold Rd at hk'
      exact hk'
    · have hwf : w = false := by rw [← hqw, hb]
      unfold Rd at hk'
      rw [hwf] at hk'
      simpa [hdst, St.upd, St.set] using hk'
  · unfold Rd drun stepD
    rw [hg]
    simp only [hd, hq]
    refine ⟨by simpa [dstOk, hdst] using hn, rds, ?_⟩
    unfold Rd at hk'
    rw [← hqw] at hk'
    simpa [hdst, St.upd, St.set] using hk'
theorem Rd_st (h : ∀ K0 : St → Prop, Imp (K0 st') (K0 st)) (hk : Rd C T k done l st' fps edges r K) : Rd C T k done l st fps edges r K := (h fun s => Rd C T k done l s fps edges r K).run hk
/-- A guard that is not told: both ways. -/
theorem Rd_split (_ : o.guard = some (j, b)) (_ : lookN j done = some d) (_ : lookT d st.t = .r (.v (.bool q))) (h1 : q = true → Rd C T k done (o :: l) st fps edges r K) (h2 : q = false → Rd C T k done (o :: l) st fps edges r K) : Rd C T k done (o :: l) st fps edges r K := by
  cases q with
  | true => exact h1 rfl
  | false => exact h2 rfl
theorem Rn_split (_ : o.guard = some (j, b)) (_ : lookN j done = some d) (_ : lookT d st.t = .r (.v (.bool q))) (h1 : q = true → Rn C T (.o k done (o :: l) :: r) st K) (h2 : q = false → Rn C T (.o k done (o :: l) :: r) st K) : Rn C T (.o k done (o :: l) :: r) st K := by
  cases q with
  | true => exact h1 rfl
  | false => exact h2 rfl

/-- Does anything follow? -/
def hasC : List It → Bool
  | [] => false
  | .b _ :: r => hasC r
  | _ => true

theorem Rn_le (hr : hasC r = true) (h : Le st st') (hk : Rn C T r st' K) : Rn C T r st K := by
  unfold Rn at *
  induction r with
  | nil => simp [hasC] at hr
  | cons i r ih =>
    cases i with
    | b id =>
      rw [ck_b] at hk ⊢
      exact ih (by simpa [hasC] using hr) hk
    | c c => exact lwp_weaken h hk
    | o k done l => exact fun ops h1 h2 => lops_weaken h (hk ops h1 h2)

/-- Code first, to a state that all its ways come to; then what follows it. -/
theorem Rn_cut {c : Code} (hr : hasC r = true) (h : Rn C T [.c c] st (thenK (fun s => Le s st') (ck C r K))) (hk : Rn C T r st' K) : Rn C T (.c c :: r) st K := by
  show lwp C c st (ck C r K)
  refine lwp_mono (h : lwp C c st (ck C [] _)) fun x s hx => ?_
  have hx' : thenK (fun s => Le s st') (ck C r K) x s := by cases x <;> exact hx
  cases x with
  | normal => exact Rn_le hr hx' hk
  | _ => exact hx'

/-- A loop, met. -/
theorem Rn_loop {c : Code} {α : Type} (I : α → Prop) (f : α → St) (μ : α → Nat) (x0 : α) (hst : Le st (f x0)) (h0 : I x0)
    (round : ∀ x, I x → Rn C T [.c c] (f x) (thenK (fun s => ∃ y, I y ∧ μ y < μ x ∧ Le s (f y)) (ck C r K))) : Rn C T (.c (.loop c) :: r) st K := by
  refine lwp_loop I f μ x0 hst h0 fun x hx => ?_
  exact round x hx

theorem ck_exit {id : Nat} {r' : List It} (hr : toB id r = some r') (h : Rn C T r' st K) : ck C r K (.exit id) st := toB_ok.1 r' hr h
theorem ck_ret' (h : K .ret st) : ck C r K .ret st := ck_ret h
end

/-- The end of a function that leaves no resource. -/
theorem Fin_pure {C : Ctx} {fn : Func} {r : AV} {x : Exit} {st : St} {rl : List ResultVar} {xs : List AV} (hx : x = .normal ∨ x = .ret) (hr : fn.results = rl.toArray) (h : resK st C.P rl xs) (he : r = resV xs) (hin : within none0 r = true) : Fin C fn r [] x st := by
  have hd : domR [] = none0 := by funext k; rfl
  exact ⟨hx, ⟨xs, by rw [hr]; exact h, he⟩, fun k hk => by rw [hd] at hk; simp [none0] at hk, by rw [hd]; exact hin, fun k => trivial⟩

theorem Fin_1 {C : Ctx} {fn : Func} {r : AV} {x : Exit} {st : St} {t : Nat} (hx : x = .normal ∨ x = .ret) (hr : fn.results = #[.tmp t]) (h : lookT t st.t = r) (hin : within none0 r = true) : Fin C fn r [] x st :=
  Fin_pure (rl := [.tmp t]) (xs := [r]) hx hr ⟨h, trivial⟩ rfl hin

/-- The results of a function, read. -/
def resG (st : St) (P : Program) : List ResultVar → (List AV → Prop) → Prop
  | [], K => K []
  | .tmp t :: l, K => resG st P l fun xs => K (lookT t st.t :: xs)
  | .cell t ty :: l, K => match lookT t st.t with
    | .os k ver => match lookR k st.rs with
      | (cv, .bx cells) => ver = cv ∧ loadK P ty cells fun x => resG st P l fun xs => K (x :: xs)
      | _ => False
    | _ => False

theorem resG_ok {st : St} {P : Program} : ∀ {l : List ResultVar} {K : List AV → Prop}, resG st P l K → ∃ xs, resK st P l xs ∧ K xs
  | [], K, h => ⟨[], trivial, h⟩
  | .tmp t :: l, K, h => by
    obtain ⟨xs, h1, h2⟩ := resG_ok (l := l) h
    exact ⟨lookT t st.t :: xs, ⟨rfl, h1⟩, h2⟩
  | .cell t ty :: l, K, h => by
    unfold resG at h
    split at h
    · rename_i k ver h0
      split at h
      · rename_i cv cells hk
        obtain ⟨rfl, h⟩ := h
        obtain ⟨x, h, hx⟩ := loadK_ok h
        obtain ⟨xs, h1, h2⟩ := resG_ok (l := l) h
        exact ⟨x :: xs, ⟨⟨k, ver, cells, h0, hk, hx⟩, h1⟩, h2⟩
      · exact h.elim
    · exact h.elim

/-- The end of a pure function. -/
def FinK (C : Ctx) (rl : List ResultVar) (r : AV) (x : Exit) (st : St) : Prop :=
  match x with
  | .normal | .ret => resG st C.P rl fun xs => resV xs = r
  | _ => False

/-- A pure function's contract. -/
theorem FCp_of {C : Ctx} (T : List (Ct C)) {f : Nat} {fn : Func} {body : Code} {args : List AV} {r : AV} (hf : C.P.funcs[f]? = some fn) (hb : fn.body = some body) {nt : Nat} (hnt : fn.ntmps = nt) (hn : args.length ≤ nt) {rl : List ResultVar} (hr : fn.results = rl.toArray) (hw : within none0 r = true)
    (h : Rn C T [.c body] ⟨nt, argT 0 args, []⟩ (FinK C rl r)) : FC C f args [] r [] := by
  subst hnt
  refine FC_body hf hb hn (lwp_mono (h : lwp C body _ (ck C [] (FinK C rl r))) fun x s hx => ?_)
  have hx' : FinK C rl r x s := by cases x <;> exact hx
  have key : ∀ (hq : resG s C.P rl fun xs => resV xs = r) (hx : x = .normal ∨ x = .ret), Fin C fn r [] x s := fun hq hx => by
    obtain ⟨xs, h1, h2⟩ := resG_ok hq
    exact Fin_pure hx hr h1 h2.symm hw
  cases x with
  | normal => exact key hx' (.inl rfl)
  | ret => exact key hx' (.inr rfl)
  | _ => exact hx'.elim

attribute [irreducible] Rn Rd

end Go.Proofs.YtjbhpoolghfhiaaDoor
