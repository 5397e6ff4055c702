/- Rules by which code is walked: guards told first, slots that nobody reads any more forgotten. No condition: plain lemmas. -/
import Derived.Test.YtjbhpoolghfhiaaDoorAv20
namespace Go.Proofs.YtjbhpoolghfhiaaDoor
set_option linter.unusedVariables false
set_option linter.unusedSimpArgs false
set_option maxHeartbeats 10000000
open Go

/-- Is it among them? -/
def memN (k : Nat) : List Nat → Bool
  | [] => false
  | j :: l => if k = j then true else memN k l

/-- The slots that are kept. -/
def trimT (keep : List Nat) : List (Nat × AV) → List (Nat × AV)
  | [] => []
  | (k, x) :: l => if memN k keep = true then (k, x) :: trimT keep l else trimT keep l

theorem trimT_look (keep : List Nat) (d : Nat) : ∀ t : List (Nat × AV), lookT d (trimT keep t) = .any ∨ lookT d (trimT keep t) = lookT d t
  | [] => .inl rfl
  | (k, x) :: l => by
    have ih := trimT_look keep d l
    by_cases hd : d = k
    · subst hd
      by_cases hm : memN d keep = true
      · right; simp [trimT, lookT, hm]
      · left
        have gone : ∀ t : List (Nat × AV), lookT d (trimT keep t) = .any := fun t => by
          induction t with
          | nil => rfl
          | cons p t ih =>
            obtain ⟨k, y⟩ := p
            by_cases h2 : d = k
            · subst h2; simpa [trimT, hm] using ih
            · unfold trimT; split
              · simpa [lookT, h2] using ih
              · exact ih
        simpa [trimT, hm] using gone l
    · unfold trimT; split
      · simpa [lookT, hd] using ih
      · simpa [lookT, hd] using ih

def lookL (id : Nat) : List (Nat × List Nat) → Option (List Nat)
  | [] => none
  | (k, x) :: l => if id = k then some x else lookL id l

section
variable {C : Ctx} {T : List (Ct C)} {r : List It} {st st' : St} {K : Exit → St → Prop}

theorem Rn_trim {keep : List Nat} {i : It} (hi : hasC (i :: r) = true) (h : Rn C T (i :: r) { st with t := trimT keep st.t } K) : Rn C T (i :: r) st K :=
  Rn_le (st' := { st with t := trimT keep st.t }) hi ⟨rfl, fun d => trimT_look keep d st.t, fun _ => .inl rfl⟩ h

theorem Rn_region' (L : List (Nat × List Nat)) {id : Nat} {l : List Oper} {keep : List Nat} (hL : lookL id L = some keep) (hst : ∀ K0 : St → Prop, Imp (K0 st') (K0 { st with t := trimT keep st.t })) (h : Rn C T (.o 0 [] l :: r) st' K) : Rn C T (.c (.region id l.toArray false) :: r) st K :=
  Rn_trim (keep := keep) rfl (Rn_region ((hst fun s => Rn C T (.o 0 [] l :: r) s K).run h))

theorem Rn_draw' (L : List (Nat × List Nat)) {id : Nat} {l : List Oper} {keep : List Nat} (hL : lookL id L = some keep) (hst : ∀ K0 : St → Prop, Imp (K0 st') (K0 { st with t := trimT keep st.t })) (h : Rd C T 0 [] l st' [] (edgesOf l) r K) : Rn C T (.c (.region id l.toArray true) :: r) st K :=
  Rn_trim (keep := keep) rfl (Rn_draw ((hst fun s => Rd C T 0 [] l s [] (edgesOf l) r K).run h))

variable {k k' : Nat} {done done' : List (Nat × Nat)} {o : Oper} {l : List Oper} {j d d' : Nat} {b w q : Bool} {x : AV}

theorem Rn_op' (hg : o.guard = none) (h : ∀ K0 : Nat → List (Nat × Nat) → St → Prop, Imp (K0 k' done' st') (opG C T o st fun _ outs => K0 (k + 1) (addN k o.dst done) (st.upd outs)))
    (hk : Rn C T (.o k' done' l :: r) st' K) : Rn C T (.o k done (o :: l) :: r) st K := by
  unfold Rn at hk ⊢
  refine stepG_ok (T := T) (K' := fun s => lopsX C (k + 1) (addN k o.dst done) l s (ck C r K .normal)) ?_ fun s hs => hs
  unfold stepG'
  rw [hg]
  exact opG_ok ((h fun k d s => lopsX C k d l s (ck C r K .normal)).run hk)

/-- What is left, where the guard's slot is known. -/
def RnG (C : Ctx) (T : List (Ct C)) (k : Nat) (done : List (Nat × Nat)) (o : Oper) (l : List Oper) (r : List It) (st : St) (K : Exit → St → Prop) (d : Nat) (b : Bool) (x : AV) : Prop :=
  ∀ j, o.guard = some (j, b) → lookN j done = some d → lookT d st.t = x → Rn C T (.o k done (o :: l) :: r) st K

theorem Rn_g (hg : o.guard = some (j, b)) (hd : lookN j done = some d) (hx : ∀ K0 : AV → Prop, Imp (K0 x) (K0 (lookT d st.t))) (h : RnG C T k done o l r st K d b x) : Rn C T (.o k done (o :: l) :: r) st K :=
  h j hg hd ((hx fun y => y = x).run rfl)

theorem Rn_guardC (hg : o.guard = some (j, b)) (hd : lookN j done = some d) (hq : lookT d st.t = .r (.v (.bool q)))
    (h1 : q = b → CallG C o st fun _ outs => Rn C T (.o (k + 1) (addN k o.dst done) l :: r) (st.upd outs) K)
    (h2 : q = (!b) → dstOk o st.n = true ∧ Rn C T (.o (k + 1) (addN k o.dst done) l :: r) (skipped o st) K) : Rn C T (.o k done (o :: l) :: r) st K := by
  unfold Rn at h1 h2 ⊢
  refine stepG_ok (T := T) (K' := fun s => lopsX C (k + 1) (addN k o.dst done) l s (ck C r K .normal)) ?_ fun s hs => hs
  unfold stepG'
  rw [hg]
  simp only [hd, hq]
  exact ⟨fun hb => h1 (by simpa using hb), fun hb => h2 (by cases q <;> cases b <;> simp_all)⟩

theorem Rn_unC {xs : Array Value} (hg : o.guard = some (j, b)) (hd : lookN j done = some d) (hq : lookT d st.t = .r (.v (.tuple xs)))
    (h : dstOk o st.n = true) (hk : Rn C T (.o (k + 1) (addN k o.dst done) l :: r) (skipped o st) K) : Rn C T (.o k done (o :: l) :: r) st K := Rn_guard_un hg hd hq h rfl hk

theorem RnG_yes (h : ∀ K0 : Nat → List (Nat × Nat) → St → Prop, Imp (K0 k' done' st') (opG C T o st fun _ outs => K0 (k + 1) (addN k o.dst done) (st.upd outs)))
    (hk : Rn C T (.o k' done' l :: r) st' K) : RnG C T k done o l r st K d b (.r (.v (.bool b))) := by
  intro j hg hd hx
  refine Rn_guardC hg hd hx (fun _ => ?_) (fun h => by cases b <;> simp at h)
  exact opG_ok ((h fun k d s => Rn C T (.o k d l :: r) s K).run hk)

theorem RnG_no (hq : q = !b) (hn : dstOk o st.n = true) (h : ∀ K0 : Nat → List (Nat × Nat) → St → Prop, Imp (K0 k' done' st') (K0 (k + 1) (addN k o.dst done) (skipped o st)))
    (hk : Rn C T (.o k' done' l :: r) st' K) : RnG C T k done o l r st K d b (.r (.v (.bool q))) := by
  intro j hg hd hx
  refine Rn_guardC hg hd hx (fun h => by subst h; cases q <;> simp at hq) (fun _ => ⟨hn, ?_⟩)
  exact (h fun k d s => Rn C T (.o k d l :: r) s K).run hk
theorem RnG_t_no (hn : dstOk o st.n = true) (h : ∀ K0 : Nat → List (Nat × Nat) → St → Prop, Imp (K0 k' done' st') (K0 (k + 1) (addN k o.dst done) (skipped o st)))
    (hk : Rn C T (.o k' done' l :: r) st' K) : RnG C T k done o l r st K d false (.r (.v (.bool true))) := RnG_no rfl hn h hk
theorem RnG_f_no (hn : dstOk o st.n = true) (h : ∀ K0 : Nat → List (Nat × Nat) → St → Prop, Imp (K0 k' done' st') (K0 (k + 1) (addN k o.dst done) (skipped o st)))
    (hk : Rn C T (.o k' done' l :: r) st' K) : RnG C T k done o l r st K d true (.r (.v (.bool false))) := RnG_no rfl hn h hk
theorem RnG_un {xs : Array Value} (hn : dstOk o st.n = true) (h : ∀ K0 : Nat → List (Nat × Nat) → St → Prop, Imp (K0 k' done' st') (K0 (k + 1) (addN k o.dst done) (skipped o st)))
    (hk : Rn C T (.o k' done' l :: r) st' K) : RnG C T k done o l r st K d b (.r (.v (.tuple xs))) := by
  intro j hg hd hx
  exact Rn_unC hg hd hx hn ((h fun k d s => Rn C T (.o k d l :: r) s K).run hk)

theorem RnG_lazy {y : AV} (hdst : o.dst = some d') (hw : ∀ K0 : Bool → Prop, Imp (K0 w) (wantK y b K0)) (hn : d' < st.n)
    (h : w = true → ∀ K0 : AV → Prop, Imp (K0 x) (opG C T o st fun _ outs => oneK d' outs K0))
    (hst : ∀ K0 : Nat → List (Nat × Nat) → St → Prop, Imp (K0 k' done' st') (K0 (k + 1) (addN k o.dst done) { st with t := putT d' (bif w then x else UD) st.t }))
    (hk : Rn C T (.o k' done' l :: r) st' K) : RnG C T k done o l r st K d b y := by
  intro j hg hd hx
  subst hx
  exact Rn_lazy hg hd hdst hw hn h (fun _ => ⟨id⟩) ((hst fun k d s => Rn C T (.o k d l :: r) s K).run hk)

theorem RnG_split (h1 : q = true → Rn C T (.o k done (o :: l) :: r) st K) (h2 : q = false → Rn C T (.o k done (o :: l) :: r) st K) : RnG C T k done o l r st K d b (.r (.v (.bool q))) := by
  intro j hg hd hx
  cases q with
  | true => exact h1 rfl
  | false => exact h2 rfl
theorem RnG_bif {y z : AV} (h1 : w = true → Rn C T (.o k done (o :: l) :: r) st K) (h2 : w = false → Rn C T (.o k done (o :: l) :: r) st K) : RnG C T k done o l r st K d b (bif w then y else z) := by
  intro j hg hd hx
  cases w with
  | true => exact h1 rfl
  | false => exact h2 rfl

/-- What is left, where a test's value is known. -/
def RnC (C : Ctx) (T : List (Ct C)) (c : Operand) (a b : Code) (r : List It) (st : St) (K : Exit → St → Prop) (x : AV) : Prop := ev st c = x → Rn C T (.c (.cond c a b) :: r) st K
theorem Rn_c {c : Operand} {a b : Code} (hx : ∀ K0 : AV → Prop, Imp (K0 x) (K0 (ev st c))) (h : RnC C T c a b r st K x) : Rn C T (.c (.cond c a b) :: r) st K := h ((hx fun y => y = x).run rfl)
theorem RnC_t {c : Operand} {a b : Code} (h : Rn C T (.c a :: r) st K) : RnC C T c a b r st K (.r (.v (.bool true))) := fun hx => Rn_cond_t hx h
theorem RnC_f {c : Operand} {a b : Code} (h : Rn C T (.c b :: r) st K) : RnC C T c a b r st K (.r (.v (.bool false))) := fun hx => Rn_cond_f hx h
theorem RnC_split {c : Operand} {a b : Code} (h1 : q = true → Rn C T (.c a :: r) st K) (h2 : q = false → Rn C T (.c b :: r) st K) : RnC C T c a b r st K (.r (.v (.bool q))) := fun hx => Rn_cond hx h1 h2

variable {fps fps' : List (List Loc × List Loc)} {edges : List (List Nat)} {rds : List Loc} {ws : List (Loc × Cont)}

theorem Rd_op' (hg : o.guard = none) (h : ∀ K0 : Nat → List (Nat × Nat) → List (List Loc × List Loc) → St → Prop, Imp (K0 k' done' fps' st') (opG C T o st fun l outs => wk outs = true ∧ K0 (k + 1) (addN k o.dst done) (fps ++ [(l, outs.map (·.1))]) (st.upd outs)))
    (hk : Rd C T k' done' l st' fps' edges r K) : Rd C T k done (o :: l) st fps edges r K := by
  unfold Rd at hk ⊢
  unfold drun stepD
  rw [hg]
  exact opG_ok ((h fun k done fps s => drun C T k done l s fps fun fps s => indepB edges fps = true ∧ Rn C T r s K).run hk)

def RdG (C : Ctx) (T : List (Ct C)) (k : Nat) (done : List (Nat × Nat)) (o : Oper) (l : List Oper) (st : St) (fps : List (List Loc × List Loc)) (edges : List (List Nat)) (r : List It) (K : Exit → St → Prop) (d : Nat) (b : Bool) (x : AV) : Prop :=
  ∀ j, o.guard = some (j, b) → lookN j done = some d → lookT d st.t = x → Rd C T k done (o :: l) st fps edges r K

theorem Rd_g (hg : o.guard = some (j, b)) (hd : lookN j done = some d) (hx : ∀ K0 : AV → Prop, Imp (K0 x) (K0 (lookT d st.t))) (h : RdG C T k done o l st fps edges r K d b x) : Rd C T k done (o :: l) st fps edges r K :=
  h j hg hd ((hx fun y => y = x).run rfl)

theorem RdG_yes (h : ∀ K0 : Nat → List (Nat × Nat) → List (List Loc × List Loc) → St → Prop, Imp (K0 k' done' fps' st') (opG C T o st fun l outs => wk outs = true ∧ K0 (k + 1) (addN k o.dst done) (fps ++ [(.T d :: l, outs.map (·.1))]) (st.upd outs)))
    (hk : Rd C T k' done' l st' fps' edges r K) : RdG C T k done o l st fps edges r K d b (.r (.v (.bool b))) := by
  intro j hg hd hx
  unfold Rd at hk ⊢
  unfold drun stepD
  rw [hg]
  simp only [hd, hx]
  refine ⟨fun _ => ?_, fun hb => by cases b <;> simp at hb⟩
  exact opG_ok ((h fun k done fps s => drun C T k done l s fps fun fps s => indepB edges fps = true ∧ Rn C T r s K).run hk)

theorem RdG_no (hq : q = !b) (hn : dstOk o st.n = true) (h : ∀ K0 : Nat → List (Nat × Nat) → List (List Loc × List Loc) → St → Prop, Imp (K0 k' done' fps' st') (K0 (k + 1) (addN k o.dst done) (fps ++ [([.T d], match o.dst with | some d' => [.T d'] | none => [])]) (skipped o st)))
    (hk : Rd C T k' done' l st' fps' edges r K) : RdG C T k done o l st fps edges r K d b (.r (.v (.bool q))) := by
  intro j hg hd hx
  exact Rd_guard_no hg hd hx hq hn rfl rfl ((h fun k done fps s => Rd C T k done l s fps edges r K).run hk)
theorem RdG_t_no (hn : dstOk o st.n = true) (h : ∀ K0 : Nat → List (Nat × Nat) → List (List Loc × List Loc) → St → Prop, Imp (K0 k' done' fps' st') (K0 (k + 1) (addN k o.dst done) (fps ++ [([.T d], match o.dst with | some d' => [.T d'] | none => [])]) (skipped o st)))
    (hk : Rd C T k' done' l st' fps' edges r K) : RdG C T k done o l st fps edges r K d false (.r (.v (.bool true))) := RdG_no rfl hn h hk
theorem RdG_f_no (hn : dstOk o st.n = true) (h : ∀ K0 : Nat → List (Nat × Nat) → List (List Loc × List Loc) → St → Prop, Imp (K0 k' done' fps' st') (K0 (k + 1) (addN k o.dst done) (fps ++ [([.T d], match o.dst with | some d' => [.T d'] | none => [])]) (skipped o st)))
    (hk : Rd C T k' done' l st' fps' edges r K) : RdG C T k done o l st fps edges r K d true (.r (.v (.bool false))) := RdG_no rfl hn h hk
theorem RdG_un {xs : Array Value} (hn : dstOk o st.n = true) (h : ∀ K0 : Nat → List (Nat × Nat) → List (List Loc × List Loc) → St → Prop, Imp (K0 k' done' fps' st') (K0 (k + 1) (addN k o.dst done) (fps ++ [([.T d], match o.dst with | some d' => [.T d'] | none => [])]) (skipped o st)))
    (hk : Rd C T k' done' l st' fps' edges r K) : RdG C T k done o l st fps edges r K d b (.r (.v (.tuple xs))) := by
  intro j hg hd hx
  exact Rd_guard_un hg hd hx hn rfl rfl ((h fun k done fps s => Rd C T k done l s fps edges r K).run hk)

theorem RdG_lazy {y : AV} (hdst : o.dst = some d') (hw : ∀ K0 : Bool → Prop, Imp (K0 w) (wantK y b K0)) (hn : d' < st.n)
    (h : w = true → ∀ K0 : List Loc → AV → Prop, Imp (K0 rds x) (opG C T o st fun l outs => oneK d' outs (K0 l)))
    (hst : ∀ K0 : Nat → List (Nat × Nat) → List (List Loc × List Loc) → St → Prop, Imp (K0 k' done' fps' st') (K0 (k + 1) (addN k o.dst done) (fps ++ [(.T d :: rds, [.T d'])]) { st with t := putT d' (bif w then x else UD) st.t }))
    (hk : Rd C T k' done' l st' fps' edges r K) : RdG C T k done o l st fps edges r K d b y := by
  intro j hg hd hx
  subst hx
  exact Rd_lazy hg hd hdst hw hn h (fun _ => ⟨id⟩) ((hst fun k done fps s => Rd C T k done l s fps edges r K).run hk)

/-- An operation that is not wanted, whatever its guard's slot is. -/
theorem RnG_never {y : AV} (hw : ∀ K0 : Bool → Prop, Imp (K0 false) (wantK y b K0)) (hn : dstOk o st.n = true)
    (h : ∀ K0 : Nat → List (Nat × Nat) → St → Prop, Imp (K0 k' done' st') (K0 (k + 1) (addN k o.dst done) (skipped o st)))
    (hk : Rn C T (.o k' done' l :: r) st' K) : RnG C T k done o l r st K d b y := by
  rcases wantK_ok ((hw fun w' => w' = false).run rfl) with ⟨q, rfl, hq⟩ | ⟨xs, rfl, _⟩
  · exact RnG_no (by cases q <;> cases b <;> simp_all) hn h hk
  · exact RnG_un hn h hk
theorem RdG_never {y : AV} (hw : ∀ K0 : Bool → Prop, Imp (K0 false) (wantK y b K0)) (hn : dstOk o st.n = true)
    (h : ∀ K0 : Nat → List (Nat × Nat) → List (List Loc × List Loc) → St → Prop, Imp (K0 k' done' fps' st') (K0 (k + 1) (addN k o.dst done) (fps ++ [([.T d], match o.dst with | some d' => [.T d'] | none => [])]) (skipped o st)))
    (hk : Rd C T k' done' l st' fps' edges r K) : RdG C T k done o l st fps edges r K d b y := by
  rcases wantK_ok ((hw fun w' => w' = false).run rfl) with ⟨q, rfl, hq⟩ | ⟨xs, rfl, _⟩
  · exact RdG_no (by cases q <;> cases b <;> simp_all) hn h hk
  · exact RdG_un hn h hk

theorem RdG_split (h1 : q = true → Rd C T k done (o :: l) st fps edges r K) (h2 : q = false → Rd C T k done (o :: l) st fps edges r K) : RdG C T k done o l st fps edges r K d b (.r (.v (.bool q))) := by
  intro j hg hd hx
  cases q with
  | true => exact h1 rfl
  | false => exact h2 rfl
theorem RdG_bif {y z : AV} (h1 : w = true → Rd C T k done (o :: l) st fps edges r K) (h2 : w = false → Rd C T k done (o :: l) st fps edges r K) : RdG C T k done o l st fps edges r K d b (bif w then y else z) := by
  intro j hg hd hx
  cases w with
  | true => exact h1 rfl
  | false => exact h2 rfl

end

attribute [irreducible] RnG RdG RnC

end Go.Proofs.YtjbhpoolghfhiaaDoor
