/- Calls, told of states: contracts; a function's body. No condition: plain lemmas. -/
import Derived.Test.YtjbhpoolghfhiaaDoorAv14
namespace Go.Proofs.YtjbhpoolghfhiaaDoor
set_option linter.unusedVariables false
set_option linter.unusedSimpArgs false
set_option maxHeartbeats 10000000
open Go

mutual
/-- Does a value name but slots of which ok holds? -/
def within (ok : Nat → Bool) : AV → Bool
  | .r _ => true
  | .os k _ => ok k
  | .rf k _ _ => ok k
  | .re k _ _ _ _ => ok k
  | .agg cs => withinL ok cs
  | .tup cs => withinL ok cs
  | .any => true
def withinL (ok : Nat → Bool) : List AV → Bool
  | [] => true
  | x :: l => within ok x && withinL ok l
end

mutual
/-- Slots and versions told otherwise. -/
def ren (σ δ : Nat → Nat) : AV → AV
  | .r x => .r x
  | .os k v => .os (σ k) (v + δ k)
  | .rf k v o => .rf (σ k) (v + δ k) o
  | .re k v s i o => .re (σ k) (v + δ k) s i o
  | .agg cs => .agg (renL σ δ cs)
  | .tup cs => .tup (renL σ δ cs)
  | .any => .any
def renL (σ δ : Nat → Nat) : List AV → List AV
  | [] => []
  | x :: l => ren σ δ x :: renL σ δ l
end

def renRes (σ δ : Nat → Nat) : Res → Res
  | .gone => .gone
  | .bx cells => .bx (renL σ δ cells)
  | .sl e sz rows => .sl e sz (rows.map (renL σ δ))
  | .mp f n => .mp f n

def withinRes (ok : Nat → Bool) : Res → Prop
  | .gone => True
  | .bx cells => withinL ok cells = true
  | .sl _ _ rows => ∀ row ∈ rows, withinL ok row = true
  | .mp _ _ => True

theorem withinL_get {ok : Nat → Bool} : ∀ {l : List AV}, withinL ok l = true → ∀ (j : Nat) (x : AV), l[j]? = some x → within ok x = true
  | y :: l, h, 0, x, hx => by
    simp only [withinL, Bool.and_eq_true] at h
    simp at hx; subst hx; exact h.1
  | y :: l, h, j + 1, x, hx => by
    simp only [withinL, Bool.and_eq_true] at h
    exact withinL_get h.2 j x (by simpa using hx)

theorem renL_get {σ δ : Nat → Nat} : ∀ {l : List AV} (j : Nat), (renL σ δ l)[j]? = (l[j]?).map (ren σ δ)
  | [], j => by simp [renL]
  | x :: l, 0 => by simp [renL]
  | x :: l, j + 1 => by simp only [renL, List.getElem?_cons_succ]; exact renL_get j

theorem renL_len {σ δ : Nat → Nat} : ∀ {l : List AV}, (renL σ δ l).length = l.length
  | [] => rfl
  | x :: l => by simp [renL, renL_len]

/-- A value whose slots are told of otherwise. -/
theorem AR.limit {cur cur' : Nat → Nat} {g g' : Gh} {w w' : World} {N N' : Nat → Prop} {x : AV} {v : Value} (h : AR cur g w N x v) {ok : Nat → Bool} (hw : within ok x = true) (σ δ : Nat → Nat) (hs : w.heap.size ≤ w'.heap.size)
    (hk : ∀ b, b < w.heap.size → ¬ N b → w'.heap[b]? = w.heap[b]? ∧ ¬ N' b) (hc : ∀ k, ok k = true → cur k + δ k < cur' (σ k) ∨ cur k + δ k = cur' (σ k) ∧ g k = g' (σ k)) : AR cur' g' w' N' (ren σ δ x) v := by
  induction h with
  | r h => exact .r (h.mono hs hk)
  | os k ver v h1 h =>
    simp only [within] at hw
    refine .os _ _ v h1 ?_
    rcases hc k hw with h2 | ⟨h2, h3⟩ <;> rcases h with h | ⟨h, h4⟩
    · left; omega
    · left; omega
    · left; omega
    · right; exact ⟨by omega, by rw [← h3]; exact h4⟩
  | rf k ver off v h1 h =>
    simp only [within] at hw
    refine .rf _ _ _ v h1 ?_
    rcases hc k hw with h2 | ⟨h2, h3⟩ <;> rcases h with h | ⟨h, h4⟩
    · left; omega
    · left; omega
    · left; omega
    · right; exact ⟨by omega, by rw [← h3]; exact h4⟩
  | re k ver sz i off v h1 h =>
    simp only [within] at hw
    refine .re _ _ _ _ _ v h1 ?_
    rcases hc k hw with h2 | ⟨h2, h3⟩ <;> rcases h with h | ⟨h, h4⟩
    · left; omega
    · left; omega
    · left; omega
    · right; exact ⟨by omega, by rw [← h3]; exact h4⟩
  | agg cs xs hs' _ ih =>
    simp only [within] at hw
    refine .agg _ xs (by rw [renL_len]; exact hs') (fun j x y hx hy => ?_)
    rw [renL_get] at hx
    cases hj : cs[j]? with
    | none => simp [hj] at hx
    | some z => simp [hj] at hx; subst hx; exact ih j z y hj hy (withinL_get hw j z hj)
  | tup cs xs hs' _ ih =>
    simp only [within] at hw
    refine .tup _ xs (by rw [renL_len]; exact hs') (fun j x y hx hy => ?_)
    rw [renL_get] at hx
    cases hj : cs[j]? with
    | none => simp [hj] at hx
    | some z => simp [hj] at hx; subst hx; exact ih j z y hj hy (withinL_get hw j z hj)
  | any v => exact .any v

theorem AR.unren {cur cur' : Nat → Nat} {g g' : Gh} {w w' : World} {N N' : Nat → Prop} {ok : Nat → Bool} {σ δ : Nat → Nat} (hs : w.heap.size ≤ w'.heap.size)
    (hk : ∀ b, b < w.heap.size → ¬ N b → w'.heap[b]? = w.heap[b]? ∧ ¬ N' b) (hc : ∀ k, ok k = true → cur (σ k) = cur' k + δ k ∧ g (σ k) = g' k) : ∀ {y : AV} {v : Value}, AR cur g w N y v → ∀ {x : AV}, y = ren σ δ x → within ok x = true → AR cur' g' w' N' x v := by
  intro y v h
  induction h with
  | r h => intro x hx hw; cases x <;> simp [ren] at hx; subst hx; exact .r (h.mono hs hk)
  | os k ver v h1 h =>
    intro x hx hw; cases x <;> simp [ren] at hx
    obtain ⟨rfl, rfl⟩ := hx
    obtain ⟨c1, c2⟩ := hc _ hw
    exact .os _ _ v h1 (h.imp (fun h => by omega) (fun h => ⟨by omega, by rw [← c2]; exact h.2⟩))
  | rf k ver off v h1 h =>
    intro x hx hw; cases x <;> simp [ren] at hx
    obtain ⟨rfl, rfl, rfl⟩ := hx
    obtain ⟨c1, c2⟩ := hc _ hw
    exact .rf _ _ _ v h1 (h.imp (fun h => by omega) (fun h => ⟨by omega, by rw [← c2]; exact h.2⟩))
  | re k ver sz i off v h1 h =>
    intro x hx hw; cases x <;> simp [ren] at hx
    obtain ⟨rfl, rfl, rfl, rfl, rfl⟩ := hx
    obtain ⟨c1, c2⟩ := hc _ hw
    exact .re _ _ _ _ _ v h1 (h.imp (fun h => by omega) (fun h => ⟨by omega, by rw [← c2]; exact h.2⟩))
  | agg cs xs hs' _ ih =>
    intro x hx hw; cases x <;> simp [ren] at hx
    subst hx
    simp only [within] at hw
    refine .agg _ xs (by rw [renL_len] at hs'; exact hs') (fun j x y hj hy => ih j (ren σ δ x) y (by rw [renL_get, hj]; rfl) hy rfl (withinL_get hw j x hj))
  | tup cs xs hs' _ ih =>
    intro x hx hw; cases x <;> simp [ren] at hx
    subst hx
    simp only [within] at hw
    refine .tup _ xs (by rw [renL_len] at hs'; exact hs') (fun j x y hj hy => ih j (ren σ δ x) y (by rw [renL_get, hj]; rfl) hy rfl (withinL_get hw j x hj))
  | any v => intro x hx hw; cases x <;> simp [ren] at hx; exact .any v

/-- The state of a call between frames. -/
abbrev stR (rs : List (Nat × Nat × Res)) : St := ⟨0, [], rs⟩
abbrev act0 : Act := { tmps := #[], defers := [] }

/-- The slots that have a resource. -/
def domR (rs : List (Nat × Nat × Res)) (k : Nat) : Bool := match (lookR k rs).2 with | .gone => false | _ => true

/-- A contract: called with such values, over such resources, the function returns such a value, and leaves such resources. -/
structure FC (C : Ctx) (f : Nat) (args : List AV) (rs0 : List (Nat × Nat × Res)) (r : AV) (rs1 : List (Nat × Nat × Res)) : Prop where
  run : ∀ (e : Env) (g : Gh) (w : World) (vs : Array Value), e.ok C → SR C e (stR rs0) g act0 w → PW (stR rs0).cur g w (e.N (stR rs0) g) args vs →
    Calls C.P f vs w fun x w' => ∃ v g', x = .returned v ∧ SR C (e.re (stR rs1) g') (stR rs1) g' act0 w' ∧ AR (stR rs1).cur g' w' (e.N (stR rs1) g') r v ∧ ∀ k, domR rs1 k = true → e.cur0 k < (stR rs1).cur k ∨ e.cur0 k = (stR rs1).cur k ∧ g' k = e.g0 k

/-- The arguments in the first slots. -/
def argT : Nat → List AV → List (Nat × AV)
  | _, [] => []
  | i, x :: l => (i, x) :: argT (i + 1) l

theorem lookT_arg : ∀ (l : List AV) (i d : Nat), lookT d (argT i l) = if i ≤ d then l.getD (d - i) .any else .any
  | [], i, d => by simp [argT, lookT]
  | x :: l, i, d => by
    simp only [argT, lookT, lookT_arg l (i + 1) d]
    by_cases h : d = i
    · subst h; simp
    · rw [if_neg h]
      by_cases h2 : i ≤ d
      · rw [if_pos (by omega), if_pos h2]
        have : d - i = (d - (i + 1)) + 1 := by omega
        rw [this]; rfl
      · rw [if_neg (by omega), if_neg h2]

/-- What a function's results are, told of a state. -/
def resK (st : St) (P : Program) : List ResultVar → List AV → Prop
  | [], [] => True
  | .tmp t :: l, x :: xs => lookT t st.t = x ∧ resK st P l xs
  | .cell t ty :: l, x :: xs => (∃ k ver cells, lookT t st.t = .os k ver ∧ lookR k st.rs = (ver, .bx cells) ∧ LoadR P ty cells x) ∧ resK st P l xs
  | _, _ => False

/-- One result is itself. -/
def resV : List AV → AV
  | [x] => x
  | l => .tup l

/-- The end of a function: its results, its resources. -/
structure Fin (C : Ctx) (fn : Func) (r : AV) (rs1 : List (Nat × Nat × Res)) (x : Exit) (st : St) : Prop where
  exit : x = .normal ∨ x = .ret
  res : ∃ l, resK st C.P fn.results.toList l ∧ r = resV l
  sub : ∀ k, domR rs1 k = true → lookR k st.rs = lookR k rs1
  inr : within (domR rs1) r = true
  ins : ∀ k, withinRes (domR rs1) (lookR k rs1).2

theorem ren_len {σ δ : Nat → Nat} {l : List AV} : (renL σ δ l).length = l.length := renL_len

mutual
theorem ren_id : ∀ (x : AV), ren id (fun _ => 0) x = x
  | .r _ => rfl
  | .os _ _ => rfl
  | .rf _ _ _ => rfl
  | .re _ _ _ _ _ => rfl
  | .agg cs => by simp only [ren, renL_id cs]
  | .tup cs => by simp only [ren, renL_id cs]
  | .any => rfl
theorem renL_id : ∀ (l : List AV), renL id (fun _ => 0) l = l
  | [] => rfl
  | x :: l => by simp only [renL, ren_id x, renL_id l]
end

theorem domR_of {rs : List (Nat × Nat × Res)} {k : Nat} (h : (lookR k rs).2 ≠ .gone) : domR rs k = true := by
  unfold domR; split
  · rename_i h2; exact absurd h2 h
  · rfl

theorem domR_no {rs : List (Nat × Nat × Res)} {k : Nat} (h : ¬ domR rs k = true) : (lookR k rs).2 = .gone := by
  unfold domR at h; split at h
  · rename_i h2; exact h2
  · simp at h

/-- At the end of a function: slots are forgotten, resources that are not told of are left behind. -/
theorem SR.final {C : Ctx} {e : Env} {st : St} {g : Gh} {a : Act} {w : World} (h : SR C e st g a w) {rs1 : List (Nat × Nat × Res)} (hsub : ∀ k, domR rs1 k = true → lookR k st.rs = lookR k rs1) (hin : ∀ k, withinRes (domR rs1) (lookR k rs1).2) :
    SR C (e.re (stR rs1) g) (stR rs1) g act0 w ∧ ∀ x v, within (domR rs1) x = true → AR st.cur g w (e.N st g) x v → AR (stR rs1).cur g w (e.N (stR rs1) g) x v := by
  have hbl : ∀ k b, blk (stR rs1) g k = some b → blk st g k = some b := fun k b hb => by
    have hd : domR rs1 k = true := domR_of (fun hc => by simp [blk, hc] at hb)
    rw [← blk_of (st := st) (st' := stR rs1) (g := g) (g' := g) (by show (lookR k rs1).2 = _; rw [hsub k hd]) rfl]; exact hb
  have hown : ∀ b, own (stR rs1) g b → own st g b := fun b ⟨k, hk⟩ => ⟨k, hbl k b hk⟩
  have hx : Ext w (own st g) w (own (stR rs1) g) := ⟨rfl, rfl, rfl, Nat.le_refl _, fun b _ hb => ⟨rfl, fun h1 => hb (hown b h1)⟩⟩
  have hl : ∀ x v, within (domR rs1) x = true → AR st.cur g w (e.N st g) x v → AR (stR rs1).cur g w (e.N (stR rs1) g) x v := fun x v hw hv => by
    have := hv.limit hw id (fun _ => 0) (w' := w) (g' := g) (cur' := (stR rs1).cur) (N' := e.N (stR rs1) g) (Nat.le_refl _) (fun b hb hn => ⟨rfl, fun hn' => hn'.elim (fun h1 => hn (.inl h1)) (fun h1 => hn (.inr (hown b h1)))⟩)
      (fun k hk => .inr ⟨by simp only [St.cur, id, Nat.add_zero]; rw [hsub k hk], rfl⟩)
    rwa [ren_id] at this
  refine ⟨⟨rfl, rfl, fun d => .any _, fun k => ?_, fun k k' b hk hk' => h.uniq k k' b (hbl k b hk) (hbl k' b hk'), fun k b hk => h.low k b (hbl k b hk), h.ext.trans hx, fun _ => .inr ⟨rfl, rfl⟩⟩, hl⟩
  by_cases hd : domR rs1 k = true
  · have h1 := h.res k
    rw [hsub k hd] at h1
    have h2 := hin k
    revert h1 h2
    show ResR _ _ _ _ _ (lookR k rs1).2 → _ → ResR _ _ _ _ _ (lookR k rs1).2
    cases (lookR k rs1).2 with
    | gone => intro _ _; trivial
    | bx cells =>
      rintro ⟨b, C', el, q1, q2, q3, q4⟩ q5
      exact ⟨b, C', el, q1, q2, q3, fun j x y hj hy => hl _ _ (withinL_get q5 j x hj) (q4 j x y hj hy)⟩
    | sl el sz rows =>
      rintro ⟨xs, q1, q2, q3⟩ q5
      exact ⟨xs, q1, q2, fun i j row x y hi hj hy => hl _ _ (withinL_get (q5 row (List.mem_of_getElem? hi)) j x hj) (q3 i j row x y hi hj hy)⟩
    | mp f n => intro q _; exact q
  · show ResR _ _ _ _ _ (lookR k rs1).2
    rw [domR_no hd]; trivial

/-- One result. -/
def rvS (a : Act) : ResultVar → Sem Value
  | .tmp t => pure (a.tmps.getD t undef)
  | .cell q t => do loadVar t (← asAddr (a.tmps.getD q undef))

theorem results_eq (fn : Func) (a : Act) : results fn a.tmps = (do let vs ← fn.results.mapM (rvS a); pure (if h : vs.size = 1 then vs[0] else .tuple vs)) := by
  have : ∀ f g : ResultVar → Sem Value, f = g → (do let vs ← fn.results.mapM f; pure (if h : vs.size = 1 then vs[0] else .tuple vs) : Sem Value) = (do let vs ← fn.results.mapM g; pure (if h : vs.size = 1 then vs[0] else .tuple vs)) := fun f g h => by rw [h]
  exact this _ _ (funext fun x => by cases x <;> rfl)

theorem resK_run {C : Ctx} {e : Env} {st : St} {g : Gh} {a : Act} {w : World} (h : SR C e st g a w) : ∀ {l : List ResultVar} {xs : List AV}, resK st C.P l xs →
    ∃ vs, (l.mapM (rvS a)).run C.P w = .ok vs w ∧ vs.length = xs.length ∧
      ∀ (j : Nat) (x : AV) (y : Value), xs[j]? = some x → vs[j]? = some y → AR st.cur g w (e.N st g) x y
  | [], [], _ => ⟨[], rfl, rfl, fun j x y hx => by simp at hx⟩
  | .tmp t :: l, x :: xs, hr => by
    obtain ⟨h1, h2⟩ := hr
    obtain ⟨vs, q1, q2, q3⟩ := resK_run h h2
    have ht := h.temps t
    rw [h1] at ht
    refine ⟨a.tmps.getD t undef :: vs, by simp only [List.mapM_cons, Sem.run_bind, q1, rvS, Sem.run_pure, Result.andThen_ok], by simp [q2], fun j x' y hx hy => ?_⟩
    cases j with
    | zero => simp at hx; subst hx; simp only [List.getElem?_cons_zero, Option.some.injEq] at hy; rw [← hy]; exact ht
    | succ j => exact q3 j x' y (by simpa using hx) (by simpa using hy)
  | .cell t ty :: l, x :: xs, hr => by
    obtain ⟨⟨k, ver, cells, h1, hk, hl⟩, h2⟩ := hr
    obtain ⟨vs, q1, q2, q3⟩ := resK_run h h2
    have ht := h.temps t
    rw [h1] at ht
    obtain ⟨b, hb, hh⟩ := held_bx h hk
    have hv := inv_os ht (curk k hk).symm
    obtain ⟨u, hu, hux⟩ := run_load_of (P := C.P) hl hh
    have hrun : (rvS a (.cell t ty)).run C.P w = .ok u w := by
      simp only [rvS]
      rw [hv, hb]
      simpa [Instr.loadAt, Instr.sureAddr, asAddr] using hu
    refine ⟨u :: vs, by simp only [List.mapM_cons, Sem.run_bind, hrun, q1, Result.andThen_ok, Sem.run_pure], by simp [q2], fun j x' y hx hy => ?_⟩
    cases j with
    | zero => simp at hx hy; subst hx; subst hy; exact hux
    | succ j => exact q3 j x' y (by simpa using hx) (by simpa using hy)
  | [], _ :: _, hr => hr.elim
  | .tmp _ :: _, [], hr => hr.elim
  | .cell _ _ :: _, [], hr => hr.elim

/-- A contract out of a function's body. -/
theorem FC_body {C : Ctx} {f : Nat} {fn : Func} {body : Code} {args : List AV} {rs0 rs1 : List (Nat × Nat × Res)} {r : AV} (hf : C.P.funcs[f]? = some fn) (hb : fn.body = some body) (hn : args.length ≤ fn.ntmps)
    (h : lwp C body ⟨fn.ntmps, argT 0 args, rs0⟩ (Fin C fn r rs1)) : FC C f args rs0 r rs1 := by
  refine ⟨?_⟩
  intro e g w vs hok hs hvs
  refine calls_of_wp hf hb ?_
  have h0 : S C e ⟨fn.ntmps, argT 0 args, rs0⟩ { tmps := vs ++ Array.replicate (fn.ntmps - vs.size) undef, defers := [] } w := by
    refine ⟨hok, g, ⟨rfl, ?_, fun d => ?_, hs.res, hs.uniq, hs.low, hs.ext, hs.hist⟩⟩
    · have := hvs.1; simp; omega
    · show AR (stR rs0).cur g w (e.N (stR rs0) g) (lookT d (argT 0 args)) _
      rw [lookT_arg]
      simp only [Nat.zero_le, if_true, Nat.sub_zero]
      cases hd : args[d]? with
      | none => simp [List.getD, hd]; exact .any _
      | some x =>
        have hlt : d < vs.size := by rw [hvs.1]; exact (List.getElem?_eq_some_iff.1 hd).1
        have hv : vs[d]? = some vs[d] := Array.getElem?_eq_getElem hlt
        have : (vs ++ Array.replicate (fn.ntmps - vs.size) undef).getD d undef = vs[d] := by
          simp [Array.getD_eq_getD_getElem?, Array.getElem?_append_left hlt, hv]
        rw [this]
        simp only [List.getD, hd, Option.getD_some]
        exact hvs.2 d x _ hd hv
  refine wp_mono (h e _ w h0) ?_
  rintro x a' w' ⟨st', ⟨_, g', hs'⟩, hfin⟩
  obtain ⟨l, hl, rfl⟩ := hfin.res
  obtain ⟨us, r1, r2, r3⟩ := resK_run hs' hl
  obtain ⟨f1, f2⟩ := hs'.final hfin.sub hfin.ins
  have key : ∃ v, (results fn a'.tmps).run C.P w' = .ok v w' ∧ AR st'.cur g' w' (e.N st' g') (resV l) v := by
    have hm : (fn.results.mapM (rvS a')).run C.P w' = .ok us.toArray w' := by
      rw [Array.mapM_eq_mapM_toList]
      simp only [Sem.run_map, r1, Result.andThen_ok]
    refine ⟨if h : us.toArray.size = 1 then us.toArray[0] else .tuple us.toArray, ?_, ?_⟩
    · rw [results_eq, Sem.run_bind, hm]; rfl
    · by_cases h1 : us.toArray.size = 1
      · rw [dif_pos h1]
        have hl1 : l.length = 1 := by rw [← r2]; simpa using h1
        match l, hl1 with
        | [x], _ =>
          refine r3 0 x _ rfl ?_
          rw [List.getElem?_eq_getElem (by simpa using (by simpa using h1 : us.length = 1) ▸ Nat.one_pos)]
          rfl
      · rw [dif_neg h1]
        have hne : l.length ≠ 1 := by rw [← r2]; simpa using h1
        have : resV l = .tup l := by
          match l, hne with
          | [], _ => rfl
          | [_], h => simp at h
          | _ :: _ :: _, _ => rfl
        rw [this]
        exact .tup _ _ (by simpa using r2) (fun j x y hx hy => r3 j x y hx (by simpa using hy))
  obtain ⟨v, k1, k2⟩ := key
  have fin : a'.defers = [] ∧ ∃ v, (results fn a'.tmps).run C.P w' = .ok v w' ∧ ∃ v' g', Ending.returned v = .returned v' ∧ SR C (e.re (stR rs1) g') (stR rs1) g' act0 w' ∧ AR (stR rs1).cur g' w' (e.N (stR rs1) g') (resV l) v' ∧ ∀ k, domR rs1 k = true → e.cur0 k < (stR rs1).cur k ∨ e.cur0 k = (stR rs1).cur k ∧ g' k = e.g0 k :=
    ⟨hs'.defers, v, k1, v, g', rfl, f1, f2 _ _ hfin.inr k2, fun k hk => by
      have := hs'.hist k
      have hc : st'.cur k = (stR rs1).cur k := by simp only [St.cur]; rw [hfin.sub k hk]
      rwa [hc] at this⟩
  rcases hfin.exit with rfl | rfl
  · exact fin
  · exact fin

end Go.Proofs.YtjbhpoolghfhiaaDoor
