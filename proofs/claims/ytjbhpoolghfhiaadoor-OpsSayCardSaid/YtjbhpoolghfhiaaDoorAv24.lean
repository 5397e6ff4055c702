/- Functions that hand back a slice of their own; functions that turn what they are handed; nil told apart. No condition: plain lemmas. -/
import Derived.Test.YtjbhpoolghfhiaaDoorAv23
namespace Go.Proofs.YtjbhpoolghfhiaaDoor
set_option linter.unusedVariables false
set_option linter.unusedSimpArgs false
set_option maxHeartbeats 10000000
open Go

/-- What is told of a slice that is handed back. -/
structure One (w : World) (st : St) (g : Gh) (e : Env) (el sz : Nat) (rows : List (List AV)) (v0 : Value) : Prop where
  own : ∃ xs, w.ownsRow 0 el sz v0 rows.length xs ∧ (∀ row ∈ rows, row.length = sz) ∧ ∀ (i j : Nat) (row : List AV) (x : AV) (y : Value), rows[i]? = some row → row[j]? = some x → xs[i * sz + j]? = some y → AR st.cur g w (e.N st g) x y
  blk : ∀ b, hblock v0 = some b → ∃ k, blk st g k = some b

abbrev rs1of (el sz : Nat) (rows : List (List AV)) : List (Nat × Nat × Res) := [(0, 1, .sl el sz rows)]

theorem SR.one {C : Ctx} {e : Env} {st : St} {g : Gh} {a : Act} {w : World} (h : SR C e st g a w) {el sz : Nat} {rows : List (List AV)} {v0 : Value} (ho : One w st g e el sz rows v0) (hn : ∀ row ∈ rows, withinL none0 row = true) :
    SR C (e.re (stR (rs1of el sz rows)) fun _ => v0) (stR (rs1of el sz rows)) (fun _ => v0) act0 w ∧ ∀ b, e.N (stR (rs1of el sz rows)) (fun _ => v0) b → e.N st g b := by
  have hb : ∀ k b, Go.Proofs.YtjbhpoolghfhiaaDoor.blk (stR (rs1of el sz rows)) (fun _ => v0) k = some b → k = 0 ∧ hblock v0 = some b := fun k b hk => by
    by_cases h0 : k = 0
    · subst h0; exact ⟨rfl, hk⟩
    · simp [Go.Proofs.YtjbhpoolghfhiaaDoor.blk, lookR, h0] at hk
  have hN : ∀ b, e.N (stR (rs1of el sz rows)) (fun _ => v0) b → e.N st g b := fun b hb2 => hb2.elim .inl fun ⟨k, hk⟩ => .inr (ho.blk b (hb k b hk).2)
  refine ⟨⟨rfl, rfl, fun d => .any _, fun k => ?_, fun k k' b hk hk' => by rw [(hb k b hk).1, (hb k' b hk').1], fun k b hk => ?_, h.ext.trans ⟨rfl, rfl, rfl, Nat.le_refl _, fun b _ hno => ⟨rfl, fun ⟨k, hk⟩ => hno (ho.blk b (hb k b hk).2)⟩⟩, fun _ => .inr ⟨rfl, rfl⟩⟩, hN⟩
  · by_cases h0 : k = 0
    · subst h0
      obtain ⟨xs, q1, q2, q3⟩ := ho.own
      exact ⟨xs, q1, q2, fun i j row x y hi hj hy => (q3 i j row x y hi hj hy).any_cur (withinL_get (hn row (List.mem_of_getElem? hi)) j x hj) (Nat.le_refl _) fun b _ hq => ⟨rfl, fun h' => hq (hN b h')⟩⟩
    · have : (lookR k (rs1of el sz rows)).2 = .gone := by simp [lookR, h0]
      show ResR _ _ _ _ _ (lookR k (rs1of el sz rows)).2
      rw [this]; trivial
  · obtain ⟨j, hj⟩ := ho.blk b (hb k b hk).2
    exact h.low j b hj

/-- The slice that is handed back. -/
def own1 (st : St) (el sz : Nat) (rows : List (List AV)) : AV → Prop
  | .os k ver => lookR k st.rs = (ver, .sl el sz rows)
  | .r (.v (.slice none 0 0)) => rows = []
  | _ => False

theorem own1_ok {C : Ctx} {e : Env} {st : St} {g : Gh} {a : Act} {w : World} (hs : SR C e st g a w) {el sz : Nat} {rows : List (List AV)} {x : AV} (h : own1 st el sz rows x) :
    ∃ v0, One w st g e el sz rows v0 ∧ ∀ v, AR st.cur g w (e.N st g) x v → v.oneCell' = true ∧ v = v0 := by
  unfold own1 at h
  split at h
  · rename_i k ver
    refine ⟨g k, ⟨sl_cells hs h, fun b hb => ⟨k, by simp only [blk, h]; exact hb⟩⟩, fun v hv => ⟨?_, inv_os hv (curk k h).symm⟩⟩
    cases hv with | os _ _ _ h1 _ => exact h1
  · subst h
    refine ⟨.slice none 0 0, ⟨⟨[], World.ownsRow_nil w 0 el sz, fun row hr => by simp at hr, fun i j row x y hi => by simp at hi⟩, fun b hb => by simp [hblock] at hb⟩, fun v hv => ?_⟩
    cases hv with | r hv => cases hv; exact ⟨rfl, rfl⟩
  · exact h.elim

/-- What is handed back, one of it a slice. -/
def ownL (st : St) (el sz : Nat) (rows : List (List AV)) : Nat → List AV → List AV → Prop
  | 0, x :: xs, y :: ys => y = .os 0 1 ∧ own1 st el sz rows x ∧ withinL none0 xs = true ∧ nilL xs ys
  | i + 1, x :: xs, y :: ys => within none0 x = true ∧ nil1 x y ∧ ownL st el sz rows i xs ys
  | _, _, _ => False

theorem ownL_ok {C : Ctx} {e : Env} {st : St} {g : Gh} {a : Act} {w : World} (hs : SR C e st g a w) {el sz : Nat} {rows : List (List AV)} : ∀ {i : Nat} {xs ys : List AV}, ownL st el sz rows i xs ys →
    ∃ v0, One w st g e el sz rows v0 ∧ ys.length = xs.length ∧ ∀ (N' : Nat → Prop), (∀ b, N' b → e.N st g b) → ∀ (j : Nat) (x y : AV) (v : Value), xs[j]? = some x → ys[j]? = some y → AR st.cur g w (e.N st g) x v → AR (stR (rs1of el sz rows)).cur (fun _ => v0) w N' y v
  | 0, x :: xs, y :: ys, h => by
    obtain ⟨rfl, h1, h2, h3⟩ := h
    obtain ⟨v0, q1, q2⟩ := own1_ok hs h1
    refine ⟨v0, q1, by simp [(nilL_ok (cur := st.cur) (g := g) (w := w) (N := e.N st g) h3).1], fun N' hN j x' y' v hx hy hv => ?_⟩
    cases j with
    | zero =>
      simp at hx hy; subst hx; subst hy
      obtain ⟨r1, r2⟩ := q2 v hv
      exact .os 0 1 v r1 (.inr ⟨rfl, r2⟩)
    | succ j =>
      have hx' : xs[j]? = some x' := by simpa using hx
      exact (nilL_ok (N := N') h3).2 j x' y' v hx' (by simpa using hy) (hv.any_cur (withinL_get h2 j x' hx') (Nat.le_refl _) fun b _ hq => ⟨rfl, fun h' => hq (hN b h')⟩)
  | i + 1, x :: xs, y :: ys, h => by
    obtain ⟨h1, h2, h3⟩ := h
    obtain ⟨v0, q1, q2, q3⟩ := ownL_ok hs h3
    refine ⟨v0, q1, by simp [q2], fun N' hN j x' y' v hx hy hv => ?_⟩
    cases j with
    | zero =>
      simp at hx hy; subst hx; subst hy
      exact nil1_ok h2 (hv.any_cur h1 (Nat.le_refl _) fun b _ hq => ⟨rfl, fun h' => hq (hN b h')⟩)
    | succ j => exact q3 N' hN j x' y' v (by simpa using hx) (by simpa using hy) hv
  | 0, [], _, h => h.elim
  | 0, _ :: _, [], h => h.elim
  | _ + 1, [], _, h => h.elim
  | _ + 1, _ :: _, [], h => h.elim

/-- The end of a function that hands back a slice of its own. -/
def FinO (C : Ctx) (rl : List ResultVar) (i el sz : Nat) (rows : List (List AV)) (ys : List AV) (x : Exit) (st : St) : Prop :=
  match x with
  | .normal | .ret => resG st C.P rl fun xs => ownL st el sz rows i xs ys
  | _ => False

theorem resV_len {xs ys : List AV} (h : ys.length = xs.length) {cur cur' : Nat → Nat} {g g' : Gh} {w : World} {N N' : Nat → Prop} (hj : ∀ (j : Nat) (x y : AV) (v : Value), xs[j]? = some x → ys[j]? = some y → AR cur g w N x v → AR cur' g' w N' y v) {v : Value} (hv : AR cur g w N (resV xs) v) : AR cur' g' w N' (resV ys) v := by
  match xs, ys, h with
  | [x], [y], _ => exact hj 0 x y v rfl rfl hv
  | [], [], _ =>
    cases hv with | tup _ vs hs hvs => exact .tup _ vs hs fun j x u hx => by simp at hx
  | x :: x' :: xs, y :: y' :: ys, h =>
    cases hv with
    | tup _ vs hs hvs =>
      refine .tup _ vs (by rw [h]; exact hs) fun j z u hz hu => ?_
      have hlt := (List.getElem?_eq_some_iff.1 hz).1
      have hx : (x :: x' :: xs)[j]? = some (x :: x' :: xs)[j] := List.getElem?_eq_getElem (by omega)
      exact hj j _ z u hx hz (hvs j _ u hx hu)

/-- The contract of a function that hands back a slice of its own. -/
theorem FCo_of {C : Ctx} (T : List (Ct C)) {f : Nat} {fn : Func} {body : Code} {args : List AV} {i el sz : Nat} {rows : List (List AV)} (ys : List AV) (hf : C.P.funcs[f]? = some fn) (hb : fn.body = some body) {nt : Nat} (hnt : fn.ntmps = nt) (hn : args.length ≤ nt) {rl : List ResultVar} (hr : fn.results = rl.toArray)
    (hrows : ∀ row ∈ rows, withinL none0 row = true) (h : Rn C T [.c body] ⟨nt, argT 0 args, []⟩ (FinO C rl i el sz rows ys)) : FC C f args [] (resV ys) [(0, 1, .sl el sz rows)] := by
  subst hnt
  unfold Rn at h
  refine FC_bodyX hf hb hn (lwp_mono (h : lwp C body _ (ck C [] (FinO C rl i el sz rows ys))) fun x s hx => ?_)
  have key : ∀ (hq : resG s C.P rl fun xs => ownL s el sz rows i xs ys), ∃ l, resK s C.P fn.results.toList l ∧ ∀ (e : Env) (g : Gh) (a : Act) (w : World), e.cur0 = (stR []).cur → SR C e s g a w → ∃ g', SR C (e.re (stR (rs1of el sz rows)) g') (stR (rs1of el sz rows)) g' act0 w ∧
      (∀ v, AR s.cur g w (e.N s g) (resV l) v → AR (stR (rs1of el sz rows)).cur g' w (e.N (stR (rs1of el sz rows)) g') (resV ys) v) ∧ ∀ k, domR (rs1of el sz rows) k = true → e.cur0 k < (stR (rs1of el sz rows)).cur k ∨ e.cur0 k = (stR (rs1of el sz rows)).cur k ∧ g' k = e.g0 k := by
    intro hq
    obtain ⟨xs, h1, h2⟩ := resG_ok hq
    refine ⟨xs, by rw [hr]; exact h1, fun e g a w he hs => ?_⟩
    obtain ⟨v0, q1, q2, q3⟩ := ownL_ok hs h2
    obtain ⟨f1, f2⟩ := hs.one q1 hrows
    refine ⟨fun _ => v0, f1, fun v hv => resV_len q2 (q3 _ f2) hv, fun k hk => ?_⟩
    rw [he]
    by_cases h0 : k = 0
    · subst h0; left; exact Nat.zero_lt_one
    · simp [domR, lookR, h0] at hk
  cases x with
  | normal => exact ⟨.inl rfl, key hx⟩
  | ret => exact ⟨.inr rfl, key hx⟩
  | _ => exact (hx : False).elim

theorem ins_flat {v e sz : Nat} {rows : List (List AV)} (h : ∀ row ∈ rows, withinL none0 row = true) (k : Nat) : withinRes (domR [(0, v, .sl e sz rows)]) (lookR k [(0, v, .sl e sz rows)]).2 := by
  unfold lookR
  split
  · exact fun row hrow => withinL_none (h row hrow)
  · trivial

def subR (st : St) : List (Nat × Nat × Res) → Prop
  | [] => True
  | (k, x) :: l => lookR k st.rs = x ∧ subR st l

theorem subR_ok {st : St} : ∀ {l : List (Nat × Nat × Res)}, subR st l → ∀ k, domR l k = true → lookR k st.rs = lookR k l
  | [], _, k, hk => by simp [domR, lookR] at hk
  | (j, x) :: l, h, k, hk => by
    show lookR k st.rs = if k = j then x else lookR k l
    by_cases hj : k = j
    · rw [if_pos hj, hj]; exact h.1
    · rw [if_neg hj]
      refine subR_ok h.2 k ?_
      unfold domR at hk ⊢
      unfold lookR at hk
      rwa [if_neg hj] at hk

/-- The end of a function that turns what it was handed. -/
def FinM (C : Ctx) (rl : List ResultVar) (r : AV) (rs1 : List (Nat × Nat × Res)) (x : Exit) (st : St) : Prop :=
  match x with
  | .normal | .ret => (resG st C.P rl fun xs => resV xs = r) ∧ subR st rs1
  | _ => False

/-- The contract of a function that turns what it was handed. -/
theorem FCm_of {C : Ctx} (T : List (Ct C)) {f : Nat} {fn : Func} {body : Code} {args : List AV} {rs0 rs1 : List (Nat × Nat × Res)} {r : AV} (hf : C.P.funcs[f]? = some fn) (hb : fn.body = some body) {nt : Nat} (hnt : fn.ntmps = nt) (hn : args.length ≤ nt) {rl : List ResultVar} (hr : fn.results = rl.toArray)
    (hw : within (domR rs1) r = true) (hi : ∀ k, withinRes (domR rs1) (lookR k rs1).2) (h : Rn C T [.c body] ⟨nt, argT 0 args, rs0⟩ (FinM C rl r rs1)) : FC C f args rs0 r rs1 := by
  subst hnt
  unfold Rn at h
  refine FC_body hf hb hn (lwp_mono (h : lwp C body _ (ck C [] (FinM C rl r rs1))) fun x s hx => ?_)
  have key : ∀ (hq : (resG s C.P rl fun xs => resV xs = r) ∧ subR s rs1) (hx : x = .normal ∨ x = .ret), Fin C fn r rs1 x s := fun hq hx => by
    obtain ⟨xs, h1, h2⟩ := resG_ok hq.1
    exact ⟨hx, ⟨xs, by rw [hr]; exact h1, h2.symm⟩, subR_ok hq.2, hw, hi⟩
  cases x with
  | normal => exact key hx (.inl rfl)
  | ret => exact key hx (.inr rfl)
  | _ => exact (hx : False).elim

section
variable {C : Ctx} {T : List (Ct C)} {r : List It} {st st' : St} {K : Exit → St → Prop}

theorem Rn_up (hr : hasC r = true) (h : ∀ e a w, S C e st a w → S C e st' a w) (hk : Rn C T r st' K) : Rn C T r st K := by
  unfold Rn at *
  induction r with
  | nil => simp [hasC] at hr
  | cons i r ih =>
    cases i with
    | b id =>
      rw [ck_b] at hk ⊢
      exact ih (by simpa [hasC] using hr) hk
    | c c => exact fun e a w hs => hk e a w (h e a w hs)
    | o k done l => exact fun ops h1 h2 e a w Q hs => hk ops h1 h2 e a w Q (h e a w hs)

theorem Le_keep (keep : List Nat) {s s' : St} (hn : s'.n = s.n) (ht : trimT keep s.t = s'.t) (hr : s'.rs = s.rs) : Le s s' :=
  ⟨hn, fun d => by rw [← ht]; exact trimT_look keep d s.t, fun k => .inl (by rw [hr])⟩

/-- Resources told of less. -/
def leRs : List (Nat × Nat × Res) → List (Nat × Nat × Res) → Prop
  | [], [] => True
  | [], (_, v, x) :: l' => v = 0 ∧ x = .gone ∧ leRs [] l'
  | (k, v, x) :: l, (k', v', x') :: l' => k = k' ∧ (v = v' ∧ x = x' ∨ x' = .gone ∧ v ≤ v') ∧ leRs l l'
  | _ :: _, [] => False

theorem leRs_ok : ∀ {a b : List (Nat × Nat × Res)}, leRs a b → ∀ k, lookR k b = lookR k a ∨ (lookR k b).2 = .gone ∧ (lookR k a).1 ≤ (lookR k b).1
  | [], [], _, k => .inl rfl
  | [], (j, v, x) :: l', h, k => by
    obtain ⟨rfl, rfl, h⟩ := h
    have := leRs_ok (a := []) h k
    show (if k = j then (0, Res.gone) else lookR k l') = lookR k [] ∨ _
    by_cases hk : k = j
    · left; rw [if_pos hk]; rfl
    · rw [if_neg hk]
      rcases this with h1 | ⟨h1, h2⟩
      · exact .inl h1
      · right
        show (if k = j then (0, Res.gone) else lookR k l').2 = .gone ∧ _ ≤ (if k = j then (0, Res.gone) else lookR k l').1
        rw [if_neg hk]; exact ⟨h1, h2⟩
  | (j, v, x) :: l, (j', v', x') :: l', h, k => by
    obtain ⟨rfl, h1, h⟩ := h
    have := leRs_ok h k
    show (if k = j then (v', x') else lookR k l') = (if k = j then (v, x) else lookR k l) ∨ (if k = j then (v', x') else lookR k l').2 = .gone ∧ (if k = j then (v, x) else lookR k l).1 ≤ (if k = j then (v', x') else lookR k l').1
    by_cases hk : k = j
    · simp only [if_pos hk]
      rcases h1 with ⟨rfl, rfl⟩ | h1
      · exact .inl rfl
      · exact .inr h1
    · simp only [if_neg hk]; exact this
  | _ :: _, [], h, k => h.elim

theorem Le_keepR (keep : List Nat) {s s' : St} (hn : s'.n = s.n) (ht : trimT keep s.t = s'.t) (hr : leRs s.rs s'.rs) : Le s s' :=
  ⟨hn, fun d => by rw [← ht]; exact trimT_look keep d s.t, leRs_ok hr⟩

/-- A loop, met; what nobody reads any more is forgotten, resources too. -/
theorem Rn_loopR {c : Code} {α : Type} (keep : List Nat) (I : α → Prop) (f : α → St) (μ : α → Nat) (x0 : α) (hn : (f x0).n = st.n) (ht : trimT keep st.t = (f x0).t) (hr : leRs st.rs (f x0).rs) (h0 : I x0)
    (round : ∀ x, I x → Rn C T [.c c] (f x) (thenK (fun s => ∃ y, I y ∧ μ y < μ x ∧ Le s (f y)) (ck C r K))) : Rn C T (.c (.loop c) :: r) st K :=
  Rn_loop I f μ x0 (Le_keepR keep hn ht hr) h0 round

/-- A loop, met; what nobody reads any more is forgotten. -/
theorem Rn_loopT {c : Code} {α : Type} (keep : List Nat) (I : α → Prop) (f : α → St) (μ : α → Nat) (x0 : α) (hn : (f x0).n = st.n) (ht : trimT keep st.t = (f x0).t) (hr : (f x0).rs = st.rs) (h0 : I x0)
    (round : ∀ x, I x → Rn C T [.c c] (f x) (thenK (fun s => ∃ y, I y ∧ μ y < μ x ∧ Le s (f y)) (ck C r K))) : Rn C T (.c (.loop c) :: r) st K :=
  Rn_loop I f μ x0 (Le_keep keep hn ht hr) h0 round

/-- A slot told otherwise. -/
theorem SR.tell {e : Env} {g : Gh} {a : Act} {w : World} (h : SR C e st g a w) {d : Nat} {x : AV} (hv : AR st.cur g w (e.N st g) x (a.tmps.getD d undef)) : SR C e { st with t := putT d x st.t } g a w := by
  refine ⟨h.defers, h.size, fun d' => ?_, h.res, h.uniq, h.low, h.ext, h.hist⟩
  show AR st.cur g w (e.N st g) _ _
  rw [lookT_put]
  by_cases hdd : d' = d
  · subst hdd; rw [if_pos rfl]; exact hv
  · rw [if_neg hdd]; exact h.temps d'

theorem Rn_o_st {k k' : Nat} {done done' : List (Nat × Nat)} {l : List Oper} (h : ∀ K0 : Nat → List (Nat × Nat) → St → Prop, Imp (K0 k' done' st') (K0 k done st)) (hk : Rn C T (.o k' done' l :: r) st' K) : Rn C T (.o k done l :: r) st K :=
  (h fun k d s => Rn C T (.o k d l :: r) s K).run hk

/-- A handle of which but its length is told from here on. -/
theorem Rn_len (d k : Nat) {ver el sz : Nat} {rows : List (List AV)} (hd : lookT d st.t = .os k ver) (hk : lookR k st.rs = (ver, .sl el sz rows)) (hr : hasC r = true) (hst : ∀ K0 : St → Prop, Imp (K0 st') (K0 { st with t := putT d (.r (.ln rows.length)) st.t })) (hk2 : Rn C T r st' K) : Rn C T r st K := by
  have hk' := (hst fun s => Rn C T r s K).run hk2
  refine Rn_up hr (fun e a w ⟨ho, g, hs⟩ => ⟨ho, g, hs.tell ?_⟩) hk'
  have hv := hs.temps d
  rw [hd] at hv
  rw [inv_os hv (curk k hk).symm]
  obtain ⟨o, c, hg, _⟩ := sl_len hs hk
  rw [hg]
  exact .r (.ln _ _ _)

/-- A nil that is owned from here on. -/
theorem Rn_ownnil (d k el sz : Nat) (hd : lookT d st.t = NilS) (hr : hasC r = true) (hst : ∀ K0 : St → Prop, Imp (K0 st') (K0 { st with t := putT d (.os k (st.cur k + 1)) st.t, rs := putR k (st.cur k + 1, .sl el sz []) st.rs })) (hk : Rn C T r st' K) : Rn C T r st K := by
  have hk' := (hst fun s => Rn C T r s K).run hk
  refine Rn_up hr (fun e a w ⟨ho, g, hs⟩ => ?_) hk'
  obtain ⟨h1, _⟩ := hs.turn k (st.cur k + 1) (.sl el sz []) (.slice none 0 0) rfl rfl rfl (Nat.le_refl _) (fun _ _ _ => rfl) (.inl (Nat.lt_succ_self _)) (fun b _ hb => by simp [hblock] at hb) ho
    (fun st' g' _ hg _ => ⟨[], by rw [hg]; show w.ownsRow 0 el sz (gput g k (.slice none 0 0) k) 0 []; rw [show gput g k (.slice none 0 0) k = .slice none 0 0 from if_pos rfl]; exact World.ownsRow_nil w 0 el sz, fun row hr => by simp at hr, fun i j row x y hi => by simp at hi⟩)
  have hv : a.tmps.getD d undef = .slice none 0 0 := by
    have := hs.temps d
    rw [hd] at this
    exact inv_v this
  refine ⟨ho, _, h1.tell (d := d) ?_⟩
  rw [hv]
  exact .os k _ _ rfl (.inr ⟨by show st.cur k + 1 = (lookR k (putR k _ st.rs)).1; rw [lookR_put, if_pos rfl], (if_pos rfl).symm⟩)

/-- Is a read-only slice nil? Only if it has no rows. -/
theorem Rn_isnil {k : Nat} {done : List (Nat × Nat)} {o : Oper} {l : List Oper} {d t : Nat} {x y : Operand} {ty : Nat} {op : BinOp} {sz : Nat} {rows : List (List RV)} (ho : o.op = .binOp op t x y ty) (hop : op = .eql ∨ op = .neq) (hg : o.guard = none) (hd : o.dst = some d) (hdn : d < st.n) (hx : ev st x = .r (.rs sz rows)) (hy : ev st y = NilS) (ht : sliceT C.P t = true)
    (h : ∀ q : Bool, (q = true → rows = []) → Rn C T (.o (k + 1) (addN k o.dst done) l :: r) { st with t := putT d (Bv (if op = .eql then q else !q)) st.t } K) : Rn C T (.o k done (o :: l) :: r) st K := by
  unfold Rn at *
  intro ops hops hdone
  have h0 : ops.toList[k]? = some o := by
    have : (ops.toList.drop k)[0]? = some o := by rw [hops]; rfl
    simpa using this
  have hk' : ∀ q : Bool, (q = true → rows = []) → lops C ops l { st with t := putT d (Bv (if op = .eql then q else !q)) st.t } (ck C r K .normal) := fun q hq => h q hq ops (by rw [← List.drop_drop, hops]; rfl) (fun j d' hj => by
    unfold addN at hj
    rw [hd] at hj
    simp only [lookN] at hj
    split at hj
    · rename_i he
      subst he
      simp at hj
      subst hj
      have : ops[j]? = some o := by simpa using h0
      simp [this, hd]
    · exact hdone j d' hj)
  intro e a w Q hS hq
  unfold wpList
  rw [if_pos (by simp [Region.wanted, hg])]
  refine .inl ?_
  obtain ⟨hok, g, hs⟩ := hS
  obtain ⟨el, hu⟩ := sliceT_of ht
  have ex := ev_ok hs x
  have ey := ev_ok hs y
  rw [hx] at ex
  rw [hy] at ey
  have e2 : a.eval y = .slice none 0 0 := inv_v ey
  have fin : ∀ q : Bool, (q = true → rows = []) → (Op.equal t (a.eval x) (.slice none 0 0)).run C.P w = .ok q w → (∀ cs, a.eval x ≠ .agg cs) → o.wp C.P a w (wpList C.P ops Q l) Q := by
    intro q hq2 hrun hna
    refine wp_val (w' := w) (v := .bool (if op = .eql then q else !q)) hd ?_ ?_
    · have := run_guard (P := C.P) (op := op) (t := t) (ox := x) (oy := y) (x := a.eval x) (y := a.eval y) w (.inl hna) (.inr (by rw [e2]; simp))
      rcases hop with rfl | rfl
      · simp only [execOp, ho, Sem.run_bind] at this ⊢
        rw [this, e2]; simp [binOp, hrun]
      · simp only [execOp, ho, Sem.run_bind] at this ⊢
        rw [this, e2]; simp [binOp, hrun]
    · exact hk' q hq2 e _ w Q ⟨hok, g, hs.put hdn (.r (.v _))⟩ hq
  cases ex with
  | r ex =>
    generalize hz : a.eval x = z at ex fin
    cases ex with
    | nil => exact fin true (fun _ => rfl) (run_equal_nils hu w) (by simp)
    | rs _ _ ad cap => exact fin false (fun h => by cases h) (run_equal_slice hu w _ _ _) (by simp)

end

/-- What is handed back, and that nobody turns any more. -/
theorem FC.freeze {C : Ctx} {f : Nat} {args : List AV} {rs0 rs1 : List (Nat × Nat × Res)} {r r' : AV} (hf : FC C f args rs0 r rs1) {l : List Loc} (hb : Bor l (stR rs1) r r') : FC C f args rs0 r' [] := by
  refine ⟨fun e g w vs hok hs hvs => (hf.run e g w vs hok hs hvs).mono ?_⟩
  rintro x w' ⟨v, g', rfl, hs', hv, _⟩
  have hno : ∀ b, ¬ own (stR []) g' b := fun b ⟨k, hk⟩ => by simp [blk, lookR] at hk
  obtain ⟨f1, _⟩ := hs'.final (rs1 := []) (fun k hk => by simp [domR, lookR] at hk) (fun k => trivial)
  exact ⟨v, g', rfl, f1, Bor_ok' hb hs' (Agree_of.1 (Agree_of.2 fun _ _ => rfl)) (fun k b _ hk hN => hN.elim (hs'.low k b hk).2.2 (hno b)) (fun b hN => hN.elim .inl fun h => absurd h (hno b)) hv _ _, fun k hk => by simp [domR, lookR] at hk⟩

theorem FC.freeze1 {C : Ctx} {f : Nat} {args : List AV} {rs0 : List (Nat × Nat × Res)} {el sz : Nat} {rows : List (List AV)} {rowsR : List (List RV)} (hf : FC C f args rs0 (.os 0 1) [(0, 1, .sl el sz rows)]) (hr : rows = rowsR.map fun r => r.map .r) : FC C f args rs0 (.r (.rs sz rowsR)) [] := by
  subst hr
  refine hf.freeze (l := [.R 0]) (.sl 0 1 el sz _ rowsR (List.mem_singleton.2 rfl) rfl (by simp) (fun i row rowR h1 h2 => ?_) (fun i j row rowR x y h1 h2 h3 h4 => ?_))
  · rw [List.getElem?_map, h2] at h1
    simp at h1; subst h1; simp
  · rw [List.getElem?_map, h2] at h1
    simp at h1; subst h1
    rw [List.getElem?_map, h4] at h3
    simp at h3; subst h3
    exact .same _ rfl

end Go.Proofs.YtjbhpoolghfhiaaDoor
