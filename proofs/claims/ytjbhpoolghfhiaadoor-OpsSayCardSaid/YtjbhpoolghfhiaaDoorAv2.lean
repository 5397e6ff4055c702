/- Steps of the abstract state: what a step of the machine must show. No condition: plain lemmas. -/
import Derived.Test.YtjbhpoolghfhiaaDoorAv1
import Derived.Deep.LoopGhost
namespace Go.Proofs.YtjbhpoolghfhiaaDoor
set_option linter.unusedVariables false
set_option linter.unusedSimpArgs false
set_option maxHeartbeats 10000000
open Go

theorem cur_putT (st : St) (d : Nat) (x : AV) : ({ st with t := putT d x st.t } : St).cur = st.cur := rfl

def gput (g : Gh) (k : Nat) (v : Value) : Gh := fun j => if j = k then v else g j

theorem AR.lift {e : Env} {st st' : St} {g g' : Gh} {w w' : World} {x : AV} {v : Value} (h : AR st.cur g w (e.N st g) x v)
    (hx : Ext w (own st g) w' (own st' g')) (hc : ∀ k, st.cur k < st'.cur k ∨ st.cur k = st'.cur k ∧ g k = g' k) : AR st'.cur g' w' (e.N st' g') x v :=
  h.mono hx.size (fun b hb hn => by
    have h1 := hx.block b hb (fun ho => hn (.inr ho))
    exact ⟨h1.1, fun h2 => h2.elim (fun h3 => hn (.inl h3)) h1.2⟩) hc

theorem ownsRow_same {w w' : World} {base e sz : Nat} {v : Value} {n : Nat} {xs : List Value} (h : w.ownsRow base e sz v n xs)
    (hk : ∀ b, hblock v = some b → w'.heap[b]? = w.heap[b]?) : w'.ownsRow base e sz v n xs := by
  refine ⟨h.1, ?_⟩
  rcases h.2 with hn | ⟨b, cap, cur, rfl, hb, hh, rest⟩
  · exact .inl hn
  · exact .inr ⟨b, cap, cur, rfl, hb, by rw [hk b rfl]; exact hh, rest⟩

theorem ResR.lift {e : Env} {st st' : St} {g g' : Gh} {w w' : World} {k : Nat} {x : Res} (h : ResR st.cur g w (e.N st g) k x)
    (hx : Ext w (own st g) w' (own st' g')) (hc : ∀ k, st.cur k < st'.cur k ∨ st.cur k = st'.cur k ∧ g k = g' k) (hg : g' k = g k)
    (hk : x ≠ .gone → ∀ b, hblock (g k) = some b → w'.heap[b]? = w.heap[b]?) : ResR st'.cur g' w' (e.N st' g') k x := by
  cases x with
  | gone => trivial
  | bx cells =>
    obtain ⟨b, C', el, h1, h2, h3, h4⟩ := h
    exact ⟨b, C', el, by rw [hg]; exact h1, by rw [hk (by simp) b (by rw [h1]; rfl)]; exact h2, h3, fun j x y hj hy => (h4 j x y hj hy).lift hx hc⟩
  | sl el sz rows =>
    obtain ⟨xs, h1, h2, h3⟩ := h
    refine ⟨xs, ?_, h2, fun i j row x y hi hj hy => (h3 i j row x y hi hj hy).lift hx hc⟩
    rw [hg]; exact ownsRow_same h1 (hk (by simp))
  | mp f n =>
    obtain ⟨b, es, clock, h1, h2, h3⟩ := h
    exact ⟨b, es, clock, by rw [hg]; exact h1, by rw [hk (by simp) b (by rw [h1]; rfl)]; exact h2, h3⟩

theorem blk_of {st st' : St} {g g' : Gh} {k : Nat} (h1 : (lookR k st'.rs).2 = (lookR k st.rs).2) (h2 : g' k = g k) : blk st' g' k = blk st g k := by
  simp only [blk, h1, h2]

/-- A slot gets a value; nothing else turns. -/
theorem SR.put {C : Ctx} {e : Env} {st : St} {g : Gh} {a : Act} {w : World} (h : SR C e st g a w) {d : Nat} (hd : d < st.n) {x : AV} {v : Value}
    (hv : AR st.cur g w (e.N st g) x v) : SR C e { st with t := putT d x st.t } g (a.put (some d) v) w := by
  refine ⟨h.defers, by simp [Act.put, h.size], fun d' => ?_, h.res, h.uniq, h.low, h.ext, h.hist⟩
  show AR st.cur g w (e.N st g) _ _
  rw [lookT_put]
  by_cases hdd : d' = d
  · subst hdd
    have : ((a.put (some d') v).tmps.getD d' undef) = v := by
      simp [Act.put, Array.getD_eq_getD_getElem?, h.size, hd]
    rw [this]; simpa using hv
  · have : ((a.put (some d) v).tmps.getD d' undef) = a.tmps.getD d' undef := by
      simp [Act.put, Array.getD_eq_getD_getElem?, Ne.symm hdd]
    rw [this, if_neg hdd]; exact h.temps d'

/-- The world turned in nothing that matters (draws). -/
theorem SR.world {C : Ctx} {e : Env} {st : St} {g : Gh} {a : Act} {w w' : World} (h : SR C e st g a w) (hh : w'.heap = w.heap) (ho : w'.os = w.os) (ht : w'.tape = w.tape) (hp : w'.output = w.output) : SR C e st g a w' := by
  have hx : Ext w (own st g) w' (own st g) := ⟨ho, ht, hp, by rw [hh]; exact Nat.le_refl _, fun b _ hb => ⟨by rw [hh], hb⟩⟩
  have hc : ∀ k, st.cur k < st.cur k ∨ st.cur k = st.cur k ∧ g k = g k := fun k => .inr ⟨rfl, rfl⟩
  exact ⟨h.defers, h.size, fun d => (h.temps d).lift hx hc, fun k => (h.res k).lift hx hc rfl (fun _ b _ => by rw [hh]), h.uniq, fun k b hb => by rw [hh]; exact h.low k b hb, h.ext.trans hx, h.hist⟩

/-- One resource turns, the others and all old memory that is not owned stay. -/
theorem SR.turn {C : Ctx} {e : Env} {st : St} {g : Gh} {a : Act} {w w' : World} (h : SR C e st g a w) (k0 : Nat) (ver : Nat) (res : Res) (v : Value)
    (ho : w'.os = w.os) (ht : w'.tape = w.tape) (hp : w'.output = w.output) (hs : w.heap.size ≤ w'.heap.size)
    (hb : ∀ b, b < w.heap.size → blk st g k0 ≠ some b → w'.heap[b]? = w.heap[b]?)
    (hver : st.cur k0 < ver ∨ st.cur k0 = ver ∧ g k0 = v)
    (hblk : ∀ b, res ≠ .gone → hblock v = some b → b < w'.heap.size ∧ (blk st g k0 = some b ∨ w.heap.size ≤ b))
    (hok : e.ok C)
    (hres : ∀ (st' : St) (g' : Gh), st' = { st with rs := putR k0 (ver, res) st.rs } → g' = gput g k0 v → (∀ x y, AR st.cur g w (e.N st g) x y → AR st'.cur g' w' (e.N st' g') x y) → ResR st'.cur g' w' (e.N st' g') k0 res) :
    SR C e { st with rs := putR k0 (ver, res) st.rs } (gput g k0 v) a w' ∧ (∀ x y, AR st.cur g w (e.N st g) x y → AR ({ st with rs := putR k0 (ver, res) st.rs } : St).cur (gput g k0 v) w' (e.N { st with rs := putR k0 (ver, res) st.rs } (gput g k0 v)) x y) := by
  generalize hst : ({ st with rs := putR k0 (ver, res) st.rs } : St) = st' at *
  generalize hg' : gput g k0 v = g' at *
  have hlook : ∀ k, lookR k st'.rs = if k = k0 then (ver, res) else lookR k st.rs := fun k => by rw [← hst]; exact lookR_put k k0 _ _
  have hgk : ∀ k, g' k = if k = k0 then v else g k := fun k => by rw [← hg']; rfl
  have hother : ∀ k, k ≠ k0 → blk st' g' k = blk st g k := fun k hk => blk_of (by rw [hlook, if_neg hk]) (by rw [hgk, if_neg hk])
  have hself : ∀ b, blk st' g' k0 = some b → res ≠ .gone ∧ hblock v = some b := fun b hb => by
    simp only [blk, hlook, hgk, if_true] at hb
    cases res <;> simp_all
  have hown : ∀ b, b < w.heap.size → own st' g' b → own st g b := fun b hbs ⟨k, hk⟩ => by
    by_cases hkk : k = k0
    · subst hkk
      obtain ⟨h1, h2⟩ := hself b hk
      rcases (hblk b h1 h2).2 with h3 | h3
      · exact ⟨k, h3⟩
      · omega
    · rw [hother k hkk] at hk; exact ⟨k, hk⟩
  have hx : Ext w (own st g) w' (own st' g') := ⟨ho, ht, hp, hs, fun b hbs hn => ⟨hb b hbs (fun h1 => hn ⟨k0, h1⟩), fun h1 => hn (hown b hbs h1)⟩⟩
  have hc : ∀ k, st.cur k < st'.cur k ∨ st.cur k = st'.cur k ∧ g k = g' k := fun k => by
    by_cases hkk : k = k0
    · subst hkk
      have : st'.cur k = ver := by simp [St.cur, hlook]
      rw [this, hgk, if_pos rfl]; exact hver
    · right; exact ⟨by simp [St.cur, hlook, hkk], by rw [hgk, if_neg hkk]⟩
  have hl : ∀ x y, AR st.cur g w (e.N st g) x y → AR st'.cur g' w' (e.N st' g') x y := fun x y hxy => hxy.lift hx hc
  refine ⟨⟨h.defers, by rw [← hst]; exact h.size, fun d => ?_, fun k => ?_, fun k k' b hk hk' => ?_, fun k b hk => ?_, h.ext.trans hx, hist_step h.hist hc⟩, hl⟩
  · have : st'.t = st.t := by rw [← hst]
    rw [this]; exact hl _ _ (h.temps d)
  · by_cases hkk : k = k0
    · subst hkk; rw [hlook, if_pos rfl]; exact hres st' g' rfl rfl hl
    · rw [hlook, if_neg hkk]
      refine (h.res k).lift hx hc (by rw [hgk, if_neg hkk]) (fun hng b hb1 => ?_)
      have hbk : blk st g k = some b := by
        simp only [blk]; revert hng; cases (lookR k st.rs).2 <;> intro hng <;> first | exact absurd rfl hng | exact hb1
      exact hb b (h.low k b hbk).2.1 (fun hcon => hkk (h.uniq k k0 b hbk hcon))
  · by_cases h1 : k = k0 <;> by_cases h2 : k' = k0
    · rw [h1, h2]
    · subst h1
      rw [hother k' h2] at hk'
      obtain ⟨h3, h4⟩ := hself b hk
      rcases (hblk b h3 h4).2 with h5 | h5
      · exact absurd (h.uniq k' k b hk' h5) h2
      · have := (h.low k' b hk').2.1; omega
    · subst h2
      rw [hother k h1] at hk
      obtain ⟨h3, h4⟩ := hself b hk'
      rcases (hblk b h3 h4).2 with h5 | h5
      · exact absurd (h.uniq k k' b hk h5) h1
      · have := (h.low k b hk).2.1; omega
    · rw [hother k h1] at hk; rw [hother k' h2] at hk'; exact h.uniq k k' b hk hk'
  · by_cases h1 : k = k0
    · subst h1
      obtain ⟨h3, h4⟩ := hself b hk
      obtain ⟨h5, h6⟩ := hblk b h3 h4
      rcases h6 with h6 | h6
      · exact ⟨(h.low k b h6).1, h5, (h.low k b h6).2.2⟩
      · refine ⟨?_, h5, fun hav => ?_⟩
        · have := hok.gs; have := h.ext.size; omega
        · have := hok.av b hav; have := h.ext.size; omega
    · rw [hother k h1] at hk
      obtain ⟨h3, h4, h5⟩ := h.low k b hk
      exact ⟨h3, by omega, h5⟩

/-- A state that tells less. -/
structure Le (st st' : St) : Prop where
  n : st'.n = st.n
  t : ∀ d, lookT d st'.t = .any ∨ lookT d st'.t = lookT d st.t
  r : ∀ k, lookR k st'.rs = lookR k st.rs ∨ (lookR k st'.rs).2 = .gone ∧ (lookR k st.rs).1 ≤ (lookR k st'.rs).1

theorem SR.weaken {C : Ctx} {e : Env} {st st' : St} {g : Gh} {a : Act} {w : World} (h : SR C e st g a w) (hl : Le st st') : SR C e st' g a w := by
  have hbl : ∀ k b, blk st' g k = some b → blk st g k = some b := fun k b hb => by
    rcases hl.r k with h1 | ⟨h1, _⟩
    · rw [← blk_of (st := st) (st' := st') (g := g) (g' := g) (by rw [h1]) rfl]; exact hb
    · simp [blk, h1] at hb
  have hown : ∀ b, own st' g b → own st g b := fun b ⟨k, hk⟩ => ⟨k, hbl k b hk⟩
  have hx : Ext w (own st g) w (own st' g) := ⟨rfl, rfl, rfl, Nat.le_refl _, fun b _ hb => ⟨rfl, fun h1 => hb (hown b h1)⟩⟩
  have hc : ∀ k, st.cur k < st'.cur k ∨ st.cur k = st'.cur k ∧ g k = g k := fun k => by
    rcases hl.r k with h1 | ⟨_, h1⟩
    · exact .inr ⟨by simp only [St.cur, h1], rfl⟩
    · rcases Nat.lt_or_ge (st.cur k) (st'.cur k) with h2 | h2
      · exact .inl h2
      · exact .inr ⟨Nat.le_antisymm h1 h2, rfl⟩
  refine ⟨h.defers, by rw [hl.n]; exact h.size, fun d => ?_, fun k => ?_, fun k k' b hk hk' => h.uniq k k' b (hbl k b hk) (hbl k' b hk'), fun k b hk => h.low k b (hbl k b hk), h.ext.trans hx, hist_step h.hist hc⟩
  · rcases hl.t d with h1 | h1
    · rw [h1]; exact .any _
    · rw [h1]; exact (h.temps d).lift hx hc
  · rcases hl.r k with h1 | ⟨h1, _⟩
    · rw [h1]; exact (h.res k).lift hx hc rfl (fun _ _ _ => rfl)
    · rw [h1]; trivial

theorem S.weaken {C : Ctx} {e : Env} {st st' : St} {a : Act} {w : World} (h : S C e st a w) (hl : Le st st') : S C e st' a w := by
  obtain ⟨ho, g, h⟩ := h; exact ⟨ho, g, h.weaken hl⟩

/-- Code, told of states. -/
def lwp (C : Ctx) (c : Code) (st : St) (K : Exit → St → Prop) : Prop :=
  ∀ (e : Env) (a : Act) (w : World), S C e st a w → c.wp C.P (fun x a' w' => ∃ st', S C e st' a' w' ∧ K x st') a w

theorem lwp_mono {C : Ctx} {c : Code} {st : St} {K K' : Exit → St → Prop} (h : lwp C c st K) (hk : ∀ x s, K x s → K' x s) : lwp C c st K' :=
  fun e a w hs => wp_mono (h e a w hs) fun x _ _ ⟨st', h1, h2⟩ => ⟨st', h1, hk x st' h2⟩

theorem lwp_weaken {C : Ctx} {c : Code} {st st' : St} {K : Exit → St → Prop} (hl : Le st st') (h : lwp C c st' K) : lwp C c st K :=
  fun e a w hs => h e a w (hs.weaken hl)

theorem lwp_skip {C : Ctx} {st : St} {K : Exit → St → Prop} (h : K .normal st) : lwp C .skip st K := fun _ _ _ hs => wp_skip ⟨st, hs, h⟩
theorem lwp_exit {C : Ctx} {st : St} {K : Exit → St → Prop} {id : Nat} (h : K (.exit id) st) : lwp C (.exit id) st K := fun _ _ _ hs => wp_exit ⟨st, hs, h⟩
theorem lwp_ret {C : Ctx} {st : St} {K : Exit → St → Prop} (h : K .ret st) : lwp C .ret st K := fun _ _ _ hs => wp_ret ⟨st, hs, h⟩

/-- What follows, if the first ends by itself. -/
def thenK (next : St → Prop) (K : Exit → St → Prop) : Exit → St → Prop
  | .normal, s => next s
  | x, s => K x s

def blockK (id : Nat) (K : Exit → St → Prop) : Exit → St → Prop
  | .exit id', s => if id' = id then K .normal s else K (.exit id') s
  | x, s => K x s

theorem lwp_seq {C : Ctx} {x y : Code} {st : St} {K : Exit → St → Prop} (h : lwp C x st (thenK (fun s => lwp C y s K) K)) : lwp C (.seq x y) st K := by
  intro e a w hs
  refine wp_seq (wp_mono (h e a w hs) ?_)
  rintro x a' w' ⟨st', h1, h2⟩
  cases x <;> first | exact h2 e a' w' h1 | exact ⟨st', h1, h2⟩

theorem lwp_block {C : Ctx} {c : Code} {id : Nat} {st : St} {K : Exit → St → Prop} (h : lwp C c st (blockK id K)) : lwp C (.block id c) st K := by
  intro e a w hs
  refine wp_block (wp_mono (h e a w hs) ?_)
  rintro x a' w' ⟨st', h1, h2⟩
  cases x with
  | exit id' =>
    simp only [Exit.inBlock, blockK] at h2 ⊢
    split
    · rename_i hi; rw [if_pos hi] at h2; exact ⟨st', h1, h2⟩
    · rename_i hi; rw [if_neg hi] at h2; exact ⟨st', h1, h2⟩
  | _ => exact ⟨st', h1, h2⟩

/-- An operand. -/
def ev (st : St) : Operand → AV
  | .tmp d => lookT d st.t
  | .const v => .r (.v v)
  | .func f => .r (.fn f [])
  | .global _ => .any

theorem ev_ok {C : Ctx} {e : Env} {st : St} {g : Gh} {a : Act} {w : World} (h : SR C e st g a w) (x : Operand) : AR st.cur g w (e.N st g) (ev st x) (a.eval x) := by
  cases x with
  | tmp d => exact h.temps d
  | const v => exact .r (.v v)
  | func f => exact .r (.fn f [] #[] rfl (by simp))
  | global _ => exact .any _

theorem AR_bool {cur : Nat → Nat} {g : Gh} {w : World} {N : Nat → Prop} {v u : Value} (h : AR cur g w N (.r (.v u)) v) : v = u := by
  cases h with | r h => cases h; rfl

theorem lwp_cond {C : Ctx} {c : Operand} {x y : Code} {st : St} {K : Exit → St → Prop} {b : Bool} (hc : ev st c = .r (.v (.bool b)))
    (h : lwp C (if b then x else y) st K) : lwp C (.cond c x y) st K := by
  intro e a w hs
  obtain ⟨ho, g, hr⟩ := id hs
  have := ev_ok hr c
  rw [hc] at this
  exact wp_cond (AR_bool this) (h e a w hs)

/-- A loop: σ numbers its rounds' heads. -/
theorem lwp_loop {C : Ctx} {c : Code} {K : Exit → St → Prop} {α : Type} (I : α → Prop) (f : α → St) (μ : α → Nat) (x0 : α) {st : St} (hst : Le st (f x0)) (h0 : I x0)
    (round : ∀ x, I x → lwp C c (f x) (thenK (fun s => ∃ y, I y ∧ μ y < μ x ∧ Le s (f y)) K)) : lwp C (.loop c) st K := by
  intro e a w hs
  refine wp_loop_ghost (fun n a w => ∃ x, μ x = n ∧ I x ∧ S C e (f x) a w) (μ x0) ⟨x0, rfl, h0, hs.weaken hst⟩ ?_
  rintro n a w ⟨x, rfl, hi, hx⟩
  refine wp_mono (round x hi e a w hx) ?_
  rintro q a' w' ⟨st', h1, h2⟩
  cases q with
  | normal => obtain ⟨y, hy, hlt, hle⟩ := h2; exact ⟨μ y, hlt, y, rfl, hy, h1.weaken hle⟩
  | _ => exact ⟨st', h1, h2⟩

end Go.Proofs.YtjbhpoolghfhiaaDoor
