/- The abstract values, states and relations by which the walks of this claim are told. No condition: definitions and plain lemmas. -/
import Derived.Below
import Derived.Orders
import Derived.Laws.AppendOwn
import Derived.Laws.StructEq
import Derived.KernelRfl
import Derived.Deep.LoopGhost
import Derived.Laws.FloatArith
namespace Go.Proofs.YtjbhpoolghfhiaaDoor
set_option linter.unusedVariables false
set_option linter.unusedSimpArgs false
set_option maxHeartbeats 10000000
open Go

/-- A read-only value: a value as it is; a pointer to cells; a slice of rows of cells; a function value; a float that is no number. -/
inductive RV where
  | v (x : Value)
  | rp (row : List RV)
  | rs (sz : Nat) (rows : List (List RV))
  | fn (f : Nat) (caps : List RV)
  | nan
  | ln (n : Nat)

/-- What stands in a slot: a read-only value; the handle of a resource; a pointer into a box; a pointer into a slice's element; values of several cells; several results; whatever. -/
inductive AV where
  | r (x : RV)
  | os (k ver : Nat)
  | rf (k ver off : Nat)
  | re (k ver sz i off : Nat)
  | agg (cs : List AV)
  | tup (xs : List AV)
  | any

/-- What is owned: nothing; a box of cells; a slice; a map. -/
inductive Res where
  | gone
  | bx (cells : List AV)
  | sl (e sz : Nat) (rows : List (List AV))
  | mp (f : Value → Option Value) (n : Nat)

inductive Loc where
  | T (d : Nat)
  | R (k : Nat)
  deriving DecidableEq

inductive Cont where
  | a (x : AV)
  | s (ver : Nat) (x : Res)

/-- A state: how many slots the frame has; slots; resources. -/
structure St where
  n : Nat
  t : List (Nat × AV)
  rs : List (Nat × Nat × Res)

def lookT (d : Nat) : List (Nat × AV) → AV
  | [] => .any
  | (k, x) :: l => if d = k then x else lookT d l

def lookR (d : Nat) : List (Nat × Nat × Res) → Nat × Res
  | [] => (0, .gone)
  | (k, x) :: l => if d = k then x else lookR d l

def putT (d : Nat) (x : AV) : List (Nat × AV) → List (Nat × AV)
  | [] => [(d, x)]
  | (k, y) :: l => if d = k then (k, x) :: l else (k, y) :: putT d x l

def putR (d : Nat) (x : Nat × Res) : List (Nat × Nat × Res) → List (Nat × Nat × Res)
  | [] => [(d, x)]
  | (k, y) :: l => if d = k then (k, x) :: l else (k, y) :: putR d x l

theorem lookT_put (d e : Nat) (x : AV) (l : List (Nat × AV)) : lookT d (putT e x l) = if d = e then x else lookT d l := by
  induction l with
  | nil => simp [putT, lookT]
  | cons p l ih =>
    obtain ⟨k, y⟩ := p
    simp only [putT]
    by_cases h : e = k
    · subst h; simp only [if_true, lookT]; by_cases h2 : d = e <;> simp [h2]
    · simp only [h, if_false, lookT, ih]
      by_cases h2 : d = k
      · subst h2; simp only [if_true]; rw [if_neg (by omega)]
      · simp [h2]

theorem lookR_put (d e : Nat) (x : Nat × Res) (l : List (Nat × Nat × Res)) : lookR d (putR e x l) = if d = e then x else lookR d l := by
  induction l with
  | nil => simp [putR, lookR]
  | cons p l ih =>
    obtain ⟨k, y⟩ := p
    simp only [putR]
    by_cases h : e = k
    · subst h; simp only [if_true, lookR]; by_cases h2 : d = e <;> simp [h2]
    · simp only [h, if_false, lookR, ih]
      by_cases h2 : d = k
      · subst h2; simp only [if_true]; rw [if_neg (by omega)]
      · simp [h2]

def St.get (st : St) : Loc → Cont
  | .T d => .a (lookT d st.t)
  | .R k => .s (lookR k st.rs).1 (lookR k st.rs).2

def St.set (st : St) : Loc → Cont → St
  | .T d, .a x => { st with t := putT d x st.t }
  | .R k, .s ver x => { st with rs := putR k (ver, x) st.rs }
  | _, _ => st

def St.upd (st : St) : List (Loc × Cont) → St
  | [] => st
  | (l, c) :: r => (st.set l c).upd r

/-- The version of each resource. -/
def St.cur (st : St) (k : Nat) : Nat := (lookR k st.rs).1

/-- Ghosts: the handle of each resource. -/
abbrev Gh := Nat → Value

def hblock : Value → Option Nat
  | .slice (some a) _ _ => some a.block
  | .pointer (some a) => some a.block
  | .map (some r) => some r
  | _ => none

/-- The block of a resource, if it has one. -/
def blk (st : St) (g : Gh) (k : Nat) : Option Nat :=
  match (lookR k st.rs).2 with
  | .gone => none
  | _ => hblock (g k)

def own (st : St) (g : Gh) (b : Nat) : Prop := ∃ k, blk st g k = some b

def isNaN64 (bits : Nat) : Prop := FloatKind.f64.format.order bits bits = none

/-- How a read-only value stands in a world; N: the blocks that it may not read. -/
inductive RR (w : World) (N : Nat → Prop) : RV → Value → Prop
  | v (x : Value) : RR w N (.v x) x
  | rp (row : List RV) (a : Addr) (c : Nat → Value) (hb : row ≠ [] → a.block < w.heap.size ∧ ¬ N a.block ∧ a.spot = none)
      (hc : ∀ j, j < row.length → w.cell? ⟨a.block, a.off + j, none⟩ = some (c j)) (hr : ∀ j x, row[j]? = some x → RR w N x (c j)) : RR w N (.rp row) (.pointer (some a))
  | nil (sz : Nat) : RR w N (.rs sz []) (.slice none 0 0)
  | rs (sz : Nat) (rows : List (List RV)) (a : Addr) (cap : Nat) (c : Nat → Nat → Value) (hb : rows ≠ [] → a.block < w.heap.size ∧ ¬ N a.block ∧ a.spot = none)
      (hcap : rows.length ≤ cap) (hw : ∀ row ∈ rows, row.length = sz) (hc : ∀ i j, i < rows.length → j < sz → w.cell? ⟨a.block, a.off + (i * sz + j), none⟩ = some (c i j))
      (hr : ∀ (i j : Nat) (row : List RV) (x : RV), rows[i]? = some row → row[j]? = some x → RR w N x (c i j)) : RR w N (.rs sz rows) (.slice (some a) rows.length cap)
  | fn (f : Nat) (caps : List RV) (vs : Array Value) (hs : vs.size = caps.length) (hr : ∀ (j : Nat) (x : RV) (y : Value), caps[j]? = some x → vs[j]? = some y → RR w N x y) : RR w N (.fn f caps) (.func (.func f) #[] vs)
  | nan (bits : Nat) (h : isNaN64 bits) : RR w N .nan (.float .f64 bits)
  | ln (n : Nat) (o : Option Addr) (c : Nat) : RR w N (.ln n) (.slice o n c)

theorem RR.mono {w w' : World} {N N' : Nat → Prop} {x : RV} {v : Value} (h : RR w N x v) (hs : w.heap.size ≤ w'.heap.size)
    (hk : ∀ b, b < w.heap.size → ¬ N b → w'.heap[b]? = w.heap[b]? ∧ ¬ N' b) : RR w' N' x v := by
  induction h with
  | v x => exact .v x
  | rp row a c hb hc hr ih =>
    refine .rp row a c (fun h => ?_) (fun j hj => ?_) ih
    · obtain ⟨h1, h2, h3⟩ := hb h; exact ⟨by omega, (hk _ h1 h2).2, h3⟩
    · obtain ⟨h1, h2, h3⟩ := hb (by intro e; simp [e] at hj)
      rw [← hc j hj]; exact World.cell?_of_block (hk a.block h1 h2).1
  | nil sz => exact .nil sz
  | rs sz rows a cap c hb hcap hw hc hr ih =>
    refine .rs sz rows a cap c (fun h => ?_) hcap hw (fun i j hi hj => ?_) ih
    · obtain ⟨h1, h2, h3⟩ := hb h; exact ⟨by omega, (hk _ h1 h2).2, h3⟩
    · obtain ⟨h1, h2, h3⟩ := hb (by intro e; simp [e] at hi)
      rw [← hc i j hi hj]; exact World.cell?_of_block (hk a.block h1 h2).1
  | fn f caps vs hs' hr ih => exact .fn f caps vs hs' ih
  | nan bits h => exact .nan bits h
  | ln n o c => exact .ln n o c

/-- How a slot's value stands in a world. -/
inductive AR (cur : Nat → Nat) (g : Gh) (w : World) (N : Nat → Prop) : AV → Value → Prop
  | r {x : RV} {v : Value} (h : RR w N x v) : AR cur g w N (.r x) v
  | os (k ver : Nat) (v : Value) (h1 : v.oneCell' = true) (h : ver < cur k ∨ ver = cur k ∧ v = g k) : AR cur g w N (.os k ver) v
  | rf (k ver off : Nat) (v : Value) (h1 : v.oneCell' = true) (h : ver < cur k ∨ ver = cur k ∧ ∃ b, g k = .pointer (some ⟨b, 0, none⟩) ∧ v = .pointer (some ⟨b, off, none⟩)) : AR cur g w N (.rf k ver off) v
  | re (k ver sz i off : Nat) (v : Value) (h1 : v.oneCell' = true) (h : ver < cur k ∨ ver = cur k ∧ ∃ b n c, g k = .slice (some ⟨b, 0, none⟩) n c ∧ v = .pointer (some ⟨b, i * sz + off, none⟩)) : AR cur g w N (.re k ver sz i off) v
  | agg (cs : List AV) (xs : Array Value) (hs : xs.size = cs.length) (h : ∀ (j : Nat) (x : AV) (y : Value), cs[j]? = some x → xs[j]? = some y → AR cur g w N x y) : AR cur g w N (.agg cs) (.agg xs)
  | tup (cs : List AV) (xs : Array Value) (hs : xs.size = cs.length) (h : ∀ (j : Nat) (x : AV) (y : Value), cs[j]? = some x → xs[j]? = some y → AR cur g w N x y) : AR cur g w N (.tup cs) (.tuple xs)
  | any (v : Value) : AR cur g w N .any v

theorem AR.mono {cur cur' : Nat → Nat} {g g' : Gh} {w w' : World} {N N' : Nat → Prop} {x : AV} {v : Value} (h : AR cur g w N x v) (hs : w.heap.size ≤ w'.heap.size)
    (hk : ∀ b, b < w.heap.size → ¬ N b → w'.heap[b]? = w.heap[b]? ∧ ¬ N' b) (hc : ∀ k, cur k < cur' k ∨ cur k = cur' k ∧ g k = g' k) : AR cur' g' w' N' x v := by
  induction h with
  | r h => exact .r (h.mono hs hk)
  | os k ver v h1 h =>
    refine .os k ver v h1 ?_
    rcases hc k with h2 | ⟨h2, h3⟩ <;> rcases h with h | ⟨h, h4⟩
    · left; omega
    · left; omega
    · left; omega
    · right; exact ⟨by omega, by rw [← h3]; exact h4⟩
  | rf k ver off v h1 h =>
    refine .rf k ver off v h1 ?_
    rcases hc k with h2 | ⟨h2, h3⟩ <;> rcases h with h | ⟨h, h4⟩
    · left; omega
    · left; omega
    · left; omega
    · right; exact ⟨by omega, by rw [← h3]; exact h4⟩
  | re k ver sz i off v h1 h =>
    refine .re k ver sz i off v h1 ?_
    rcases hc k with h2 | ⟨h2, h3⟩ <;> rcases h with h | ⟨h, h4⟩
    · left; omega
    · left; omega
    · left; omega
    · right; exact ⟨by omega, by rw [← h3]; exact h4⟩
  | agg cs xs hs' _ ih => exact .agg cs xs hs' ih
  | tup cs xs hs' _ ih => exact .tup cs xs hs' ih
  | any v => exact .any v

/-- A map's entries are told by a function: which value each key has, how many there are. -/
def MapIs (es : Array MapEntry) (f : Value → Option Value) (n : Nat) : Prop :=
  es.size = n ∧ (∀ k x, f k = some x ↔ ∃ e ∈ es.toList, e.key = k ∧ e.val = x) ∧ (es.toList.map (·.key)).Nodup

/-- How a resource stands in a world. -/
def ResR (cur : Nat → Nat) (g : Gh) (w : World) (N : Nat → Prop) (k : Nat) : Res → Prop
  | .gone => True
  | .bx cells => ∃ b C e, g k = .pointer (some ⟨b, 0, none⟩) ∧ w.heap[b]? = some (.cells C e (0, 0)) ∧ C.size = cells.length ∧ ∀ (j : Nat) (x : AV) (y : Value), cells[j]? = some x → C[j]? = some y → AR cur g w N x y
  | .sl e sz rows => ∃ xs, w.ownsRow 0 e sz (g k) rows.length xs ∧ (∀ row ∈ rows, row.length = sz) ∧ ∀ (i j : Nat) (row : List AV) (x : AV) (y : Value), rows[i]? = some row → row[j]? = some x → xs[i * sz + j]? = some y → AR cur g w N x y
  | .mp f n => ∃ b es clock, g k = .map (some b) ∧ w.heap[b]? = some (.map es clock) ∧ MapIs es f n

/-- The rest of the world of a call: the world that it began in, what it may write there, what may not be read. -/
structure Env where
  w0 : World
  own0 : Nat → Prop
  av0 : Nat → Prop
  cur0 : Nat → Nat
  g0 : Gh

/-- What was there when the call began is as it was, but for what it may write. -/
structure Ext (w : World) (own : Nat → Prop) (w' : World) (own' : Nat → Prop) : Prop where
  os : w'.os = w.os
  tape : w'.tape = w.tape
  output : w'.output = w.output
  size : w.heap.size ≤ w'.heap.size
  block : ∀ b, b < w.heap.size → ¬ own b → w'.heap[b]? = w.heap[b]? ∧ ¬ own' b

theorem Ext.refl (w : World) (own : Nat → Prop) : Ext w own w own := ⟨rfl, rfl, rfl, Nat.le_refl _, fun _ _ h => ⟨rfl, h⟩⟩
theorem Ext.trans {w w' w'' : World} {o o' o'' : Nat → Prop} (h : Ext w o w' o') (k : Ext w' o' w'' o'') : Ext w o w'' o'' :=
  ⟨k.os.trans h.os, k.tape.trans h.tape, k.output.trans h.output, Nat.le_trans h.size k.size, fun b hb ho => by
    obtain ⟨h1, h2⟩ := h.block b hb ho
    obtain ⟨h3, h4⟩ := k.block b (Nat.lt_of_lt_of_le hb h.size) h2
    exact ⟨h3.trans h1, h4⟩⟩

/-- What is fixed for a claim: the program; what is known of the world's old memory (of its first gs blocks). -/
structure Ctx where
  P : Program
  gs : Nat
  G : World → Prop
  hG : ∀ w w' : World, G w → (∀ b, b < gs → w'.heap[b]? = w.heap[b]?) → w.heap.size ≤ w'.heap.size → G w'
  mixed : P.follows .mixedOrders = true

/-- What may not be read: what the caller says, and what is owned. -/
def Env.N (e : Env) (st : St) (g : Gh) (b : Nat) : Prop := e.av0 b ∨ own st g b

structure Env.ok (C : Ctx) (e : Env) : Prop where
  G : C.G e.w0
  gs : C.gs ≤ e.w0.heap.size
  own : ∀ b, e.own0 b → C.gs ≤ b ∧ b < e.w0.heap.size
  av : ∀ b, e.av0 b → b < e.w0.heap.size

/-- The state tells of the frame and the world. -/
structure SR (C : Ctx) (e : Env) (st : St) (g : Gh) (a : Act) (w : World) : Prop where
  defers : a.defers = []
  size : a.tmps.size = st.n
  temps : ∀ d, AR st.cur g w (e.N st g) (lookT d st.t) (a.tmps.getD d undef)
  res : ∀ k, ResR st.cur g w (e.N st g) k (lookR k st.rs).2
  uniq : ∀ k k' b, blk st g k = some b → blk st g k' = some b → k = k'
  low : ∀ k b, blk st g k = some b → C.gs ≤ b ∧ b < w.heap.size ∧ ¬ e.av0 b
  ext : Ext e.w0 e.own0 w (own st g)
  hist : ∀ k, e.cur0 k < st.cur k ∨ e.cur0 k = st.cur k ∧ g k = e.g0 k

theorem hist_step {a b c : Nat → Nat} {g0 g g' : Gh} (h : ∀ k, a k < b k ∨ a k = b k ∧ g k = g0 k) (hc : ∀ k, b k < c k ∨ b k = c k ∧ g k = g' k) (k : Nat) : a k < c k ∨ a k = c k ∧ g' k = g0 k := by
  rcases h k with h1 | ⟨h1, h2⟩ <;> rcases hc k with h3 | ⟨h3, h4⟩
  · left; omega
  · left; omega
  · left; omega
  · right; exact ⟨by omega, by rw [← h4]; exact h2⟩

/-- From here on. -/
abbrev Env.re (e : Env) (st : St) (g : Gh) : Env := { e with cur0 := st.cur, g0 := g }

theorem SR.re {C : Ctx} {e : Env} {st : St} {g : Gh} {a : Act} {w : World} (h : SR C e st g a w) : SR C (e.re st g) st g a w :=
  ⟨h.defers, h.size, h.temps, h.res, h.uniq, h.low, h.ext, fun _ => .inr ⟨rfl, rfl⟩⟩

def S (C : Ctx) (e : Env) (st : St) (a : Act) (w : World) : Prop := e.ok C ∧ ∃ g, SR C e st g a w

theorem SR.size_le {C : Ctx} {e : Env} {st : St} {g : Gh} {a : Act} {w : World} (h : SR C e st g a w) : e.w0.heap.size ≤ w.heap.size := h.ext.size

theorem S.G {C : Ctx} {e : Env} {st : St} {a : Act} {w : World} (h : S C e st a w) : C.G w := by
  obtain ⟨ho, g, h⟩ := h
  refine C.hG e.w0 w ho.G (fun b hb => (h.ext.block b (by have := ho.gs; omega) fun hc => ?_).1) h.ext.size
  have := (ho.own b hc).1; omega

end Go.Proofs.YtjbhpoolghfhiaaDoor
namespace Go.Proofs.YtjbhpoolghfhiaaDoor
set_option linter.unusedVariables false
set_option linter.unusedSimpArgs false
set_option maxHeartbeats 10000000
open Go

theorem cur_putT (st : St) (d : Nat) (x : AV) : ({ st with t := putT d x st.t } : St).cur = st.cur := rfl

def gput (g : Gh) (k : Nat) (v : Value) : Gh := fun j => if j = k then v else g j

theorem AR.lift {e : Env} {st st' : St} {g g' : Gh} {w w' : World} {x : AV} {v : Value} (h : AR st.cur g w (e.N st g) x v)
    (hx : Ext w (own st g) w' (own st' g')) (hc : ∀ k, st.cur k < st'.cur k ∨ st.cur k = st'.cur k ∧ g k = g' k) : AR st'.cur g' w' (e.N st' g') x v :=
  h.mono hx.size (fun b hb hn => by
    have h1 := hx.block b hb (fun ho => hn (.inr ho))
    exact ⟨h1.1, fun h2 => h2.elim (fun h3 => hn (.inl h3)) h1.2⟩) hc

theorem ownsRow_same {w w' : World} {base e sz : Nat} {v : Value} {n : Nat} {xs : List Value} (h : w.ownsRow base e sz v n xs)
    (hk : ∀ b, hblock v = some b → w'.heap[b]? = w.heap[b]?) : w'.ownsRow base e sz v n xs := by
  refine ⟨h.1, ?_⟩
  rcases h.2 with hn | ⟨b, cap, cur, rfl, hb, hh, rest⟩
  · exact .inl hn
  · exact .inr ⟨b, cap, cur, rfl, hb, by rw [hk b rfl]; exact hh, rest⟩

theorem ResR.lift {e : Env} {st st' : St} {g g' : Gh} {w w' : World} {k : Nat} {x : Res} (h : ResR st.cur g w (e.N st g) k x)
    (hx : Ext w (own st g) w' (own st' g')) (hc : ∀ k, st.cur k < st'.cur k ∨ st.cur k = st'.cur k ∧ g k = g' k) (hg : g' k = g k)
    (hk : x ≠ .gone → ∀ b, hblock (g k) = some b → w'.heap[b]? = w.heap[b]?) : ResR st'.cur g' w' (e.N st' g') k x := by
  cases x with
  | gone => trivial
  | bx cells =>
    obtain ⟨b, C', el, h1, h2, h3, h4⟩ := h
    exact ⟨b, C', el, by rw [hg]; exact h1, by rw [hk (by simp) b (by rw [h1]; rfl)]; exact h2, h3, fun j x y hj hy => (h4 j x y hj hy).lift hx hc⟩
  | sl el sz rows =>
    obtain ⟨xs, h1, h2, h3⟩ := h
    refine ⟨xs, ?_, h2, fun i j row x y hi hj hy => (h3 i j row x y hi hj hy).lift hx hc⟩
    rw [hg]; exact ownsRow_same h1 (hk (by simp))
  | mp f n =>
    obtain ⟨b, es, clock, h1, h2, h3⟩ := h
    exact ⟨b, es, clock, by rw [hg]; exact h1, by rw [hk (by simp) b (by rw [h1]; rfl)]; exact h2, h3⟩

theorem blk_of {st st' : St} {g g' : Gh} {k : Nat} (h1 : (lookR k st'.rs).2 = (lookR k st.rs).2) (h2 : g' k = g k) : blk st' g' k = blk st g k := by
  simp only [blk, h1, h2]

/-- A slot gets a value; nothing else turns. -/
theorem SR.put {C : Ctx} {e : Env} {st : St} {g : Gh} {a : Act} {w : World} (h : SR C e st g a w) {d : Nat} (hd : d < st.n) {x : AV} {v : Value}
    (hv : AR st.cur g w (e.N st g) x v) : SR C e { st with t := putT d x st.t } g (a.put (some d) v) w := by
  refine ⟨h.defers, by simp [Act.put, h.size], fun d' => ?_, h.res, h.uniq, h.low, h.ext, h.hist⟩
  show AR st.cur g w (e.N st g) _ _
  rw [lookT_put]
  by_cases hdd : d' = d
  · subst hdd
    have : ((a.put (some d') v).tmps.getD d' undef) = v := by
      simp [Act.put, Array.getD_eq_getD_getElem?, h.size, hd]
    rw [this]; simpa using hv
  · have : ((a.put (some d) v).tmps.getD d' undef) = a.tmps.getD d' undef := by
      simp [Act.put, Array.getD_eq_getD_getElem?, Ne.symm hdd]
    rw [this, if_neg hdd]; exact h.temps d'

/-- The world turned in nothing that matters (draws). -/
theorem SR.world {C : Ctx} {e : Env} {st : St} {g : Gh} {a : Act} {w w' : World} (h : SR C e st g a w) (hh : w'.heap = w.heap) (ho : w'.os = w.os) (ht : w'.tape = w.tape) (hp : w'.output = w.output) : SR C e st g a w' := by
  have hx : Ext w (own st g) w' (own st g) := ⟨ho, ht, hp, by rw [hh]; exact Nat.le_refl _, fun b _ hb => ⟨by rw [hh], hb⟩⟩
  have hc : ∀ k, st.cur k < st.cur k ∨ st.cur k = st.cur k ∧ g k = g k := fun k => .inr ⟨rfl, rfl⟩
  exact ⟨h.defers, h.size, fun d => (h.temps d).lift hx hc, fun k => (h.res k).lift hx hc rfl (fun _ b _ => by rw [hh]), h.uniq, fun k b hb => by rw [hh]; exact h.low k b hb, h.ext.trans hx, h.hist⟩

/-- One resource turns, the others and all old memory that is not owned stay. -/
theorem SR.turn {C : Ctx} {e : Env} {st : St} {g : Gh} {a : Act} {w w' : World} (h : SR C e st g a w) (k0 : Nat) (ver : Nat) (res : Res) (v : Value)
    (ho : w'.os = w.os) (ht : w'.tape = w.tape) (hp : w'.output = w.output) (hs : w.heap.size ≤ w'.heap.size)
    (hb : ∀ b, b < w.heap.size → blk st g k0 ≠ some b → w'.heap[b]? = w.heap[b]?)
    (hver : st.cur k0 < ver ∨ st.cur k0 = ver ∧ g k0 = v)
    (hblk : ∀ b, res ≠ .gone → hblock v = some b → b < w'.heap.size ∧ (blk st g k0 = some b ∨ w.heap.size ≤ b))
    (hok : e.ok C)
    (hres : ∀ (st' : St) (g' : Gh), st' = { st with rs := putR k0 (ver, res) st.rs } → g' = gput g k0 v → (∀ x y, AR st.cur g w (e.N st g) x y → AR st'.cur g' w' (e.N st' g') x y) → ResR st'.cur g' w' (e.N st' g') k0 res) :
    SR C e { st with rs := putR k0 (ver, res) st.rs } (gput g k0 v) a w' ∧ (∀ x y, AR st.cur g w (e.N st g) x y → AR ({ st with rs := putR k0 (ver, res) st.rs } : St).cur (gput g k0 v) w' (e.N { st with rs := putR k0 (ver, res) st.rs } (gput g k0 v)) x y) := by
  generalize hst : ({ st with rs := putR k0 (ver, res) st.rs } : St) = st' at *
  generalize hg' : gput g k0 v = g' at *
  have hlook : ∀ k, lookR k st'.rs = if k = k0 then (ver, res) else lookR k st.rs := fun k => by rw [← hst]; exact lookR_put k k0 _ _
  have hgk : ∀ k, g' k = if k = k0 then v else g k := fun k => by rw [← hg']; rfl
  have hother : ∀ k, k ≠ k0 → blk st' g' k = blk st g k := fun k hk => blk_of (by rw [hlook, if_neg hk]) (by rw [hgk, if_neg hk])
  have hself : ∀ b, blk st' g' k0 = some b → res ≠ .gone ∧ hblock v = some b := fun b hb => by
    simp only [blk, hlook, hgk, if_true] at hb
    cases res <;> simp_all
  have hown : ∀ b, b < w.heap.size → own st' g' b → own st g b := fun b hbs ⟨k, hk⟩ => by
    by_cases hkk : k = k0
    · subst hkk
      obtain ⟨h1, h2⟩ := hself b hk
      rcases (hblk b h1 h2).2 with h3 | h3
      · exact ⟨k, h3⟩
      · omega
    · rw [hother k hkk] at hk; exact ⟨k, hk⟩
  have hx : Ext w (own st g) w' (own st' g') := ⟨ho, ht, hp, hs, fun b hbs hn => ⟨hb b hbs (fun h1 => hn ⟨k0, h1⟩), fun h1 => hn (hown b hbs h1)⟩⟩
  have hc : ∀ k, st.cur k < st'.cur k ∨ st.cur k = st'.cur k ∧ g k = g' k := fun k => by
    by_cases hkk : k = k0
    · subst hkk
      have : st'.cur k = ver := by simp [St.cur, hlook]
      rw [this, hgk, if_pos rfl]; exact hver
    · right; exact ⟨by simp [St.cur, hlook, hkk], by rw [hgk, if_neg hkk]⟩
  have hl : ∀ x y, AR st.cur g w (e.N st g) x y → AR st'.cur g' w' (e.N st' g') x y := fun x y hxy => hxy.lift hx hc
  refine ⟨⟨h.defers, by rw [← hst]; exact h.size, fun d => ?_, fun k => ?_, fun k k' b hk hk' => ?_, fun k b hk => ?_, h.ext.trans hx, hist_step h.hist hc⟩, hl⟩
  · have : st'.t = st.t := by rw [← hst]
    rw [this]; exact hl _ _ (h.temps d)
  · by_cases hkk : k = k0
    · subst hkk; rw [hlook, if_pos rfl]; exact hres st' g' rfl rfl hl
    · rw [hlook, if_neg hkk]
      refine (h.res k).lift hx hc (by rw [hgk, if_neg hkk]) (fun hng b hb1 => ?_)
      have hbk : blk st g k = some b := by
        simp only [blk]; revert hng; cases (lookR k st.rs).2 <;> intro hng <;> first | exact absurd rfl hng | exact hb1
      exact hb b (h.low k b hbk).2.1 (fun hcon => hkk (h.uniq k k0 b hbk hcon))
  · by_cases h1 : k = k0 <;> by_cases h2 : k' = k0
    · rw [h1, h2]
    · subst h1
      rw [hother k' h2] at hk'
      obtain ⟨h3, h4⟩ := hself b hk
      rcases (hblk b h3 h4).2 with h5 | h5
      · exact absurd (h.uniq k' k b hk' h5) h2
      · have := (h.low k' b hk').2.1; omega
    · subst h2
      rw [hother k h1] at hk
      obtain ⟨h3, h4⟩ := hself b hk'
      rcases (hblk b h3 h4).2 with h5 | h5
      · exact absurd (h.uniq k k' b hk h5) h1
      · have := (h.low k b hk).2.1; omega
    · rw [hother k h1] at hk; rw [hother k' h2] at hk'; exact h.uniq k k' b hk hk'
  · by_cases h1 : k = k0
    · subst h1
      obtain ⟨h3, h4⟩ := hself b hk
      obtain ⟨h5, h6⟩ := hblk b h3 h4
      rcases h6 with h6 | h6
      · exact ⟨(h.low k b h6).1, h5, (h.low k b h6).2.2⟩
      · refine ⟨?_, h5, fun hav => ?_⟩
        · have := hok.gs; have := h.ext.size; omega
        · have := hok.av b hav; have := h.ext.size; omega
    · rw [hother k h1] at hk
      obtain ⟨h3, h4, h5⟩ := h.low k b hk
      exact ⟨h3, by omega, h5⟩

/-- A state that tells less. -/
structure Le (st st' : St) : Prop where
  n : st'.n = st.n
  t : ∀ d, lookT d st'.t = .any ∨ lookT d st'.t = lookT d st.t
  r : ∀ k, lookR k st'.rs = lookR k st.rs ∨ (lookR k st'.rs).2 = .gone ∧ (lookR k st.rs).1 ≤ (lookR k st'.rs).1

theorem SR.weaken {C : Ctx} {e : Env} {st st' : St} {g : Gh} {a : Act} {w : World} (h : SR C e st g a w) (hl : Le st st') : SR C e st' g a w := by
  have hbl : ∀ k b, blk st' g k = some b → blk st g k = some b := fun k b hb => by
    rcases hl.r k with h1 | ⟨h1, _⟩
    · rw [← blk_of (st := st) (st' := st') (g := g) (g' := g) (by rw [h1]) rfl]; exact hb
    · simp [blk, h1] at hb
  have hown : ∀ b, own st' g b → own st g b := fun b ⟨k, hk⟩ => ⟨k, hbl k b hk⟩
  have hx : Ext w (own st g) w (own st' g) := ⟨rfl, rfl, rfl, Nat.le_refl _, fun b _ hb => ⟨rfl, fun h1 => hb (hown b h1)⟩⟩
  have hc : ∀ k, st.cur k < st'.cur k ∨ st.cur k = st'.cur k ∧ g k = g k := fun k => by
    rcases hl.r k with h1 | ⟨_, h1⟩
    · exact .inr ⟨by simp only [St.cur, h1], rfl⟩
    · rcases Nat.lt_or_ge (st.cur k) (st'.cur k) with h2 | h2
      · exact .inl h2
      · exact .inr ⟨Nat.le_antisymm h1 h2, rfl⟩
  refine ⟨h.defers, by rw [hl.n]; exact h.size, fun d => ?_, fun k => ?_, fun k k' b hk hk' => h.uniq k k' b (hbl k b hk) (hbl k' b hk'), fun k b hk => h.low k b (hbl k b hk), h.ext.trans hx, hist_step h.hist hc⟩
  · rcases hl.t d with h1 | h1
    · rw [h1]; exact .any _
    · rw [h1]; exact (h.temps d).lift hx hc
  · rcases hl.r k with h1 | ⟨h1, _⟩
    · rw [h1]; exact (h.res k).lift hx hc rfl (fun _ _ _ => rfl)
    · rw [h1]; trivial

theorem S.weaken {C : Ctx} {e : Env} {st st' : St} {a : Act} {w : World} (h : S C e st a w) (hl : Le st st') : S C e st' a w := by
  obtain ⟨ho, g, h⟩ := h; exact ⟨ho, g, h.weaken hl⟩

/-- Code, told of states. -/
def lwp (C : Ctx) (c : Code) (st : St) (K : Exit → St → Prop) : Prop :=
  ∀ (e : Env) (a : Act) (w : World), S C e st a w → c.wp C.P (fun x a' w' => ∃ st', S C e st' a' w' ∧ K x st') a w

theorem lwp_mono {C : Ctx} {c : Code} {st : St} {K K' : Exit → St → Prop} (h : lwp C c st K) (hk : ∀ x s, K x s → K' x s) : lwp C c st K' :=
  fun e a w hs => wp_mono (h e a w hs) fun x _ _ ⟨st', h1, h2⟩ => ⟨st', h1, hk x st' h2⟩

theorem lwp_weaken {C : Ctx} {c : Code} {st st' : St} {K : Exit → St → Prop} (hl : Le st st') (h : lwp C c st' K) : lwp C c st K :=
  fun e a w hs => h e a w (hs.weaken hl)

theorem lwp_skip {C : Ctx} {st : St} {K : Exit → St → Prop} (h : K .normal st) : lwp C .skip st K := fun _ _ _ hs => wp_skip ⟨st, hs, h⟩
theorem lwp_exit {C : Ctx} {st : St} {K : Exit → St → Prop} {id : Nat} (h : K (.exit id) st) : lwp C (.exit id) st K := fun _ _ _ hs => wp_exit ⟨st, hs, h⟩
theorem lwp_ret {C : Ctx} {st : St} {K : Exit → St → Prop} (h : K .ret st) : lwp C .ret st K := fun _ _ _ hs => wp_ret ⟨st, hs, h⟩

/-- What follows, if the first ends by itself. -/
def thenK (next : St → Prop) (K : Exit → St → Prop) : Exit → St → Prop
  | .normal, s => next s
  | x, s => K x s

def blockK (id : Nat) (K : Exit → St → Prop) : Exit → St → Prop
  | .exit id', s => if id' = id then K .normal s else K (.exit id') s
  | x, s => K x s

theorem lwp_seq {C : Ctx} {x y : Code} {st : St} {K : Exit → St → Prop} (h : lwp C x st (thenK (fun s => lwp C y s K) K)) : lwp C (.seq x y) st K := by
  intro e a w hs
  refine wp_seq (wp_mono (h e a w hs) ?_)
  rintro x a' w' ⟨st', h1, h2⟩
  cases x <;> first | exact h2 e a' w' h1 | exact ⟨st', h1, h2⟩

theorem lwp_block {C : Ctx} {c : Code} {id : Nat} {st : St} {K : Exit → St → Prop} (h : lwp C c st (blockK id K)) : lwp C (.block id c) st K := by
  intro e a w hs
  refine wp_block (wp_mono (h e a w hs) ?_)
  rintro x a' w' ⟨st', h1, h2⟩
  cases x with
  | exit id' =>
    simp only [Exit.inBlock, blockK] at h2 ⊢
    split
    · rename_i hi; rw [if_pos hi] at h2; exact ⟨st', h1, h2⟩
    · rename_i hi; rw [if_neg hi] at h2; exact ⟨st', h1, h2⟩
  | _ => exact ⟨st', h1, h2⟩

/-- An operand. -/
def ev (st : St) : Operand → AV
  | .tmp d => lookT d st.t
  | .const v => .r (.v v)
  | .func f => .r (.fn f [])
  | .global _ => .any

theorem ev_ok {C : Ctx} {e : Env} {st : St} {g : Gh} {a : Act} {w : World} (h : SR C e st g a w) (x : Operand) : AR st.cur g w (e.N st g) (ev st x) (a.eval x) := by
  cases x with
  | tmp d => exact h.temps d
  | const v => exact .r (.v v)
  | func f => exact .r (.fn f [] #[] rfl (by simp))
  | global _ => exact .any _

theorem AR_bool {cur : Nat → Nat} {g : Gh} {w : World} {N : Nat → Prop} {v u : Value} (h : AR cur g w N (.r (.v u)) v) : v = u := by
  cases h with | r h => cases h; rfl

theorem lwp_cond {C : Ctx} {c : Operand} {x y : Code} {st : St} {K : Exit → St → Prop} {b : Bool} (hc : ev st c = .r (.v (.bool b)))
    (h : lwp C (if b then x else y) st K) : lwp C (.cond c x y) st K := by
  intro e a w hs
  obtain ⟨ho, g, hr⟩ := id hs
  have := ev_ok hr c
  rw [hc] at this
  exact wp_cond (AR_bool this) (h e a w hs)

/-- A loop: σ numbers its rounds' heads. -/
theorem lwp_loop {C : Ctx} {c : Code} {K : Exit → St → Prop} {α : Type} (I : α → Prop) (f : α → St) (μ : α → Nat) (x0 : α) {st : St} (hst : Le st (f x0)) (h0 : I x0)
    (round : ∀ x, I x → lwp C c (f x) (thenK (fun s => ∃ y, I y ∧ μ y < μ x ∧ Le s (f y)) K)) : lwp C (.loop c) st K := by
  intro e a w hs
  refine wp_loop_ghost (fun n a w => ∃ x, μ x = n ∧ I x ∧ S C e (f x) a w) (μ x0) ⟨x0, rfl, h0, hs.weaken hst⟩ ?_
  rintro n a w ⟨x, rfl, hi, hx⟩
  refine wp_mono (round x hi e a w hx) ?_
  rintro q a' w' ⟨st', h1, h2⟩
  cases q with
  | normal => obtain ⟨y, hy, hlt, hle⟩ := h2; exact ⟨μ y, hlt, y, rfl, hy, h1.weaken hle⟩
  | _ => exact ⟨st', h1, h2⟩

end Go.Proofs.YtjbhpoolghfhiaaDoor
namespace Go.Proofs.YtjbhpoolghfhiaaDoor
set_option linter.unusedVariables false
set_option linter.unusedSimpArgs false
set_option maxHeartbeats 10000000
open Go

/-- What an operation needs is there. -/
def Agree (st : St) (ins : List (Loc × Cont)) : Prop := ∀ l c, (l, c) ∈ ins → st.get l = c

/-- An operation, told of what it reads and of what it writes, in whatever state holds what it reads. -/
def LStep (C : Ctx) (o : Oper) (n : Nat) (ins outs : List (Loc × Cont)) : Prop :=
  ∀ (e : Env) (st : St) (a : Act) (w : World) (next : Act → World → Prop) (Q : Exit → Act → World → Prop), st.n = n → S C e st a w → Agree st ins →
    (∀ a' w', S C e (st.upd outs) a' w' → next a' w') → o.wp C.P a w next Q

/-- A list of operations, told of states. -/
def lops (C : Ctx) (ops : Array Oper) (l : List Oper) (st : St) (K : St → Prop) : Prop :=
  ∀ (e : Env) (a : Act) (w : World) (Q : Exit → Act → World → Prop), S C e st a w → (∀ a' w' st', S C e st' a' w' → K st' → Q .normal a' w') → wpList C.P ops Q l a w

theorem lwp_region {C : Ctx} {id : Nat} {ops : Array Oper} {st : St} {K : Exit → St → Prop} (h : lops C ops ops.toList st (K .normal)) : lwp C (.region id ops false) st K :=
  fun e a w hs => wp_region_list (h e a w _ hs fun _ _ st' h1 h2 => ⟨st', h1, h2⟩)

theorem lops_nil {C : Ctx} {ops : Array Oper} {st : St} {K : St → Prop} (h : K st) : lops C ops [] st K := fun _ _ _ _ hs hq => hq _ _ st hs h

theorem lops_weaken {C : Ctx} {ops : Array Oper} {l : List Oper} {st st' : St} {K : St → Prop} (hl : Le st st') (h : lops C ops l st' K) : lops C ops l st K :=
  fun e a w Q hs => h e a w Q (hs.weaken hl)

theorem lops_step {C : Ctx} {ops : Array Oper} {o : Oper} {l : List Oper} {st : St} {K : St → Prop} {ins outs : List (Loc × Cont)} (hg : o.guard = none) (hs : LStep C o st.n ins outs) (ha : Agree st ins)
    (h : lops C ops l (st.upd outs) K) : lops C ops (o :: l) st K := by
  intro e a w Q hS hq
  unfold wpList
  rw [if_pos (by simp [Region.wanted, hg])]
  exact .inl (hs e st a w _ Q rfl hS ha fun a' w' h' => h e a' w' Q h' hq)

/-- The slot that a guard asks. -/
def gslot (ops : Array Oper) (j : Nat) : Nat := ((ops[j]?).bind (·.dst)).getD 0

theorem yielded_of {ops : Array Oper} {j d : Nat} {tmps : Array Value} {b : Bool} (hd : (ops[j]?).bind (·.dst) = some d) (hv : tmps.getD d undef = .bool b) : yielded ops tmps j = some b := by
  simp only [yielded, hd]
  cases h : tmps[d]? with
  | none => simp [Array.getD_eq_getD_getElem?, h, undef] at hv
  | some x =>
    have : x = .bool b := by simpa [Array.getD_eq_getD_getElem?, h] using hv
    simp [h, this]

theorem lops_guard_yes {C : Ctx} {ops : Array Oper} {o : Oper} {l : List Oper} {st : St} {K : St → Prop} {ins outs : List (Loc × Cont)} {j d : Nat} {b : Bool} (hg : o.guard = some (j, b)) (hd : (ops[j]?).bind (·.dst) = some d)
    (hv : lookT d st.t = .r (.v (.bool b))) (hs : LStep C o st.n ins outs) (ha : Agree st ins)
    (h : lops C ops l (st.upd outs) K) : lops C ops (o :: l) st K := by
  intro e a w Q hS hq
  unfold wpList
  obtain ⟨ho, g, hr⟩ := id hS
  have h1 := hr.temps d
  rw [hv] at h1
  rw [if_pos (by simp [Region.wanted, hg, yielded_of hd (AR_bool h1)])]
  exact .inl (hs e st a w _ Q rfl hS ha fun a' w' h' => h e a' w' Q h' hq)

/-- An operation that is not wanted leaves its slot bare. -/
def skipped (o : Oper) (st : St) : St :=
  match o.dst with
  | some d => { st with t := putT d (.r (.v (.tuple #[]))) st.t }
  | none => st

theorem skip_ok {C : Ctx} {e : Env} {st : St} {a : Act} {w : World} (o : Oper) (hd : ∀ d, o.dst = some d → d < st.n) (h : S C e st a w) : S C e (skipped o st) (a.put o.dst undef) w := by
  obtain ⟨ho, g, hr⟩ := h
  unfold skipped
  cases hdst : o.dst with
  | none => exact ⟨ho, g, hr⟩
  | some d => exact ⟨ho, g, hr.put (hd d hdst) (.r (.v _))⟩

theorem lops_guard_no {C : Ctx} {ops : Array Oper} {o : Oper} {l : List Oper} {st : St} {K : St → Prop} {j d : Nat} {b : Bool} (hg : o.guard = some (j, b)) (hd : (ops[j]?).bind (·.dst) = some d)
    (hv : lookT d st.t = .r (.v (.bool !b))) (hdst : ∀ d, o.dst = some d → d < st.n)
    (h : lops C ops l (skipped o st) K) : lops C ops (o :: l) st K := by
  intro e a w Q hS hq
  unfold wpList
  obtain ⟨ho, g, hr⟩ := id hS
  have h1 := hr.temps d
  rw [hv] at h1
  rw [if_neg (by simp [Region.wanted, hg, yielded_of hd (AR_bool h1)])]
  exact h e _ w Q (skip_ok o hdst hS) hq

theorem yielded_un {ops : Array Oper} {j d : Nat} {tmps : Array Value} {xs : Array Value} (hd : (ops[j]?).bind (·.dst) = some d) (hv : tmps.getD d undef = .tuple xs) : yielded ops tmps j = none := by
  simp only [yielded, hd]
  cases h : tmps[d]? with
  | none => simp [h]
  | some x =>
    have : x = .tuple xs := by simpa [Array.getD_eq_getD_getElem?, h] using hv
    simp [h, this]

theorem AR_tuple {cur : Nat → Nat} {g : Gh} {w : World} {N : Nat → Prop} {xs : Array Value} {v : Value} (h : AR cur g w N (.r (.v (.tuple xs))) v) : v = .tuple xs := by
  cases h with | r h => cases h; rfl

theorem lops_guard_un {C : Ctx} {ops : Array Oper} {o : Oper} {l : List Oper} {st : St} {K : St → Prop} {j d : Nat} {b : Bool} {xs : Array Value} (hg : o.guard = some (j, b)) (hd : (ops[j]?).bind (·.dst) = some d)
    (hv : lookT d st.t = .r (.v (.tuple xs))) (hdst : ∀ d, o.dst = some d → d < st.n)
    (h : lops C ops l (skipped o st) K) : lops C ops (o :: l) st K := by
  intro e a w Q hS hq
  unfold wpList
  obtain ⟨ho, g, hr⟩ := id hS
  have h1 := hr.temps d
  rw [hv] at h1
  rw [if_neg (by simp [Region.wanted, hg, yielded_un hd (AR_tuple h1)])]
  exact h e _ w Q (skip_ok o hdst hS) hq

/-- An operation that computes a value and leaves memory alone. -/
theorem LStep_val {C : Ctx} {o : Oper} {n d : Nat} {ins : List (Loc × Cont)} {x : AV} (hd : o.dst = some d) (hn : d < n)
    (h : ∀ (e : Env) (st : St) (g : Gh) (a : Act) (w : World), SR C e st g a w → Agree st ins →
      ∃ v w', (execOp a.eval o).run C.P w = .ok (.value v) w' ∧ w'.heap = w.heap ∧ w'.os = w.os ∧ w'.tape = w.tape ∧ w'.output = w.output ∧ AR st.cur g w (e.N st g) x v) :
    LStep C o n ins [(.T d, .a x)] := by
  intro e st a w next Q hn' ⟨ho, g, hr⟩ ha hnext
  obtain ⟨v, w', h1, hh, h2, h3, h4, h5⟩ := h e st g a w hr ha
  unfold Oper.wp
  rw [h1]
  show next (a.put o.dst v) w'
  refine hnext _ _ ⟨ho, g, ?_⟩
  rw [hd]
  show SR C e { st with t := putT d x st.t } g _ _
  exact (hr.put (by omega) h5).world hh h2 h3 h4

end Go.Proofs.YtjbhpoolghfhiaaDoor
namespace Go.Proofs.YtjbhpoolghfhiaaDoor
set_option linter.unusedVariables false
set_option linter.unusedSimpArgs false
set_option maxHeartbeats 10000000
open Go

abbrev Iv (n : Int) : AV := .r (.v (.int .i64 n))
abbrev Bv (b : Bool) : AV := .r (.v (.bool b))
abbrev Sv (s : ByteArray) : AV := .r (.v (.string s))
abbrev Fv (b : Nat) : AV := .r (.v (.float .f64 b))
abbrev NilS : AV := .r (.v (.slice none 0 0))

def sizeT (P : Program) (t : Nat) : Nat := match P.info? t with | some i => i.size | none => 0
def aggT (P : Program) (t : Nat) : Bool := match P.underlying t with | some (.struct _) | some (.array _ _) => true | _ => false
def zeroT (P : Program) (t : Nat) : Option Value := match P.info? t with | some i => i.zero | none => none
def fieldT (P : Program) (s f : Nat) : Option (Nat × Nat) := match P.underlying s with
  | some (.struct fs) => match fs[f]? with | some x => some (x.offset, sizeT P x.type) | none => none
  | _ => none
def elemT (P : Program) (t : Nat) : Option Nat := match P.underlying t with | some (.slice e) => some e | _ => none
def arrT (P : Program) (t : Nat) : Option (Nat × Nat) := match P.underlying t with | some (.array n e) => some (n, e) | _ => none
def bytesT (P : Program) (t : Nat) : Nat := match P.info? t with | some i => i.bytes | none => 0
def intT (P : Program) (t : Nat) : Option IntKind := match P.underlying t with | some (.int k) => some k | _ => none
def floatT (P : Program) (t : Nat) : Option FloatKind := match P.underlying t with | some (.float k) => some k | _ => none
def boolT (P : Program) (t : Nat) : Bool := match P.underlying t with | some .bool => true | _ => false
def stringT (P : Program) (t : Nat) : Bool := match P.underlying t with | some .string => true | _ => false
def ptrT (P : Program) (t : Nat) : Bool := match P.underlying t with | some (.pointer _) => true | _ => false
def mapT (P : Program) (t : Nat) : Option (Nat × Nat) := match P.underlying t with | some (.map k e) => some (k, e) | _ => none
def sliceT (P : Program) (t : Nat) : Bool := match P.underlying t with | some (.slice _) => true | _ => false
def knownT (P : Program) (t : Nat) : Bool := (P.underlying t).isSome

def structT (P : Program) (t : Nat) : Bool := match P.underlying t with | some (.struct _) => true | _ => false

/-- The places of a struct's fields. -/
def placesT (P : Program) (t : Nat) : Option (List (Nat × Nat)) := match P.underlying t with
  | some (.struct fs) => fs.toList.mapM (fun f => (P.info? f.type).map fun i => (f.offset, i.size))
  | _ => none

/-- The place of a part of a struct or an array. -/
def partT (P : Program) (t i : Nat) : Option (Nat × Nat) := match P.underlying t with
  | some (.struct fs) => match fs[i]? with | some x => some (x.offset, sizeT P x.type) | none => none
  | some (.array _ e) => some (i * sizeT P e, sizeT P e)
  | _ => none

def buildT (P : Program) (t : Nat) : Bool := match P.underlying t with
  | some (.struct _) => (placesT P t).isSome
  | some (.array _ e) => knownT P e
  | _ => false

def kindsFs (P : Program) (k : Nat → Option (List Nat)) : List Field → Nat → Nat → Option (List Nat)
  | [], off, n => if off = n then some [] else none
  | f :: fs, off, n =>
    if f.name = "_" ∨ f.offset ≠ off then none else
    match k f.type, kindsFs P k fs (off + sizeT P f.type) n with
    | some a, some b => some (a ++ b)
    | _, _ => none

/-- The kinds of a type's cells, where they are plain values that are compared one by one: 0 whole numbers, 1 bools, 2 strings. -/
def kindsT (P : Program) : Nat → Nat → Option (List Nat)
  | 0, _ => none
  | d + 1, t =>
    match P.underlying t with
    | some (.int _) => if sizeT P t = 1 then some [0] else none
    | some .bool => if sizeT P t = 1 then some [1] else none
    | some .string => if sizeT P t = 1 then some [2] else none
    | some (.struct fs) => if P.stoodInHeld t = true then none else kindsFs P (kindsT P d) fs.toList 0 (sizeT P t)
    | _ => none

/-- Comparing values one by one. -/
def eq1 (k : Nat) (x y : AV) (K : Bool → Prop) : Prop :=
  match k, x, y with
  | 0, .r (.v (.int k a)), .r (.v (.int k' b)) => k = k' ∧ K (decide (a = b))
  | 1, .r (.v (.bool a)), .r (.v (.bool b)) => K (a == b)
  | 2, .r (.v (.string a)), .r (.v (.string b)) => K (a.toList == b.toList)
  | _, _, _ => False

def eqCells : List Nat → List AV → List AV → (Bool → Prop) → Prop
  | [], [], [], K => K true
  | k :: ks, x :: xs, y :: ys, K => eq1 k x y fun c => eqCells ks xs ys (fun t => K (c && t))
  | _, _, _, _ => False

/-- A float's operation: a number, or none. -/
def floatRes (op : BinOp) (x y : Nat) : Option Nat :=
  match op with
  | .add => FloatKind.f64.format.add x y
  | .sub => FloatKind.f64.format.sub x y
  | .mul => FloatKind.f64.format.mul x y
  | .quo => FloatKind.f64.format.div x y
  | _ => none

def floatAV (op : BinOp) (x y : Nat) : AV := match floatRes op x y with | some r => Fv r | none => .r .nan

def floatOrd (op : BinOp) (c : Option Ordering) (K : AV → Prop) : Prop :=
  match op with
  | .eql => K (Bv (c == some .eq))
  | .neq => K (Bv (c != some .eq))
  | .lss => K (Bv (c == some .lt))
  | .leq => K (Bv (c == some .lt || c == some .eq))
  | .gtr => K (Bv (c == some .gt))
  | .geq => K (Bv (c == some .gt || c == some .eq))
  | _ => False

def binI (op : BinOp) (k : IntKind) (a b : Int) (K : AV → Prop) : Prop :=
  match op with
  | .add => K (.r (.v (.int k (k.wrap (a + b)))))
  | .sub => K (.r (.v (.int k (k.wrap (a - b)))))
  | .mul => K (.r (.v (.int k (k.wrap (a * b)))))
  | .quo => b ≠ 0 ∧ K (.r (.v (.int k (k.wrap (a.tdiv b)))))
  | .rem => b ≠ 0 ∧ K (.r (.v (.int k (a.tmod b))))
  | .eql => K (Bv (decide (a = b)))
  | .neq => K (Bv (!decide (a = b)))
  | .lss => K (Bv (decide (a < b)))
  | .leq => K (Bv (decide (a ≤ b)))
  | .gtr => K (Bv (decide (b < a)))
  | .geq => K (Bv (decide (b ≤ a)))
  | _ => False

def binS (op : BinOp) (a b : ByteArray) (K : AV → Prop) : Prop :=
  match op with
  | .add => ((a.size + b.size : Nat) : Int) ≤ IntKind.i64.max ∧ K (Sv (a ++ b))
  | .eql => K (Bv (a.toList == b.toList))
  | .neq => K (Bv (!(a.toList == b.toList)))
  | .lss => K (Bv (Op.bytesLess a.toList b.toList))
  | .leq => K (Bv (Op.bytesLess a.toList b.toList || a.toList == b.toList))
  | .gtr => K (Bv (!(Op.bytesLess a.toList b.toList || a.toList == b.toList)))
  | .geq => K (Bv (!Op.bytesLess a.toList b.toList))
  | _ => False

/-- Equal or not, as the operation asks. -/
def eqOr (op : BinOp) (K : AV → Prop) (b : Bool) : Prop :=
  match op with
  | .eql => K (Bv b)
  | .neq => K (Bv (!b))
  | _ => False

def binAV (P : Program) (op : BinOp) (t : Nat) (x y : AV) (K : AV → Prop) : Prop :=
  match x, y with
  | .r (.v (.int k a)), .r (.v (.int k' b)) => k = k' ∧ binI op k a b K
  | .r (.v (.bool a)), .r (.v (.bool b)) => boolT P t = true ∧ eqOr op K (a == b)
  | .r (.v (.string a)), .r (.v (.string b)) => binS op a b K
  | .r (.v (.float .f64 a)), .r (.v (.float .f64 b)) =>
    match op with
    | .add | .sub | .mul | .quo => K (floatAV op a b)
    | _ => floatOrd op (FloatKind.f64.format.order a b) K
  | .r .nan, .r (.v (.float .f64 _)) | .r (.v (.float .f64 _)), .r .nan | .r .nan, .r .nan => floatOrd op none K
  | .agg xs, .agg ys => structT P t = true ∧ P.eqGuardType P.depth t = false ∧ match kindsT P 8 t with
    | some ks => eqCells ks xs ys (eqOr op K)
    | none => False
  | .r (.rs _ rows), .r (.v (.slice none 0 0)) => sliceT P t = true ∧ rows ≠ [] ∧ eqOr op K false
  | .r (.v (.slice none 0 0)), .r (.v (.slice none 0 0)) => sliceT P t = true ∧ eqOr op K true
  | .r (.rp _), .r (.v (.pointer none)) => ptrT P t = true ∧ eqOr op K false
  | .r (.v (.pointer none)), .r (.v (.pointer none)) => ptrT P t = true ∧ eqOr op K true
  | _, _ => False

def unAV (op : UnOp) (x : AV) (K : AV → Prop) : Prop :=
  match op, x with
  | .not, .r (.v (.bool b)) => K (Bv (!b))
  | .neg, .r (.v (.int k n)) => K (.r (.v (.int k (k.wrap (0 - n)))))
  | .neg, .r (.v (.float k b)) => K (.r (.v (.float k (Op.negFloat k b))))
  | _, _ => False

def convAV (P : Program) (src dst : Nat) (x : AV) (K : AV → Prop) : Prop :=
  match x with
  | .r (.v (.int _ n)) =>
    match intT P dst with
    | some k => knownT P src = true ∧ K (.r (.v (.int k (k.wrap n))))
    | none => match floatT P dst with
      | some k => knownT P src = true ∧ K (.r (.v (.float k (k.nearest n))))
      | none => False
  | .r (.v (.string s)) => stringT P dst = true ∧ knownT P src = true ∧ K (Sv s)
  | _ => False

def pickAV (b : Bool) (x y : AV) : AV :=
  match x, y with
  | .r (.v (.bool p)), .r (.v (.bool q)) => .r (.v (.bool (bif b then p else q)))
  | _, _ => bif b then x else y

end Go.Proofs.YtjbhpoolghfhiaaDoor
namespace Go.Proofs.YtjbhpoolghfhiaaDoor
set_option linter.unusedVariables false
set_option linter.unusedSimpArgs false
set_option maxHeartbeats 10000000
open Go

/-- The slots that operands name. -/
def rd : List Operand → List Loc
  | [] => []
  | .tmp d :: l => .T d :: rd l
  | _ :: l => rd l

def avCells : AV → List AV
  | .agg cs => cs
  | x => [x]

/-- May it stand in a cell? -/
def okCell : AV → Bool
  | .r (.v x) => x.oneCell'
  | .r _ => true
  | .os _ _ | .rf _ _ _ | .re _ _ _ _ _ => true
  | _ => false

def okCells : List AV → Bool
  | [] => true
  | x :: l => okCell x && okCells l

/-- Cells written over from a place on. -/
def splice : List AV → Nat → List AV → List AV
  | cs, _, [] => cs
  | [], _, _ => []
  | _ :: cs, 0, v :: vs => v :: splice cs 0 vs
  | c :: cs, n + 1, vs => c :: splice cs n vs

def loadK (P : Program) (t : Nat) (cs : List AV) (K : AV → Prop) : Prop :=
  knownT P t = true ∧ match aggT P t with
  | true => sizeT P t ≤ cs.length ∧ K (.agg (cs.take (sizeT P t)))
  | false => match cs with
    | x :: _ => K x
    | [] => False

def zeroCellsT (P : Program) (t : Nat) (K : List AV → Prop) : Prop :=
  match zeroT P t with
  | some z => K (z.cells.toList.map fun v => .r (.v v))
  | none => False

/-- A struct's parts put in their places. -/
def fillK (P : Program) (t : Nat) : List (Nat × AV) → List AV → (List AV → Prop) → Prop
  | [], cs, K => K cs
  | (i, x) :: l, cs, K =>
    match partT P t i with
    | some (off, n) => okCells (avCells x) = true ∧ (avCells x).length = n ∧ off + n ≤ cs.length ∧ fillK P t l (splice cs off (avCells x)) K
    | none => False

/-- The rows of a slice that is written out. -/
def rowsK (sz : Nat) : List AV → (List (List AV) → Prop) → Prop
  | [], K => K []
  | x :: l, K => okCells (avCells x) = true ∧ (avCells x).length = sz ∧ rowsK sz l (fun r => K (avCells x :: r))

/-- The rows that a source of an append has. -/
def srcK (st : St) (x : AV) (sz : Nat) (K : List Loc → List (List AV) → Prop) : Prop :=
  match x with
  | .r (.rs sz' rows) => sz' = sz ∧ K [] (rows.map fun r => r.map .r)
  | .r (.v (.slice none 0 0)) => K [] []
  | .os k ver => match lookR k st.rs with
    | (cv, .sl _ sz' rows) => ver = cv ∧ sz' = sz ∧ K [.R k] rows
    | _ => False
  | _ => False

def okRows : List (List AV) → Bool
  | [] => true
  | r :: l => okCells r && okRows l

theorem okCells_mem : ∀ {l : List AV}, okCells l = true → ∀ c ∈ l, okCell c = true
  | x :: l, h, c, hc => by
    simp only [okCells, Bool.and_eq_true] at h
    rcases List.mem_cons.1 hc with rfl | hc
    · exact h.1
    · exact okCells_mem h.2 c hc
theorem okRows_mem : ∀ {l : List (List AV)}, okRows l = true → ∀ row ∈ l, ∀ c ∈ row, okCell c = true
  | r :: l, h, row, hr => by
    simp only [okRows, Bool.and_eq_true] at h
    rcases List.mem_cons.1 hr with rfl | hr
    · exact okCells_mem h.1
    · exact okRows_mem h.2 row hr

def appendK (P : Program) (d t : Nat) (st : St) (s x : AV) (rds : List Loc) (K : List Loc → List (Loc × Cont) → Prop) : Prop :=
  match elemT P t with
  | none => False
  | some e => knownT P e = true ∧ 0 < sizeT P e ∧ zeroCellsT P e fun z => z.length = sizeT P e ∧ srcK st x (sizeT P e) fun rx news =>
    okRows news = true ∧ match s with
    | .os k ver => match lookR k st.rs with
      | (cv, .sl e' sz rows) => ver = cv ∧ e' = e ∧ sz = sizeT P e ∧ rows.length + news.length ≤ 9223372036854775807 ∧ (rows.length + news.length) * bytesT P e ≤ 140737488355328 ∧
        K (.R k :: (rx ++ rds)) [(.R k, .s (cv + 1) (.sl e sz (rows ++ news))), (.T d, .a (.os k (cv + 1)))]
      | _ => False
    | .r (.v (.slice none 0 0)) => news.length ≤ 9223372036854775807 ∧ news.length * bytesT P e ≤ 140737488355328 ∧
        K (.R d :: (rx ++ rds)) [(.R d, .s (st.cur d + 1) (.sl e (sizeT P e) news)), (.T d, .a (.os d (st.cur d + 1)))]
    | _ => False

def lenAV (st : St) (P : Program) (t : Nat) (x : AV) (K : List Loc → AV → Prop) : Prop :=
  match x with
  | .r (.rs _ rows) => sliceT P t = true ∧ K [] (Iv rows.length)
  | .r (.v (.slice none 0 0)) => sliceT P t = true ∧ K [] (Iv 0)
  | .r (.ln n) => sliceT P t = true ∧ K [] (Iv n)
  | .r (.v (.string s)) => stringT P t = true ∧ K [] (Iv s.size)
  | .os k ver => match lookR k st.rs with
    | (cv, .sl _ _ rows) => ver = cv ∧ sliceT P t = true ∧ K [.R k] (Iv rows.length)
    | _ => False
  | _ => False

/-- An index of a slice or of an array behind a pointer. -/
def indexAddrK (P : Program) (st : St) (t : Nat) (x : AV) (i : Int) (K : List Loc → AV → Prop) : Prop :=
  match x with
  | .r (.rs sz rows) => match elemT P t with
    | some e => sizeT P e = sz ∧ knownT P e = true ∧ 0 ≤ i ∧ i < rows.length ∧ K [] (.r (.rp (rows.getD i.toNat [])))
    | none => False
  | .os k ver => match lookR k st.rs, elemT P t with
    | (cv, .sl _ sz rows), some e => ver = cv ∧ sizeT P e = sz ∧ knownT P e = true ∧ 0 ≤ i ∧ i < rows.length ∧ K [.R k] (.re k ver sz i.toNat 0)
    | _, _ => False
  | .r (.rp row) => match arrT P t with
    | some (n, e) => 0 ≤ i ∧ i < n ∧ knownT P e = true ∧ i.toNat * sizeT P e < row.length ∧ K [] (.r (.rp (row.drop (i.toNat * sizeT P e))))
    | none => False
  | _ => False

def fieldAddrK (P : Program) (st : St) (s f : Nat) (x : AV) (K : List Loc → AV → Prop) : Prop :=
  match fieldT P s f with
  | none => False
  | some (off, n) => n ≠ 0 ∧ match x with
    | .r (.rp row) => off < row.length ∧ K [] (.r (.rp (row.drop off)))
    | .os k ver => match lookR k st.rs with
      | (cv, .bx _) => ver = cv ∧ K [.R k] (.rf k ver off)
      | _ => False
    | .rf k ver o => ver = st.cur k ∧ K [.R k] (.rf k ver (o + off))
    | .re k ver sz i o => ver = st.cur k ∧ K [.R k] (.re k ver sz i (o + off))
    | _ => False

/-- What stands behind a pointer. -/
def derefK (P : Program) (st : St) (t : Nat) (x : AV) (K : List Loc → AV → Prop) : Prop :=
  match x with
  | .r (.rp row) => loadK P t (row.map .r) (K [])
  | .os k ver => match lookR k st.rs with
    | (cv, .bx cells) => ver = cv ∧ loadK P t cells (K [.R k])
    | _ => False
  | .rf k ver off => match lookR k st.rs with
    | (cv, .bx cells) => ver = cv ∧ loadK P t (cells.drop off) (K [.R k])
    | _ => False
  | .re k ver sz i off => match lookR k st.rs with
    | (cv, .sl _ sz' rows) => ver = cv ∧ sz' = sz ∧ i < rows.length ∧ loadK P t ((rows.getD i []).drop off) (K [.R k])
    | _ => False
  | _ => False

/-- A store. -/
def storeK (P : Program) (st : St) (t : Nat) (x v : AV) (K : List Loc → List (Loc × Cont) → Prop) : Prop :=
  okCells (avCells v) = true ∧ (avCells v).length = sizeT P t ∧ knownT P t = true ∧
  match x with
  | .os k ver => match lookR k st.rs with
    | (cv, .bx cells) => ver = cv ∧ sizeT P t ≤ cells.length ∧ K [.R k] [(.R k, .s cv (.bx (splice cells 0 (avCells v))))]
    | _ => False
  | .rf k ver off => match lookR k st.rs with
    | (cv, .bx cells) => ver = cv ∧ off + sizeT P t ≤ cells.length ∧ K [.R k] [(.R k, .s cv (.bx (splice cells off (avCells v))))]
    | _ => False
  | .re k ver sz i off => match lookR k st.rs with
    | (cv, .sl e sz' rows) => ver = cv ∧ sz' = sz ∧ i < rows.length ∧ off + sizeT P t ≤ sz ∧
        K [.R k] [(.R k, .s cv (.sl e sz (rows.set i (splice (rows.getD i []) off (avCells v)))))]
    | _ => False
  | _ => False

def nilCheckK (st : St) (x : AV) (K : List Loc → AV → Prop) : Prop :=
  match x with
  | .r (.rp row) => K [] (.r (.rp row))
  | .r (.fn f caps) => K [] (.r (.fn f caps))
  | .os k ver => match lookR k st.rs with
    | (cv, .bx _) => ver = cv ∧ K [.R k] (.os k ver)
    | _ => False
  | .rf k ver off => ver = st.cur k ∧ K [.R k] (.rf k ver off)
  | .re k ver sz i off => ver = st.cur k ∧ K [.R k] (.re k ver sz i off)
  | _ => False

/-- A constant bound of a cut. -/
def boundAV (st : St) (x : Option Operand) (dflt : Int) (K : Int → Prop) : Prop :=
  match x with
  | none => K dflt
  | some o => match ev st o with
    | .r (.v (.int _ n)) => K n
    | _ => False

/-- A cut: of a read-only slice anywhere, of an owned one at its end, of a string. -/
def sliceK (P : Program) (st : St) (t : Nat) (x : AV) (lo hi : Option Operand) (K : List Loc → List (Loc × Cont) → AV → Prop) : Prop :=
  match x with
  | .r (.rs sz rows) => match elemT P t with
    | some e => sizeT P e = sz ∧ knownT P e = true ∧ boundAV st lo 0 fun l => boundAV st hi rows.length fun h => 0 ≤ l ∧ l ≤ h ∧ h ≤ rows.length ∧ K [] [] (.r (.rs sz ((rows.take h.toNat).drop l.toNat)))
    | none => False
  | .r (.v (.string s)) => stringT P t = true ∧ boundAV st lo 0 fun l => boundAV st hi s.size fun h => 0 ≤ l ∧ l ≤ h ∧ h ≤ s.size ∧ K [] [] (Sv (s.extract l.toNat h.toNat))
  | .os k ver => match lookR k st.rs, lo, elemT P t with
    | (cv, .sl e sz rows), none, some e' => ver = cv ∧ knownT P e' = true ∧ boundAV st hi rows.length fun h => 0 ≤ h ∧ h ≤ rows.length ∧ K [.R k] [(.R k, .s (cv + 1) (.sl e sz (rows.take h.toNat)))] (.os k (cv + 1))
    | _, _, _ => False
  | _ => False

/-- Operations that give a value and write but their slot. -/
def valK (C : Ctx) (op : Op) (st : St) (K : List Loc → AV → Prop) : Prop :=
  match op with
  | .move x | .assign x => K (rd [x]) (ev st x)
  | .pick c a b => match ev st c with
    | .r (.v (.bool q)) => K (rd [c, a, b]) (pickAV q (ev st a) (ev st b))
    | _ => False
  | .binOp op t x y _ => binAV C.P op t (ev st x) (ev st y) (K (rd [x, y]))
  | .unOp op _ x => unAV op (ev st x) (K (rd [x]))
  | .convert s t x => convAV C.P s t (ev st x) (K (rd [x]))
  | .load t x => derefK C.P st t (ev st x) fun l r => K (l ++ rd [x]) r
  | .fieldAddr s x f => fieldAddrK C.P st s f (ev st x) fun l r => K (l ++ rd [x]) r
  | .indexAddr t x i => match ev st i with
    | .r (.v (.int _ n)) => indexAddrK C.P st t (ev st x) n fun l r => K (l ++ rd [x, i]) r
    | _ => False
  | .index t x i => match ev st x, ev st i with
    | .r (.v (.string s)), .r (.v (.int _ n)) => stringT C.P t = true ∧ 0 ≤ n ∧ n < s.size ∧ K (rd [x, i]) (.r (.v (.int .u8 (s.data.toList.getD n.toNat 0).toNat)))
    | .agg cs, .r (.v (.int _ n)) => match arrT C.P t with
      | some (len, e) => 0 ≤ n ∧ n < len ∧ knownT C.P e = true ∧ loadK C.P e (cs.drop (n.toNat * sizeT C.P e)) (K (rd [x, i]))
      | none => False
    | _, _ => False
  | .extract t i => match ev st t with
    | .tup xs => match xs[i]? with
      | some x => K (rd [t]) x
      | none => False
    | _ => False
  | .nilCheck x => nilCheckK st (ev st x) fun l r => K (l ++ rd [x]) r
  | .build t parts => buildT C.P t = true ∧ zeroCellsT C.P t fun z => fillK C.P t (parts.toList.map fun p => (p.1, ev st p.2)) z fun cs => K (rd (parts.toList.map (·.2))) (.agg cs)
  | .call c => match c.callee, c.args.toList, c.argTypes.toList with
    | .builtin .len, [x], [t] => lenAV st C.P t (ev st x) fun l r => K (l ++ rd [x]) r
    | .builtin .min, [x, y], _ => match ev st x, ev st y with
      | .r (.v (.int k a)), .r (.v (.int k' b)) => k = k' ∧ K (rd [x, y]) (.r (.v (.int k (if b < a then b else a))))
      | _, _ => False
    | .builtin .max, [x, y], _ => match ev st x, ev st y with
      | .r (.v (.int k a)), .r (.v (.int k' b)) => k = k' ∧ K (rd [x, y]) (.r (.v (.int k (if b > a then b else a))))
      | _, _ => False
    | _, _, _ => False
  | _ => False

/-- Read-only values out of slots. -/
def roK : List AV → (List RV → Prop) → Prop
  | [], K => K []
  | .r x :: l, K => roK l (fun r => K (x :: r))
  | _, _ => False

def noBound (st : St) (m : Option Operand) : Prop := match m with | none => True | some _ => st.n = st.n + 1

/-- A key that a map's look-up knows: a whole number, a string, a struct of such. -/
def keyAV (P : Program) (t : Nat) (x : AV) (K : Value → Prop) : Prop :=
  match x with
  | .r (.v (.int k n)) => intT P t = some k ∧ K (.int k n)
  | .r (.v (.string s)) => stringT P t = true ∧ K (.string s)
  | _ => False

/-- An operation: what it reads, what it writes. -/
def opK (C : Ctx) (o : Oper) (st : St) (K : List Loc → List (Loc × Cont) → Prop) : Prop :=
  match o.dst with
  | none => match o.op with
    | .store t x v => storeK C.P st t (ev st x) (ev st v) fun l outs => K (l ++ rd [x, v]) outs
    | _ => False
  | some d => d < st.n ∧ match o.op with
    | .alloc t => knownT C.P t = true ∧ zeroCellsT C.P t fun z => okCells z = true ∧ K [.R d] [(.R d, .s (st.cur d + 1) (.bx z)), (.T d, .a (.os d (st.cur d + 1)))]
    | .box _ x => okCells (avCells (ev st x)) = true ∧ K (.R d :: rd [x]) [(.R d, .s (st.cur d + 1) (.bx (avCells (ev st x)))), (.T d, .a (.os d (st.cur d + 1)))]
    | .buildSlice t len parts => match elemT C.P t with
      | some e => knownT C.P e = true ∧ 0 < sizeT C.P e ∧ (zeroT C.P e).isSome = true ∧ len * sizeT C.P e ≤ 16777216 ∧ parts.toList.map (·.1) = List.range len ∧ rowsK (sizeT C.P e) (parts.toList.map fun p => ev st p.2) fun rows =>
          K (.R d :: rd (parts.toList.map (·.2))) [(.R d, .s (st.cur d + 1) (.sl e (sizeT C.P e) rows)), (.T d, .a (.os d (st.cur d + 1)))]
      | none => False
    | .slice t x lo hi none => sliceK C.P st t (ev st x) lo hi fun l outs r => K (l ++ rd (x :: (lo.toList ++ hi.toList))) (outs ++ [(.T d, .a r)])
    | .makeSlice t l c => match elemT C.P t, ev st l, ev st c with
      | some e, .r (.v (.int .i64 n)), .r (.v (.int .i64 m)) => knownT C.P e = true ∧ 0 < sizeT C.P e ∧ 0 ≤ n ∧ n ≤ m ∧ m ≤ 9223372036854775807 ∧ bytesT C.P e * m ≤ 281474976710656 ∧ zeroCellsT C.P e fun z => z.length = sizeT C.P e ∧ okCells z = true ∧
          K (.R d :: rd [l, c]) [(.R d, .s (st.cur d + 1) (.sl e (sizeT C.P e) (List.replicate n.toNat z))), (.T d, .a (.os d (st.cur d + 1)))]
      | _, _, _ => False
    | .makeFunc (.func f) first captured => first.toList = [] ∧ roK (captured.toList.map (ev st)) fun caps => K (rd captured.toList) [(.T d, .a (.r (.fn f caps)))]
    | .makeMap _ none => K [.R d] [(.R d, .s (st.cur d + 1) (.mp (fun _ => none) 0)), (.T d, .a (.os d (st.cur d + 1)))]
    | .call c => match c.callee, c.args.toList, c.argTypes.toList with
      | .builtin .append, [s, x], [t, t'] => t = t' ∧ appendK C.P d t st (ev st s) (ev st x) (rd [s, x]) K
      | _, _, _ => valK C o.op st fun l x => K l [(.T d, .a x)]
    | _ => valK C o.op st fun l x => K l [(.T d, .a x)]

end Go.Proofs.YtjbhpoolghfhiaaDoor
namespace Go.Proofs.YtjbhpoolghfhiaaDoor
set_option linter.unusedVariables false
set_option linter.unusedSimpArgs false
set_option maxHeartbeats 10000000
open Go

section
variable {P : Program}

theorem known_info {t : Nat} (h : knownT P t = true) : ∃ d i, P.underlying t = some d ∧ P.info? t = some i := by
  unfold knownT at h
  cases hu : P.underlying t with
  | none => simp [hu] at h
  | some d =>
    refine ⟨d, ?_⟩
    cases hi : P.info? t with
    | none => simp [Program.underlying, hi] at hu
    | some i => exact ⟨i, rfl, rfl⟩

theorem underlying_info {t : Nat} {d : TypeDesc} (h : P.underlying t = some d) : ∃ i, P.info? t = some i :=
  let ⟨_, i, _, hi⟩ := known_info (P := P) (t := t) (by simp [knownT, h]); ⟨i, hi⟩

theorem run_sizeOf' {t : Nat} (h : knownT P t = true) (w : World) : (sizeOf t).run P w = .ok (sizeT P t) w := by
  obtain ⟨d, i, hu, hi⟩ := known_info h
  simp [sizeOf, typeInfo, hi, sizeT]

theorem run_isAgg' {t : Nat} (h : knownT P t = true) (w : World) : (isAgg t).run P w = .ok (aggT P t) w := by
  obtain ⟨d, i, hu, hi⟩ := known_info h
  simp only [isAgg, Sem.run_bind, run_underlying hu, Result.andThen_ok, aggT, hu]
  cases d <;> rfl

theorem elem_of {t e : Nat} (h : elemT P t = some e) : P.underlying t = some (.slice e) := by
  unfold elemT at h
  split at h <;> simp_all

theorem arr_of {t n e : Nat} (h : arrT P t = some (n, e)) : P.underlying t = some (.array n e) := by
  unfold arrT at h
  split at h <;> simp_all

theorem map_of {t k e : Nat} (h : mapT P t = some (k, e)) : P.underlying t = some (.map k e) := by
  unfold mapT at h
  split at h <;> simp_all

theorem sliceT_of {t : Nat} (h : sliceT P t = true) : ∃ e, P.underlying t = some (.slice e) := by
  unfold sliceT at h
  split at h
  · rename_i e he; exact ⟨e, he⟩
  · cases h

theorem stringT_of {t : Nat} (h : stringT P t = true) : P.underlying t = some .string := by
  unfold stringT at h
  split at h
  · assumption
  · cases h

theorem boolT_of {t : Nat} (h : boolT P t = true) : P.underlying t = some .bool := by
  unfold boolT at h
  split at h
  · assumption
  · cases h

theorem ptrT_of {t : Nat} (h : ptrT P t = true) : ∃ e, P.underlying t = some (.pointer e) := by
  unfold ptrT at h
  split at h
  · rename_i e he; exact ⟨e, he⟩
  · cases h

theorem intT_of {t : Nat} {k : IntKind} (h : intT P t = some k) : P.underlying t = some (.int k) := by
  unfold intT at h
  split at h <;> simp_all

theorem floatT_of {t : Nat} {k : FloatKind} (h : floatT P t = some k) : P.underlying t = some (.float k) := by
  unfold floatT at h
  split at h <;> simp_all

theorem structT_of {t : Nat} (h : structT P t = true) : ∃ fs, P.underlying t = some (.struct fs) := by
  unfold structT at h
  split at h
  · rename_i fs he; exact ⟨fs, he⟩
  · cases h

theorem field_of {s f off n : Nat} (h : fieldT P s f = some (off, n)) : ∃ fs x, P.underlying s = some (.struct fs) ∧ fs[f]? = some x ∧ x.offset = off ∧ sizeT P x.type = n := by
  unfold fieldT at h
  split at h
  · rename_i fs hu
    split at h
    · rename_i x hx
      simp only [Option.some.injEq, Prod.mk.injEq] at h
      exact ⟨fs, x, hu, hx, h.1, h.2⟩
    · cases h
  · cases h

theorem known_of_size {t n : Nat} (h : sizeT P t = n) (hn : n ≠ 0) : ∃ i, P.info? t = some i ∧ i.size = n := by
  unfold sizeT at h
  split at h
  · rename_i i hi; exact ⟨i, hi, h⟩
  · omega

end

/-- The cells behind a pointer. -/
def Held (cur : Nat → Nat) (g : Gh) (w : World) (N : Nat → Prop) (v : Value) (cs : List AV) : Prop :=
  ∃ (a : Addr) (c : Nat → Value), v = .pointer (some a) ∧ (cs ≠ [] → a.spot = none) ∧ ∀ j x, cs[j]? = some x → w.cell? ⟨a.block, a.off + j, none⟩ = some (c j) ∧ AR cur g w N x (c j)

/-- What a load of some cells gives. -/
def LoadR (P : Program) (t : Nat) (cs : List AV) (r : AV) : Prop :=
  knownT P t = true ∧ ((aggT P t = true ∧ sizeT P t ≤ cs.length ∧ r = .agg (cs.take (sizeT P t))) ∨ (aggT P t = false ∧ ∃ rest, cs = r :: rest))

theorem loadK_ok {P : Program} {t : Nat} {cs : List AV} {K : AV → Prop} (h : loadK P t cs K) : ∃ r, K r ∧ LoadR P t cs r := by
  unfold loadK at h
  obtain ⟨hk, h⟩ := h
  cases ha : aggT P t with
  | true => simp only [ha] at h; exact ⟨_, h.2, hk, .inl ⟨ha, h.1, rfl⟩⟩
  | false =>
    simp only [ha] at h
    cases cs with
    | nil => exact h.elim
    | cons x l => exact ⟨x, h, hk, .inr ⟨ha, l, rfl⟩⟩

theorem addr_add (b o n : Nat) : (⟨b, o, none⟩ : Addr).add n = ⟨b, o + n, none⟩ := Addr.add_lit b o n

theorem addr_eta {a : Addr} (h : a.spot = none) : a = ⟨a.block, a.off, none⟩ := by cases a; simp_all

theorem run_load_of {P : Program} {t : Nat} {cs : List AV} {r : AV} {cur : Nat → Nat} {g : Gh} {w : World} {N : Nat → Prop} {v : Value}
    (hl : LoadR P t cs r) (hv : Held cur g w N v cs) : ∃ u, (Instr.loadAt t v).run P w = .ok u w ∧ AR cur g w N r u := by
  obtain ⟨a, c, rfl, hsp, hc⟩ := hv
  obtain ⟨hk, hl⟩ := hl
  simp only [Instr.loadAt, Instr.sureAddr, loadVar, Sem.run_bind, Sem.run_pure, Result.andThen_ok, run_isAgg' hk]
  rcases hl with ⟨ha, hn, rfl⟩ | ⟨ha, rest, rfl⟩
  · simp only [ha, if_true, Sem.run_bind, run_sizeOf' hk, Result.andThen_ok]
    by_cases h0 : sizeT P t = 0
    · refine ⟨.agg #[], ?_, ?_⟩
      · simp [h0, loadCells, loadCellsFrom]
      · rw [h0]; exact .agg _ _ (by simp) (by simp)
    · have hne : cs ≠ [] := by intro e; simp [e] at hn; omega
      rw [addr_eta (hsp hne)]
      rw [run_loadCells (P := P) w ⟨a.block, a.off, none⟩ (sizeT P t) c (fun j hj => by
        rw [addr_add]; exact (hc j cs[j] (List.getElem?_eq_getElem (by omega))).1)]
      refine ⟨_, rfl, .agg _ _ (by simp; omega) (fun j x y hx hy => ?_)⟩
      have hj : j < sizeT P t := by
        rcases Nat.lt_or_ge j (sizeT P t) with h | h
        · exact h
        · rw [List.getElem?_eq_none (by simp; omega)] at hx; cases hx
      rw [List.getElem?_take_of_lt hj] at hx
      have : y = c j := by simpa [hj] using hy.symm
      rw [this]; exact (hc j x hx).2
  · simp only [ha]
    have h0 := hc 0 r (by simp)
    rw [addr_eta (hsp (by simp))]
    simp only [Nat.add_zero] at h0
    exact ⟨c 0, by simp [h0.1], h0.2⟩

theorem RR_one {w : World} {N : Nat → Prop} {x : RV} {v : Value} (h : RR w N x v) (hx : okCell (.r x) = true) : v.oneCell' = true := by
  cases h <;> first | rfl | exact hx

theorem AR_one {cur : Nat → Nat} {g : Gh} {w : World} {N : Nat → Prop} {x : AV} {v : Value} (h : AR cur g w N x v) (hx : okCell x = true) : v.oneCell' = true := by
  cases h with
  | r h => exact RR_one h hx
  | os _ _ _ h1 _ => exact h1
  | rf _ _ _ _ h1 _ => exact h1
  | re _ _ _ _ _ _ h1 _ => exact h1
  | agg _ _ _ _ => simp [okCell] at hx
  | tup _ _ _ _ => simp [okCell] at hx
  | any _ => simp [okCell] at hx

/-- A value's cells, told one by one. -/
theorem AR_cells {cur : Nat → Nat} {g : Gh} {w : World} {N : Nat → Prop} {x : AV} {v : Value} (h : AR cur g w N x v) (hx : okCells (avCells x) = true) :
    v.cells.size = (avCells x).length ∧ (∀ (j : Nat) (y : AV) (u : Value), (avCells x)[j]? = some y → v.cells[j]? = some u → AR cur g w N y u) ∧ ∀ u ∈ v.cells.toList, u.oneCell' = true := by
  have one : ∀ (x : AV) (v : Value), AR cur g w N x v → okCell x = true → avCells x = [x] → v.cells.size = (avCells x).length ∧ (∀ (j : Nat) (y : AV) (u : Value), (avCells x)[j]? = some y → v.cells[j]? = some u → AR cur g w N y u) ∧ ∀ u ∈ v.cells.toList, u.oneCell' = true := by
    intro x v h hx e
    have h1 := AR_one h hx
    have h2 : v.cells = #[v] := by cases v <;> first | rfl | simp [Value.oneCell'] at h1
    rw [e, h2]
    refine ⟨rfl, fun j y u hy hu => ?_, by simpa using h1⟩
    cases j with
    | zero => simp at hy hu; subst hy; subst hu; exact h
    | succ j => simp at hy
  cases h with
  | agg cs xs hs hh =>
    refine ⟨hs, hh, fun u hu => ?_⟩
    obtain ⟨j, hj, rfl⟩ := List.getElem_of_mem hu
    have hj' : j < cs.length := by simpa [Value.cells, hs] using hj
    have h1 := hh j cs[j] xs[j]! (List.getElem?_eq_getElem hj') (by simp [Value.cells] at hj; simp [hj])
    have h2 : okCell cs[j] = true := by
      have : ∀ (l : List AV), okCells l = true → ∀ j (hj : j < l.length), okCell l[j] = true := by
        intro l; induction l with
        | nil => intro _ j hj; simp at hj
        | cons y l ih =>
          intro h j hj
          simp only [okCells, Bool.and_eq_true] at h
          cases j with
          | zero => exact h.1
          | succ j => exact ih h.2 j (by simpa using hj)
      exact this cs hx j hj'
    have h3 := AR_one h1 h2
    simp [Value.cells] at hj
    simpa [Value.cells, hj] using h3
  | tup cs xs hs hh => simp [avCells, okCells, okCell] at hx
  | any v => simp [avCells, okCells, okCell] at hx
  | r h => exact one _ _ (.r h) (by simpa [avCells, okCells] using hx) rfl
  | os k ver v h1 h => exact one _ _ (.os k ver v h1 h) rfl rfl
  | rf k ver off v h1 h => exact one _ _ (.rf k ver off v h1 h) rfl rfl
  | re k ver sz i off v h1 h => exact one _ _ (.re k ver sz i off v h1 h) rfl rfl

end Go.Proofs.YtjbhpoolghfhiaaDoor
