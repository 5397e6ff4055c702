/- The abstract values, states and relations by which the walks of this claim are told. No condition: definitions and plain lemmas. -/
import Derived.Below
import Derived.Orders
import Derived.Laws.AppendOwn
import Derived.Laws.StructEq
import Derived.KernelRfl
namespace Go.Proofs.YtjbhpoolghfhiaaDoor
set_option linter.unusedVariables false
set_option linter.unusedSimpArgs false
set_option maxHeartbeats 10000000
open Go

/-- A read-only value: a value as it is; a pointer to cells; a slice of rows of cells; a function value; a float that is no number. -/
inductive RV where
  | v (x : Value)
  | rp (row : List RV)
  | rs (sz : Nat) (rows : List (List RV))
  | fn (f : Nat) (caps : List RV)
  | nan
  | ln (n : Nat)

/-- What stands in a slot: a read-only value; the handle of a resource; a pointer into a box; a pointer into a slice's element; values of several cells; several results; whatever. -/
inductive AV where
  | r (x : RV)
  | os (k ver : Nat)
  | rf (k ver off : Nat)
  | re (k ver sz i off : Nat)
  | agg (cs : List AV)
  | tup (xs : List AV)
  | any

/-- What is owned: nothing; a box of cells; a slice; a map. -/
inductive Res where
  | gone
  | bx (cells : List AV)
  | sl (e sz : Nat) (rows : List (List AV))
  | mp (f : Value → Option Value) (n : Nat)

inductive Loc where
  | T (d : Nat)
  | R (k : Nat)
  deriving DecidableEq

inductive Cont where
  | a (x : AV)
  | s (ver : Nat) (x : Res)

/-- A state: how many slots the frame has; slots; resources. -/
structure St where
  n : Nat
  t : List (Nat × AV)
  rs : List (Nat × Nat × Res)

def lookT (d : Nat) : List (Nat × AV) → AV
  | [] => .any
  | (k, x) :: l => if d = k then x else lookT d l

def lookR (d : Nat) : List (Nat × Nat × Res) → Nat × Res
  | [] => (0, .gone)
  | (k, x) :: l => if d = k then x else lookR d l

def putT (d : Nat) (x : AV) : List (Nat × AV) → List (Nat × AV)
  | [] => [(d, x)]
  | (k, y) :: l => if d = k then (k, x) :: l else (k, y) :: putT d x l

def putR (d : Nat) (x : Nat × Res) : List (Nat × Nat × Res) → List (Nat × Nat × Res)
  | [] => [(d, x)]
  | (k, y) :: l => if d = k then (k, x) :: l else (k, y) :: putR d x l

theorem lookT_put (d e : Nat) (x : AV) (l : List (Nat × AV)) : lookT d (putT e x l) = if d = e then x else lookT d l := by
  induction l with
  | nil => simp [putT, lookT]
  | cons p l ih =>
    obtain ⟨k, y⟩ := p
    simp only [putT]
    by_cases h : e = k
    · subst h; simp only [if_true, lookT]; by_cases h2 : d = e <;> simp [h2]
    · simp only [h, if_false, lookT, ih]
      by_cases h2 : d = k
      · subst h2; simp only [if_true]; rw [if_neg (by omega)]
      · simp [h2]

theorem lookR_put (d e : Nat) (x : Nat × Res) (l : List (Nat × Nat × Res)) : lookR d (putR e x l) = if d = e then x else lookR d l := by
  induction l with
  | nil => simp [putR, lookR]
  | cons p l ih =>
    obtain ⟨k, y⟩ := p
    simp only [putR]
    by_cases h : e = k
    · subst h; simp only [if_true, lookR]; by_cases h2 : d = e <;> simp [h2]
    · simp only [h, if_false, lookR, ih]
      by_cases h2 : d = k
      · subst h2; simp only [if_true]; rw [if_neg (by omega)]
      · simp [h2]

def St.get (st : St) : Loc → Cont
  | .T d => .a (lookT d st.t)
  | .R k => .s (lookR k st.rs).1 (lookR k st.rs).2

def St.set (st : St) : Loc → Cont → St
  | .T d, .a x => { st with t := putT d x st.t }
  | .R k, .s ver x => { st with rs := putR k (ver, x) st.rs }
  | _, _ => st

def St.upd (st : St) : List (Loc × Cont) → St
  | [] => st
  | (l, c) :: r => (st.set l c).upd r

/-- The version of each resource. -/
def St.cur (st : St) (k : Nat) : Nat := (lookR k st.rs).1

/-- Ghosts: the handle of each resource. -/
abbrev Gh := Nat → Value

def hblock : Value → Option Nat
  | .slice (some a) _ _ => some a.block
  | .pointer (some a) => some a.block
  | .map (some r) => some r
  | _ => none

/-- The block of a resource, if it has one. -/
def blk (st : St) (g : Gh) (k : Nat) : Option Nat :=
  match (lookR k st.rs).2 with
  | .gone => none
  | _ => hblock (g k)

def own (st : St) (g : Gh) (b : Nat) : Prop := ∃ k, blk st g k = some b

def isNaN64 (bits : Nat) : Prop := FloatKind.f64.format.order bits bits = none

/-- How a read-only value stands in a world; N: the blocks that it may not read. -/
inductive RR (w : World) (N : Nat → Prop) : RV → Value → Prop
  | v (x : Value) : RR w N (.v x) x
  | rp (row : List RV) (a : Addr) (c : Nat → Value) (hb : row ≠ [] → a.block < w.heap.size ∧ ¬ N a.block ∧ a.spot = none)
      (hc : ∀ j, j < row.length → w.cell? ⟨a.block, a.off + j, none⟩ = some (c j)) (hr : ∀ j x, row[j]? = some x → RR w N x (c j)) : RR w N (.rp row) (.pointer (some a))
  | nil (sz : Nat) : RR w N (.rs sz []) (.slice none 0 0)
  | rs (sz : Nat) (rows : List (List RV)) (a : Addr) (cap : Nat) (c : Nat → Nat → Value) (hb : rows ≠ [] → a.block < w.heap.size ∧ ¬ N a.block ∧ a.spot = none)
      (hcap : rows.length ≤ cap) (hw : ∀ row ∈ rows, row.length = sz) (hc : ∀ i j, i < rows.length → j < sz → w.cell? ⟨a.block, a.off + (i * sz + j), none⟩ = some (c i j))
      (hr : ∀ (i j : Nat) (row : List RV) (x : RV), rows[i]? = some row → row[j]? = some x → RR w N x (c i j)) : RR w N (.rs sz rows) (.slice (some a) rows.length cap)
  | fn (f : Nat) (caps : List RV) (vs : Array Value) (hs : vs.size = caps.length) (hr : ∀ (j : Nat) (x : RV) (y : Value), caps[j]? = some x → vs[j]? = some y → RR w N x y) : RR w N (.fn f caps) (.func (.func f) #[] vs)
  | nan (bits : Nat) (h : isNaN64 bits) : RR w N .nan (.float .f64 bits)
  | ln (n : Nat) (o : Option Addr) (c : Nat) : RR w N (.ln n) (.slice o n c)

theorem RR.mono {w w' : World} {N N' : Nat → Prop} {x : RV} {v : Value} (h : RR w N x v) (hs : w.heap.size ≤ w'.heap.size)
    (hk : ∀ b, b < w.heap.size → ¬ N b → w'.heap[b]? = w.heap[b]? ∧ ¬ N' b) : RR w' N' x v := by
  induction h with
  | v x => exact .v x
  | rp row a c hb hc hr ih =>
    refine .rp row a c (fun h => ?_) (fun j hj => ?_) ih
    · obtain ⟨h1, h2, h3⟩ := hb h; exact ⟨by omega, (hk _ h1 h2).2, h3⟩
    · obtain ⟨h1, h2, h3⟩ := hb (by intro e; simp [e] at hj)
      rw [← hc j hj]; exact World.cell?_of_block (hk a.block h1 h2).1
  | nil sz => exact .nil sz
  | rs sz rows a cap c hb hcap hw hc hr ih =>
    refine .rs sz rows a cap c (fun h => ?_) hcap hw (fun i j hi hj => ?_) ih
    · obtain ⟨h1, h2, h3⟩ := hb h; exact ⟨by omega, (hk _ h1 h2).2, h3⟩
    · obtain ⟨h1, h2, h3⟩ := hb (by intro e; simp [e] at hi)
      rw [← hc i j hi hj]; exact World.cell?_of_block (hk a.block h1 h2).1
  | fn f caps vs hs' hr ih => exact .fn f caps vs hs' ih
  | nan bits h => exact .nan bits h
  | ln n o c => exact .ln n o c

/-- How a slot's value stands in a world. -/
inductive AR (cur : Nat → Nat) (g : Gh) (w : World) (N : Nat → Prop) : AV → Value → Prop
  | r {x : RV} {v : Value} (h : RR w N x v) : AR cur g w N (.r x) v
  | os (k ver : Nat) (v : Value) (h1 : v.oneCell' = true) (h : ver < cur k ∨ ver = cur k ∧ v = g k) : AR cur g w N (.os k ver) v
  | rf (k ver off : Nat) (v : Value) (h1 : v.oneCell' = true) (h : ver < cur k ∨ ver = cur k ∧ ∃ b, g k = .pointer (some ⟨b, 0, none⟩) ∧ v = .pointer (some ⟨b, off, none⟩)) : AR cur g w N (.rf k ver off) v
  | re (k ver sz i off : Nat) (v : Value) (h1 : v.oneCell' = true) (h : ver < cur k ∨ ver = cur k ∧ ∃ b n c, g k = .slice (some ⟨b, 0, none⟩) n c ∧ v = .pointer (some ⟨b, i * sz + off, none⟩)) : AR cur g w N (.re k ver sz i off) v
  | agg (cs : List AV) (xs : Array Value) (hs : xs.size = cs.length) (h : ∀ (j : Nat) (x : AV) (y : Value), cs[j]? = some x → xs[j]? = some y → AR cur g w N x y) : AR cur g w N (.agg cs) (.agg xs)
  | tup (cs : List AV) (xs : Array Value) (hs : xs.size = cs.length) (h : ∀ (j : Nat) (x : AV) (y : Value), cs[j]? = some x → xs[j]? = some y → AR cur g w N x y) : AR cur g w N (.tup cs) (.tuple xs)
  | any (v : Value) : AR cur g w N .any v

theorem AR.mono {cur cur' : Nat → Nat} {g g' : Gh} {w w' : World} {N N' : Nat → Prop} {x : AV} {v : Value} (h : AR cur g w N x v) (hs : w.heap.size ≤ w'.heap.size)
    (hk : ∀ b, b < w.heap.size → ¬ N b → w'.heap[b]? = w.heap[b]? ∧ ¬ N' b) (hc : ∀ k, cur k < cur' k ∨ cur k = cur' k ∧ g k = g' k) : AR cur' g' w' N' x v := by
  induction h with
  | r h => exact .r (h.mono hs hk)
  | os k ver v h1 h =>
    refine .os k ver v h1 ?_
    rcases hc k with h2 | ⟨h2, h3⟩ <;> rcases h with h | ⟨h, h4⟩
    · left; omega
    · left; omega
    · left; omega
    · right; exact ⟨by omega, by rw [← h3]; exact h4⟩
  | rf k ver off v h1 h =>
    refine .rf k ver off v h1 ?_
    rcases hc k with h2 | ⟨h2, h3⟩ <;> rcases h with h | ⟨h, h4⟩
    · left; omega
    · left; omega
    · left; omega
    · right; exact ⟨by omega, by rw [← h3]; exact h4⟩
  | re k ver sz i off v h1 h =>
    refine .re k ver sz i off v h1 ?_
    rcases hc k with h2 | ⟨h2, h3⟩ <;> rcases h with h | ⟨h, h4⟩
    · left; omega
    · left; omega
    · left; omega
    · right; exact ⟨by omega, by rw [← h3]; exact h4⟩
  | agg cs xs hs' _ ih => exact .agg cs xs hs' ih
  | tup cs xs hs' _ ih => exact .tup cs xs hs' ih
  | any v => exact .any v

/-- A map's entries are told by a function: which value each key has, how many there are. -/
def MapIs (es : Array MapEntry) (f : Value → Option Value) (n : Nat) : Prop :=
  es.size = n ∧ (∀ k x, f k = some x ↔ ∃ e ∈ es.toList, e.key = k ∧ e.val = x) ∧ (es.toList.map (·.key)).Nodup

/-- How a resource stands in a world. -/
def ResR (cur : Nat → Nat) (g : Gh) (w : World) (N : Nat → Prop) (k : Nat) : Res → Prop
  | .gone => True
  | .bx cells => ∃ b C e, g k = .pointer (some ⟨b, 0, none⟩) ∧ w.heap[b]? = some (.cells C e (0, 0)) ∧ C.size = cells.length ∧ ∀ (j : Nat) (x : AV) (y : Value), cells[j]? = some x → C[j]? = some y → AR cur g w N x y
  | .sl e sz rows => ∃ xs, w.ownsRow 0 e sz (g k) rows.length xs ∧ (∀ row ∈ rows, row.length = sz) ∧ ∀ (i j : Nat) (row : List AV) (x : AV) (y : Value), rows[i]? = some row → row[j]? = some x → xs[i * sz + j]? = some y → AR cur g w N x y
  | .mp f n => ∃ b es clock, g k = .map (some b) ∧ w.heap[b]? = some (.map es clock) ∧ MapIs es f n

/-- The rest of the world of a call: the world that it began in, what it may write there, what may not be read. -/
structure Env where
  w0 : World
  own0 : Nat → Prop
  av0 : Nat → Prop
  cur0 : Nat → Nat
  g0 : Gh

/-- What was there when the call began is as it was, but for what it may write. -/
structure Ext (w : World) (own : Nat → Prop) (w' : World) (own' : Nat → Prop) : Prop where
  os : w'.os = w.os
  tape : w'.tape = w.tape
  output : w'.output = w.output
  size : w.heap.size ≤ w'.heap.size
  block : ∀ b, b < w.heap.size → ¬ own b → w'.heap[b]? = w.heap[b]? ∧ ¬ own' b

theorem Ext.refl (w : World) (own : Nat → Prop) : Ext w own w own := ⟨rfl, rfl, rfl, Nat.le_refl _, fun _ _ h => ⟨rfl, h⟩⟩
theorem Ext.trans {w w' w'' : World} {o o' o'' : Nat → Prop} (h : Ext w o w' o') (k : Ext w' o' w'' o'') : Ext w o w'' o'' :=
  ⟨k.os.trans h.os, k.tape.trans h.tape, k.output.trans h.output, Nat.le_trans h.size k.size, fun b hb ho => by
    obtain ⟨h1, h2⟩ := h.block b hb ho
    obtain ⟨h3, h4⟩ := k.block b (Nat.lt_of_lt_of_le hb h.size) h2
    exact ⟨h3.trans h1, h4⟩⟩

/-- What is fixed for a claim: the program; what is known of the world's old memory (of its first gs blocks). -/
structure Ctx where
  P : Program
  gs : Nat
  G : World → Prop
  hG : ∀ w w' : World, G w → (∀ b, b < gs → w'.heap[b]? = w.heap[b]?) → w.heap.size ≤ w'.heap.size → G w'
  mixed : P.follows .mixedOrders = true

/-- What may not be read: what the caller says, and what is owned. -/
def Env.N (e : Env) (st : St) (g : Gh) (b : Nat) : Prop := e.av0 b ∨ own st g b

structure Env.ok (C : Ctx) (e : Env) : Prop where
  G : C.G e.w0
  gs : C.gs ≤ e.w0.heap.size
  own : ∀ b, e.own0 b → C.gs ≤ b ∧ b < e.w0.heap.size
  av : ∀ b, e.av0 b → b < e.w0.heap.size

/-- The state tells of the frame and the world. -/
structure SR (C : Ctx) (e : Env) (st : St) (g : Gh) (a : Act) (w : World) : Prop where
  defers : a.defers = []
  size : a.tmps.size = st.n
  temps : ∀ d, AR st.cur g w (e.N st g) (lookT d st.t) (a.tmps.getD d undef)
  res : ∀ k, ResR st.cur g w (e.N st g) k (lookR k st.rs).2
  uniq : ∀ k k' b, blk st g k = some b → blk st g k' = some b → k = k'
  low : ∀ k b, blk st g k = some b → C.gs ≤ b ∧ b < w.heap.size ∧ ¬ e.av0 b
  ext : Ext e.w0 e.own0 w (own st g)
  hist : ∀ k, e.cur0 k < st.cur k ∨ e.cur0 k = st.cur k ∧ g k = e.g0 k

theorem hist_step {a b c : Nat → Nat} {g0 g g' : Gh} (h : ∀ k, a k < b k ∨ a k = b k ∧ g k = g0 k) (hc : ∀ k, b k < c k ∨ b k = c k ∧ g k = g' k) (k : Nat) : a k < c k ∨ a k = c k ∧ g' k = g0 k := by
  rcases h k with h1 | ⟨h1, h2⟩ <;> rcases hc k with h3 | ⟨h3, h4⟩
  · left; omega
  · left; omega
  · left; omega
  · right; exact ⟨by omega, by rw [← h4]; exact h2⟩

/-- From here on. -/
abbrev Env.re (e : Env) (st : St) (g : Gh) : Env := { e with cur0 := st.cur, g0 := g }

theorem SR.re {C : Ctx} {e : Env} {st : St} {g : Gh} {a : Act} {w : World} (h : SR C e st g a w) : SR C (e.re st g) st g a w :=
  ⟨h.defers, h.size, h.temps, h.res, h.uniq, h.low, h.ext, fun _ => .inr ⟨rfl, rfl⟩⟩

def S (C : Ctx) (e : Env) (st : St) (a : Act) (w : World) : Prop := e.ok C ∧ ∃ g, SR C e st g a w

theorem SR.size_le {C : Ctx} {e : Env} {st : St} {g : Gh} {a : Act} {w : World} (h : SR C e st g a w) : e.w0.heap.size ≤ w.heap.size := h.ext.size

theorem S.G {C : Ctx} {e : Env} {st : St} {a : Act} {w : World} (h : S C e st a w) : C.G w := by
  obtain ⟨ho, g, h⟩ := h
  refine C.hG e.w0 w ho.G (fun b hb => (h.ext.block b (by have := ho.gs; omega) fun hc => ?_).1) h.ext.size
  have := (ho.own b hc).1; omega

end Go.Proofs.YtjbhpoolghfhiaaDoor
