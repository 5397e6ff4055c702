/- The abstract values, states and relations by which the walks of this claim are told. No condition: definitions and plain lemmas. -/
import Derived.Below
import Derived.Orders
import Derived.Laws.AppendOwn
import Derived.Laws.StructEq
import Derived.KernelRfl
import Derived.Deep.LoopGhost
import Derived.Laws.FloatArith
import Derived.Laws.Tables
namespace Go.Proofs.YtbhnmolmkembdaaGreatDoor
set_option linter.unusedVariables false
set_option linter.unusedSimpArgs false
set_option maxHeartbeats 10000000
open Go
set_option maxRecDepth 10000
inductive RV where
 | v (x : Value)
 | rp (row : List RV)
 | rs (sz : Nat) (rows : List (List RV))
 | fn (f : Nat) (caps : List RV)
 | nan
 | ln (n : Nat)
 | un
inductive NV where
 | r (x : RV)
 | nd (e sz : Nat) (rows : List (List NV))
inductive AV where
 | r (x : RV)
 | os (k ver : Nat)
 | rf (k ver off : Nat)
 | re (k ver sz i off : Nat)
 | agg (cs : List AV)
 | tup (xs : List AV)
 | any
 | cl (f : Nat) (caps : List AV)
 | nd (e sz : Nat) (rows : List (List NV))
def isNd : AV → Bool
 | .nd _ _ _ => true
 | _ => false
inductive Res where
 | gone
 | bx (cells : List AV)
 | sl (e sz : Nat) (rows : List (List AV))
 | mp (f : Value → Option Value) (n : Nat)
inductive Loc where
 | T (d : Nat)
 | R (k : Nat)
 deriving DecidableEq
inductive Cont where
 | a (x : AV)
 | s (ver : Nat) (x : Res)
structure St where
 n : Nat
 t : List (Nat × AV)
 rs : List (Nat × Nat × Res)
def bB (d : Nat) : List (Nat × AV) → AV
 | [] => .any
 | (k, x) :: l => if d = k then x else bB d l
def aB (d : Nat) : List (Nat × Nat × Res) → Nat × Res
 | [] => (0, .gone)
 | (k, x) :: l => if d = k then x else aB d l
def putT (d : Nat) (x : AV) : List (Nat × AV) → List (Nat × AV)
 | [] => [(d, x)]
 | (k, y) :: l => if d = k then (k, x) :: l else (k, y) :: putT d x l
def putR (d : Nat) (x : Nat × Res) : List (Nat × Nat × Res) → List (Nat × Nat × Res)
 | [] => [(d, x)]
 | (k, y) :: l => if d = k then (k, x) :: l else (k, y) :: putR d x l
theorem yG (d e : Nat) (x : AV) (l : List (Nat × AV)) : bB d (putT e x l) = if d = e then x else bB d l := by
 induction l with
 | nil => simp [putT, bB]
 | cons p l ih =>
  obtain ⟨k, y⟩ := p
  simp only [putT]
  by_cases h : e = k
  ·subst h; simp only [if_true, bB]; by_cases h2 : d = e <;> simp [h2]
  ·simp only [h, if_false, bB, ih]
   by_cases h2 : d = k
   ·subst h2; simp only [if_true]; rw [if_neg (by omega)]
   ·simp [h2]
theorem cX (d e : Nat) (x : Nat × Res) (l : List (Nat × Nat × Res)) : aB d (putR e x l) = if d = e then x else aB d l := by
 induction l with
 | nil => simp [putR, aB]
 | cons p l ih =>
  obtain ⟨k, y⟩ := p
  simp only [putR]
  by_cases h : e = k
  ·subst h; simp only [if_true, aB]; by_cases h2 : d = e <;> simp [h2]
  ·simp only [h, if_false, aB, ih]
   by_cases h2 : d = k
   ·subst h2; simp only [if_true]; rw [if_neg (by omega)]
   ·simp [h2]
def St.get (st : St) : Loc → Cont
 | .T d => .a (bB d st.t)
 | .R k => .s (aB k st.rs).1 (aB k st.rs).2
def St.set (st : St) : Loc → Cont → St
 | .T d, .a x => { st with t := putT d x st.t }
 | .R k, .s ver x => { st with rs := putR k (ver, x) st.rs }
 | _, _ => st
def St.upd (st : St) : List (Loc × Cont) → St
 | [] => st
 | (l, c) :: r => (st.set l c).upd r
def St.cur (st : St) (k : Nat) : Nat := (aB k st.rs).1
structure Gh where
 v : Nat → Value
 f : Nat → List Nat
instance : CoeFun Gh (fun _ => Nat → Value) := ⟨Gh.v⟩
def bV : Value → Option Nat
 | .slice (some a) _ _ => some a.block
 | .pointer (some a) => some a.block
 | .map (some r) => some r
 | _ => none
def blk (st : St) (g : Gh) (k b : Nat) : Prop := (aB k st.rs).2 ≠ .gone ∧ (bV (g k) = some b ∨ b ∈ g.f k)
def own (st : St) (g : Gh) (b : Nat) : Prop := ∃ k, blk st g k b
def oR (bits : Nat) : Prop := FloatKind.f64.format.order bits bits = none
inductive RR (w : World) (N : Nat → Prop) : RV → Value → Prop
 | v (x : Value) : RR w N (.v x) x
 | rp (row : List RV) (a : Addr) (c : Nat → Value) (hb : row ≠ [] → a.block < w.heap.size ∧ ¬ N a.block ∧ a.spot = none)
   (hc : ∀ j, j < row.length → w.cell? ⟨a.block, a.off + j, none⟩ = some (c j)) (hr : ∀ j x, row[j]? = some x → RR w N x (c j)) : RR w N (.rp row) (.pointer (some a))
 | nil (sz : Nat) : RR w N (.rs sz []) (.slice none 0 0)
 | rs (sz : Nat) (rows : List (List RV)) (a : Addr) (cap : Nat) (c : Nat → Nat → Value) (hb : rows ≠ [] → a.block < w.heap.size ∧ ¬ N a.block ∧ a.spot = none)
   (hcap : rows.length ≤ cap) (hw : ∀ row ∈ rows, row.length = sz) (hc : ∀ i j, i < rows.length → j < sz → w.cell? ⟨a.block, a.off + (i * sz + j), none⟩ = some (c i j))
   (hr : ∀ (i j : Nat) (row : List RV) (x : RV), rows[i]? = some row → row[j]? = some x → RR w N x (c i j)) : RR w N (.rs sz rows) (.slice (some a) rows.length cap)
 | fn (f : Nat) (caps : List RV) (vs : Array Value) (hs : vs.size = caps.length) (hr : ∀ (j : Nat) (x : RV) (y : Value), caps[j]? = some x → vs[j]? = some y → RR w N x y) : RR w N (.fn f caps) (.func (.func f) #[] vs)
 | nan (bits : Nat) (h : oR bits) : RR w N .nan (.float .f64 bits)
 | ln (n : Nat) (o : Option Addr) (c : Nat) : RR w N (.ln n) (.slice o n c)
 | un (v : Value) : RR w N .un v
theorem RR.mono {w w' : World} {N N' : Nat → Prop} {x : RV} {v : Value} (h : RR w N x v) (hs : w.heap.size ≤ w'.heap.size)
  (hk : ∀ b, b < w.heap.size → ¬ N b → w'.heap[b]? = w.heap[b]? ∧ ¬ N' b) : RR w' N' x v := by
 induction h with
 | v x => exact .v x
 | rp row a c hb hc hr ih =>
  refine .rp row a c (fun h => ?_) (fun j hj => ?_) ih
  ·obtain ⟨h1, h2, h3⟩ := hb h; exact ⟨by omega, (hk _ h1 h2).2, h3⟩
  ·obtain ⟨h1, h2, h3⟩ := hb (by intro e; simp [e] at hj)
   rw [← hc j hj]; exact World.cell?_of_block (hk a.block h1 h2).1
 | nil sz => exact .nil sz
 | rs sz rows a cap c hb hcap hw hc hr ih =>
  refine .rs sz rows a cap c (fun h => ?_) hcap hw (fun i j hi hj => ?_) ih
  ·obtain ⟨h1, h2, h3⟩ := hb h; exact ⟨by omega, (hk _ h1 h2).2, h3⟩
  ·obtain ⟨h1, h2, h3⟩ := hb (by intro e; simp [e] at hi)
   rw [← hc i j hi hj]; exact World.cell?_of_block (hk a.block h1 h2).1
 | fn f caps vs hs' hr ih => exact .fn f caps vs hs' ih
 | nan bits h => exact .nan bits h
 | ln n o c => exact .ln n o c
 | un v => exact .un v
inductive AR (cur : Nat → Nat) (g : Gh) (w : World) (N : Nat → Prop) : AV → Value → Prop
 | r {x : RV} {v : Value} (h : RR w N x v) : AR cur g w N (.r x) v
 | os (k ver : Nat) (v : Value) (h1 : v.oneCell' = true) (h : ver < cur k ∨ ver = cur k ∧ v = g k) : AR cur g w N (.os k ver) v
 | rf (k ver off : Nat) (v : Value) (h1 : v.oneCell' = true) (h : ver < cur k ∨ ver = cur k ∧ ∃ b, g k = .pointer (some ⟨b, 0, none⟩) ∧ v = .pointer (some ⟨b, off, none⟩)) : AR cur g w N (.rf k ver off) v
 | re (k ver sz i off : Nat) (v : Value) (h1 : v.oneCell' = true) (h : ver < cur k ∨ ver = cur k ∧ ∃ b n c, g k = .slice (some ⟨b, 0, none⟩) n c ∧ v = .pointer (some ⟨b, i * sz + off, none⟩)) : AR cur g w N (.re k ver sz i off) v
 | agg (cs : List AV) (xs : Array Value) (hs : xs.size = cs.length) (h : ∀ (j : Nat) (x : AV) (y : Value), cs[j]? = some x → xs[j]? = some y → AR cur g w N x y) : AR cur g w N (.agg cs) (.agg xs)
 | tup (cs : List AV) (xs : Array Value) (hs : xs.size = cs.length) (h : ∀ (j : Nat) (x : AV) (y : Value), cs[j]? = some x → xs[j]? = some y → AR cur g w N x y) : AR cur g w N (.tup cs) (.tuple xs)
 | any (v : Value) : AR cur g w N .any v
 | cl (f : Nat) (caps : List AV) (xs : Array Value) (hs : xs.size = caps.length) (h : ∀ (j : Nat) (x : AV) (y : Value), caps[j]? = some x → xs[j]? = some y → AR cur g w N x y) : AR cur g w N (.cl f caps) (.func (.func f) #[] xs)
 | nd (e sz : Nat) (rows : List (List NV)) (v : Value) : AR cur g w N (.nd e sz rows) v
theorem AR.mono {cur cur' : Nat → Nat} {g g' : Gh} {w w' : World} {N N' : Nat → Prop} {x : AV} {v : Value} (h : AR cur g w N x v) (hs : w.heap.size ≤ w'.heap.size)
  (hk : ∀ b, b < w.heap.size → ¬ N b → w'.heap[b]? = w.heap[b]? ∧ ¬ N' b) (hc : ∀ k, cur k < cur' k ∨ cur k = cur' k ∧ g k = g' k) : AR cur' g' w' N' x v := by
 induction h with
 | r h => exact .r (h.mono hs hk)
 | os k ver v h1 h =>
  refine .os k ver v h1 ?_
  rcases hc k with h2 | ⟨h2, h3⟩ <;> rcases h with h | ⟨h, h4⟩
  ·left; omega
  ·left; omega
  ·left; omega
  ·right; exact ⟨by omega, by rw [← h3]; exact h4⟩
 | rf k ver off v h1 h =>
  refine .rf k ver off v h1 ?_
  rcases hc k with h2 | ⟨h2, h3⟩ <;> rcases h with h | ⟨h, h4⟩
  ·left; omega
  ·left; omega
  ·left; omega
  ·right; exact ⟨by omega, by rw [← h3]; exact h4⟩
 | re k ver sz i off v h1 h =>
  refine .re k ver sz i off v h1 ?_
  rcases hc k with h2 | ⟨h2, h3⟩ <;> rcases h with h | ⟨h, h4⟩
  ·left; omega
  ·left; omega
  ·left; omega
  ·right; exact ⟨by omega, by rw [← h3]; exact h4⟩
 | agg cs xs hs' _ ih => exact .agg cs xs hs' ih
 | tup cs xs hs' _ ih => exact .tup cs xs hs' ih
 | any v => exact .any v
 | cl f caps xs hs' _ ih => exact .cl f caps xs hs' ih
 | nd e sz rows v => exact .nd e sz rows v
def zC (es : Array MapEntry) (f : Value → Option Value) (n : Nat) : Prop :=
 es.size = n ∧ (∀ k x, f k = some x ↔ ∃ e ∈ es.toList, e.key = k ∧ e.val = x) ∧ (es.toList.map (·.key)).Nodup
inductive NDL (w : World) (N : Nat → Prop) : List (NV × Value) → List Nat → Prop
 | nil : NDL w N [] []
 | r {x : RV} {v : Value} {l : List (NV × Value)} {f : List Nat} (h : RR w N x v) (hl : NDL w N l f) : NDL w N ((.r x, v) :: l) f
 | nd {e sz : Nat} {rows : List (List NV)} {v : Value} {xs : List Value} {l : List (NV × Value)} {f f' : List Nat} (ho : w.ownsRow 0 e sz v rows.length xs) (hw : ∀ row ∈ rows, row.length = sz)
   (hi : NDL w N (rows.flatten.zip xs) f) (hl : NDL w N l f') : NDL w N ((.nd e sz rows, v) :: l) ((bV v).toList ++ f ++ f')
def ndOf : AV × Value → Option (NV × Value)
 | (.nd e sz rows, v) => some (.nd e sz rows, v)
 | _ => none
def nds (xs : List AV) (vs : List Value) : List (NV × Value) := (xs.zip vs).filterMap ndOf
structure Nest (w : World) (N : Nat → Prop) (v : Value) (l : List (NV × Value)) (f : List Nat) : Prop where
 nd : NDL w N l f
 dup : ((bV v).toList ++ f).Nodup
def ResR (cur : Nat → Nat) (g : Gh) (w : World) (N : Nat → Prop) (k : Nat) : Res → Prop
 | .gone => True
 | .bx cells => ∃ b C e, g k = .pointer (some ⟨b, 0, none⟩) ∧ w.heap[b]? = some (.cells C e (0, 0)) ∧ C.size = cells.length ∧ (∀ (j : Nat) (x : AV) (y : Value), cells[j]? = some x → C[j]? = some y → AR cur g w N x y) ∧ Nest w N (g k) (nds cells C.toList) (g.f k)
 | .sl e sz rows => ∃ xs, w.ownsRow 0 e sz (g k) rows.length xs ∧ (∀ row ∈ rows, row.length = sz) ∧ (∀ (i j : Nat) (row : List AV) (x : AV) (y : Value), rows[i]? = some row → row[j]? = some x → xs[i * sz + j]? = some y → AR cur g w N x y) ∧ Nest w N (g k) (nds rows.flatten xs) (g.f k)
 | .mp f n => ∃ b es clock, g k = .map (some b) ∧ w.heap[b]? = some (.map es clock) ∧ zC es f n
structure Env where
 w0 : World
 own0 : Nat → Prop
 av0 : Nat → Prop
 cur0 : Nat → Nat
 g0 : Gh
structure Ext (w : World) (own : Nat → Prop) (w' : World) (own' : Nat → Prop) : Prop where
 os : w'.os = w.os
 tape : w'.tape = w.tape
 output : w'.output = w.output
 size : w.heap.size ≤ w'.heap.size
 block : ∀ b, b < w.heap.size → ¬ own b → w'.heap[b]? = w.heap[b]? ∧ ¬ own' b
theorem Ext.refl (w : World) (own : Nat → Prop) : Ext w own w own := ⟨rfl, rfl, rfl, Nat.le_refl _, fun _ _ h => ⟨rfl, h⟩⟩
theorem Ext.trans {w w' w'' : World} {o o' o'' : Nat → Prop} (h : Ext w o w' o') (k : Ext w' o' w'' o'') : Ext w o w'' o'' :=
 ⟨k.os.trans h.os, k.tape.trans h.tape, k.output.trans h.output, Nat.le_trans h.size k.size, fun b hb ho => by
  obtain ⟨h1, h2⟩ := h.block b hb ho
  obtain ⟨h3, h4⟩ := k.block b (Nat.lt_of_lt_of_le hb h.size) h2
  exact ⟨h3.trans h1, h4⟩⟩
structure Ctx where
 P : Program
 gs : Nat
 G : World → Prop
 hG : ∀ w w' : World, G w → (∀ b, b < gs → w'.heap[b]? = w.heap[b]?) → w.heap.size ≤ w'.heap.size → G w'
 mixed : P.follows .mixedOrders = true
def Env.N (e : Env) (st : St) (g : Gh) (b : Nat) : Prop := e.av0 b ∨ own st g b
structure Env.ok (C : Ctx) (e : Env) : Prop where
 G : C.G e.w0
 gs : C.gs ≤ e.w0.heap.size
 own : ∀ b, e.own0 b → C.gs ≤ b ∧ b < e.w0.heap.size
 av : ∀ b, e.av0 b → b < e.w0.heap.size
structure SR (C : Ctx) (e : Env) (st : St) (g : Gh) (a : Act) (w : World) : Prop where
 defers : a.defers = []
 size : a.tmps.size = st.n
 temps : ∀ d, AR st.cur g w (e.N st g) (bB d st.t) (a.tmps.getD d undef)
 res : ∀ k, ResR st.cur g w (e.N st g) k (aB k st.rs).2
 uniq : ∀ k k' b, blk st g k b → blk st g k' b → k = k'
 low : ∀ k b, blk st g k b → C.gs ≤ b ∧ b < w.heap.size ∧ ¬ e.av0 b
 ext : Ext e.w0 e.own0 w (own st g)
 hist : ∀ k, e.cur0 k < st.cur k ∨ e.cur0 k = st.cur k ∧ g k = e.g0 k
theorem mY {a b c : Nat → Nat} {g0 g g' : Gh} (h : ∀ k, a k < b k ∨ a k = b k ∧ g k = g0 k) (hc : ∀ k, b k < c k ∨ b k = c k ∧ g k = g' k) (k : Nat) : a k < c k ∨ a k = c k ∧ g' k = g0 k := by
 rcases h k with h1 | ⟨h1, h2⟩ <;> rcases hc k with h3 | ⟨h3, h4⟩
 ·left; omega
 ·left; omega
 ·left; omega
 ·right; exact ⟨by omega, by rw [← h4]; exact h2⟩
abbrev Env.re (e : Env) (st : St) (g : Gh) : Env := { e with cur0 := st.cur, g0 := g }
theorem SR.re {C : Ctx} {e : Env} {st : St} {g : Gh} {a : Act} {w : World} (h : SR C e st g a w) : SR C (e.re st g) st g a w :=
 ⟨h.defers, h.size, h.temps, h.res, h.uniq, h.low, h.ext, fun _ => .inr ⟨rfl, rfl⟩⟩
def S (C : Ctx) (e : Env) (st : St) (a : Act) (w : World) : Prop := e.ok C ∧ ∃ g, SR C e st g a w
theorem S.G {C : Ctx} {e : Env} {st : St} {a : Act} {w : World} (h : S C e st a w) : C.G w := by
 obtain ⟨ho, g, h⟩ := h
 refine C.hG e.w0 w ho.G (fun b hb => (h.ext.block b (by have := ho.gs; omega) fun hc => ?_).1) h.ext.size
 have := (ho.own b hc).1; omega
def gput (g : Gh) (k : Nat) (v : Value) (fp : List Nat) : Gh := ⟨fun j => if j = k then v else g j, fun j => if j = k then fp else g.f j⟩
theorem pC {e : Env} {st st' : St} {g g' : Gh} {w w' : World} (hx : Ext w (own st g) w' (own st' g')) : ∀ b, b < w.heap.size → ¬ e.N st g b → w'.heap[b]? = w.heap[b]? ∧ ¬ e.N st' g' b := fun b hb hn => by
 have h1 := hx.block b hb (fun ho => hn (.inr ho))
 exact ⟨h1.1, fun h2 => h2.elim (fun h3 => hn (.inl h3)) h1.2⟩
theorem AR.lift {e : Env} {st st' : St} {g g' : Gh} {w w' : World} {x : AV} {v : Value} (h : AR st.cur g w (e.N st g) x v)
  (hx : Ext w (own st g) w' (own st' g')) (hc : ∀ k, st.cur k < st'.cur k ∨ st.cur k = st'.cur k ∧ g k = g' k) : AR st'.cur g' w' (e.N st' g') x v :=
 h.mono hx.size (fun b hb hn => by
  have h1 := hx.block b hb (fun ho => hn (.inr ho))
  exact ⟨h1.1, fun h2 => h2.elim (fun h3 => hn (.inl h3)) h1.2⟩) hc
theorem wL {w w' : World} {base e sz : Nat} {v : Value} {n : Nat} {xs : List Value} (h : w.ownsRow base e sz v n xs)
  (hk : ∀ b, bV v = some b → w'.heap[b]? = w.heap[b]?) : w'.ownsRow base e sz v n xs := by
 refine ⟨h.1, ?_⟩
 rcases h.2 with hn | ⟨b, cap, cur, rfl, hb, hh, rest⟩
 ·exact .inl hn
 ·exact .inr ⟨b, cap, cur, rfl, hb, by rw [hk b rfl]; exact hh, rest⟩
theorem NDL.lift {w w' : World} {N N' : Nat → Prop} {l : List (NV × Value)} {f : List Nat} (h : NDL w N l f) (hs : w.heap.size ≤ w'.heap.size) (hk : ∀ b, b < w.heap.size → ¬ N b → w'.heap[b]? = w.heap[b]? ∧ ¬ N' b)
  (hf : ∀ b ∈ f, w'.heap[b]? = w.heap[b]?) : NDL w' N' l f := by
 induction h with
 | nil => exact .nil
 | r h _ ih => exact .r (h.mono hs hk) (ih hf)
 | nd ho hw _ _ ih1 ih2 =>
  exact .nd (wL ho fun b hb => hf b (by simp [hb])) hw (ih1 fun b hb => hf b (by simp [hb])) (ih2 fun b hb => hf b (by simp [hb]))
theorem Nest.lift {w w' : World} {N N' : Nat → Prop} {v : Value} {l : List (NV × Value)} {f : List Nat} (h : Nest w N v l f) (hs : w.heap.size ≤ w'.heap.size) (hk : ∀ b, b < w.heap.size → ¬ N b → w'.heap[b]? = w.heap[b]? ∧ ¬ N' b)
  (hf : ∀ b ∈ f, w'.heap[b]? = w.heap[b]?) : Nest w' N' v l f := ⟨h.nd.lift hs hk hf, h.dup⟩
theorem Nest.apart {w : World} {N : Nat → Prop} {v : Value} {l : List (NV × Value)} {f : List Nat} (h : Nest w N v l f) {b : Nat} (hv : bV v = some b) : ∀ c ∈ f, c ≠ b := fun c hc he => by
 have := h.dup
 rw [hv] at this
 exact (List.nodup_cons.1 this).1 (he ▸ hc)
theorem Nest.none {w : World} {N : Nat → Prop} {v : Value} : Nest w N v [] [] := ⟨.nil, by cases bV v <;> simp⟩
theorem NDL.app {w : World} {N : Nat → Prop} {l l' : List (NV × Value)} {f f' : List Nat} (h : NDL w N l f) (h' : NDL w N l' f') : NDL w N (l ++ l') (f ++ f') := by
 induction h with
 | nil => exact h'
 | r h _ ih => exact .r h ih
 | nd ho hw hi _ _ ih => rw [List.append_assoc]; exact .nd ho hw hi ih
theorem NDL.split {w : World} {N : Nat → Prop} : ∀ {l l' : List (NV × Value)} {f : List Nat}, NDL w N (l ++ l') f → ∃ f1 f2, f = f1 ++ f2 ∧ NDL w N l f1 ∧ NDL w N l' f2
 | [], l', f, h => ⟨[], f, rfl, .nil, h⟩
 | p :: l, l', f, h => by
  cases h with
  | r h hl =>
   obtain ⟨f1, f2, rfl, h1, h2⟩ := hl.split
   exact ⟨f1, f2, rfl, .r h h1, h2⟩
  | nd ho hw hi hl =>
   obtain ⟨f1, f2, rfl, h1, h2⟩ := hl.split
   exact ⟨_, f2, (List.append_assoc _ _ _).symm, .nd ho hw hi h1, h2⟩
theorem NDL.sub {w : World} {N : Nat → Prop} {l' l : List (NV × Value)} (hs : l'.Sublist l) : ∀ {f : List Nat}, NDL w N l f → ∃ f', f'.Sublist f ∧ NDL w N l' f' := by
 induction hs with
 | slnil => intro f h; exact ⟨f, List.Sublist.refl _, h⟩
 | cons p _ ih =>
  intro f h
  cases h with
  | r _ hl => exact ih hl
  | nd ho hw hi hl =>
   obtain ⟨f', h1, h2⟩ := ih hl
   exact ⟨f', h1.trans (List.sublist_append_right _ _), h2⟩
 | cons_cons p _ ih =>
  intro f h
  cases h with
  | r h hl =>
   obtain ⟨f', h1, h2⟩ := ih hl
   exact ⟨f', h1, .r h h2⟩
  | nd ho hw hi hl =>
   obtain ⟨f', h1, h2⟩ := ih hl
   exact ⟨_, List.Sublist.append (List.Sublist.refl _) h1, .nd ho hw hi h2⟩
theorem Nest.sub {w : World} {N : Nat → Prop} {v v' : Value} {l l' : List (NV × Value)} {f : List Nat} (h : Nest w N v l f) (hs : l'.Sublist l) (hv : bV v' = bV v) : ∃ f', f'.Sublist f ∧ Nest w N v' l' f' := by
 obtain ⟨f', h1, h2⟩ := h.nd.sub hs
 exact ⟨f', h1, h2, by rw [hv]; exact h.dup.sublist (List.Sublist.append (List.Sublist.refl _) h1)⟩
theorem xD {x : AV} (h : isNd x = false) (v : Value) : ndOf (x, v) = none := by cases x <;> first | rfl | cases h
theorem lK : ∀ {xs : List AV} {vs : List Value}, (∀ x ∈ xs, isNd x = false) → nds xs vs = []
 | [], vs, _ => rfl
 | x :: xs, [], _ => rfl
 | x :: xs, v :: vs, h => by
  show ((x, v) :: xs.zip vs).filterMap ndOf = []
  rw [List.filterMap_cons_none (xD (h x (List.mem_cons_self ..)) v)]
  exact lK fun y hy => h y (List.mem_cons_of_mem _ hy)
theorem sW {xs ys : List AV} {vs us : List Value} (h : xs.length = vs.length) : nds (xs ++ ys) (vs ++ us) = nds xs vs ++ nds ys us := by
 unfold nds
 rw [List.zip_append h, List.filterMap_append]
theorem xE {F : AV → AV} (hF : ∀ x v, ndOf (F x, v) = ndOf (x, v)) : ∀ {xs : List AV} {vs : List Value}, nds (xs.map F) vs = nds xs vs
 | [], vs => rfl
 | x :: xs, [] => rfl
 | x :: xs, v :: vs => by
  show ((F x, v) :: (xs.map F).zip vs).filterMap ndOf = ((x, v) :: xs.zip vs).filterMap ndOf
  rw [List.filterMap_cons, List.filterMap_cons, hF, show List.filterMap ndOf ((xs.map F).zip vs) = List.filterMap ndOf (xs.zip vs) from xE hF]
theorem ResR.lift {e : Env} {st st' : St} {g g' : Gh} {w w' : World} {k : Nat} {x : Res} (h : ResR st.cur g w (e.N st g) k x)
  (hx : Ext w (own st g) w' (own st' g')) (hc : ∀ k, st.cur k < st'.cur k ∨ st.cur k = st'.cur k ∧ g k = g' k) (hg : g' k = g k) (hf : g'.f k = g.f k)
  (hk : x ≠ .gone → ∀ b, bV (g k) = some b ∨ b ∈ g.f k → w'.heap[b]? = w.heap[b]?) : ResR st'.cur g' w' (e.N st' g') k x := by
 cases x with
 | gone => trivial
 | bx cells =>
  obtain ⟨b, C', el, h1, h2, h3, h4, h5⟩ := h
  exact ⟨b, C', el, by rw [hg]; exact h1, by rw [hk (by simp) b (.inl (by rw [h1]; rfl))]; exact h2, h3, fun j x y hj hy => (h4 j x y hj hy).lift hx hc, by rw [hg, hf]; exact h5.lift hx.size (pC hx) fun b hb => hk (by simp) b (.inr hb)⟩
 | sl el sz rows =>
  obtain ⟨xs, h1, h2, h3, h5⟩ := h
  refine ⟨xs, ?_, h2, fun i j row x y hi hj hy => (h3 i j row x y hi hj hy).lift hx hc, by rw [hg, hf]; exact h5.lift hx.size (pC hx) fun b hb => hk (by simp) b (.inr hb)⟩
  rw [hg]; exact wL h1 fun b hb => hk (by simp) b (.inl hb)
 | mp f n =>
  obtain ⟨b, es, clock, h1, h2, h3⟩ := h
  exact ⟨b, es, clock, by rw [hg]; exact h1, by rw [hk (by simp) b (.inl (by rw [h1]; rfl))]; exact h2, h3⟩
theorem xT {st st' : St} {g g' : Gh} {k : Nat} (h1 : (aB k st'.rs).2 = (aB k st.rs).2) (h2 : g' k = g k) (h3 : g'.f k = g.f k) : blk st' g' k = blk st g k := by
 funext b; simp only [blk, h1, h2, h3]
theorem SR.put {C : Ctx} {e : Env} {st : St} {g : Gh} {a : Act} {w : World} (h : SR C e st g a w) {d : Nat} (hd : d < st.n) {x : AV} {v : Value}
  (hv : AR st.cur g w (e.N st g) x v) : SR C e { st with t := putT d x st.t } g (a.put (some d) v) w := by
 refine ⟨h.defers, by simp [Act.put, h.size], fun d' => ?_, h.res, h.uniq, h.low, h.ext, h.hist⟩
 show AR st.cur g w (e.N st g) _ _
 rw [yG]
 by_cases hdd : d' = d
 ·subst hdd
  have : ((a.put (some d') v).tmps.getD d' undef) = v := by
   simp [Act.put, Array.getD_eq_getD_getElem?, h.size, hd]
  rw [this]; simpa using hv
 ·have : ((a.put (some d) v).tmps.getD d' undef) = a.tmps.getD d' undef := by
   simp [Act.put, Array.getD_eq_getD_getElem?, Ne.symm hdd]
  rw [this, if_neg hdd]; exact h.temps d'
theorem SR.world {C : Ctx} {e : Env} {st : St} {g : Gh} {a : Act} {w w' : World} (h : SR C e st g a w) (hh : w'.heap = w.heap) (ho : w'.os = w.os) (ht : w'.tape = w.tape) (hp : w'.output = w.output) : SR C e st g a w' := by
 have hx : Ext w (own st g) w' (own st g) := ⟨ho, ht, hp, by rw [hh]; exact Nat.le_refl _, fun b _ hb => ⟨by rw [hh], hb⟩⟩
 have hc : ∀ k, st.cur k < st.cur k ∨ st.cur k = st.cur k ∧ g k = g k := fun k => .inr ⟨rfl, rfl⟩
 exact ⟨h.defers, h.size, fun d => (h.temps d).lift hx hc, fun k => (h.res k).lift hx hc rfl rfl (fun _ b _ => by rw [hh]), h.uniq, fun k b hb => by rw [hh]; exact h.low k b hb, h.ext.trans hx, h.hist⟩
theorem SR.turn {C : Ctx} {e : Env} {st : St} {g : Gh} {a : Act} {w w' : World} (h : SR C e st g a w) (k0 : Nat) (ver : Nat) (res : Res) (v : Value) (fp : List Nat)
  (ho : w'.os = w.os) (ht : w'.tape = w.tape) (hp : w'.output = w.output) (hs : w.heap.size ≤ w'.heap.size)
  (hb : ∀ b, b < w.heap.size → ¬ blk st g k0 b → w'.heap[b]? = w.heap[b]?)
  (hver : st.cur k0 < ver ∨ st.cur k0 = ver ∧ g k0 = v)
  (hblk : ∀ b, res ≠ .gone → bV v = some b ∨ b ∈ fp → b < w'.heap.size ∧ (blk st g k0 b ∨ w.heap.size ≤ b))
  (hok : e.ok C)
  (hres : ∀ (st' : St) (g' : Gh), st' = { st with rs := putR k0 (ver, res) st.rs } → g' = gput g k0 v fp → (∀ x y, AR st.cur g w (e.N st g) x y → AR st'.cur g' w' (e.N st' g') x y) → (∀ b, b < w.heap.size → ¬ e.N st g b → w'.heap[b]? = w.heap[b]? ∧ ¬ e.N st' g' b) → ResR st'.cur g' w' (e.N st' g') k0 res) :
  SR C e { st with rs := putR k0 (ver, res) st.rs } (gput g k0 v fp) a w' ∧ (∀ x y, AR st.cur g w (e.N st g) x y → AR ({ st with rs := putR k0 (ver, res) st.rs } : St).cur (gput g k0 v fp) w' (e.N { st with rs := putR k0 (ver, res) st.rs } (gput g k0 v fp)) x y) := by
 generalize hst : ({ st with rs := putR k0 (ver, res) st.rs } : St) = st' at *
 generalize hg' : gput g k0 v fp = g' at *
 have hlook : ∀ k, aB k st'.rs = if k = k0 then (ver, res) else aB k st.rs := fun k => by rw [← hst]; exact cX k k0 _ _
 have hgk : ∀ k, g' k = if k = k0 then v else g k := fun k => by rw [← hg']; rfl
 have hgf : ∀ k, g'.f k = if k = k0 then fp else g.f k := fun k => by rw [← hg']; rfl
 have hother : ∀ k, k ≠ k0 → blk st' g' k = blk st g k := fun k hk => xT (by rw [hlook, if_neg hk]) (by rw [hgk, if_neg hk]) (by rw [hgf, if_neg hk])
 have hself : ∀ b, blk st' g' k0 b → res ≠ .gone ∧ (bV v = some b ∨ b ∈ fp) := fun b hb => by
  simp only [blk, hlook, hgk, hgf, if_true] at hb
  exact hb
 have hown : ∀ b, b < w.heap.size → own st' g' b → own st g b := fun b hbs ⟨k, hk⟩ => by
  by_cases hkk : k = k0
  ·subst hkk
   obtain ⟨h1, h2⟩ := hself b hk
   rcases (hblk b h1 h2).2 with h3 | h3
   ·exact ⟨k, h3⟩
   ·omega
  ·rw [hother k hkk] at hk; exact ⟨k, hk⟩
 have hx : Ext w (own st g) w' (own st' g') := ⟨ho, ht, hp, hs, fun b hbs hn => ⟨hb b hbs (fun h1 => hn ⟨k0, h1⟩), fun h1 => hn (hown b hbs h1)⟩⟩
 have hc : ∀ k, st.cur k < st'.cur k ∨ st.cur k = st'.cur k ∧ g k = g' k := fun k => by
  by_cases hkk : k = k0
  ·subst hkk
   have : st'.cur k = ver := by simp [St.cur, hlook]
   rw [this, hgk, if_pos rfl]; exact hver
  ·right; exact ⟨by simp [St.cur, hlook, hkk], by rw [hgk, if_neg hkk]⟩
 have hl : ∀ x y, AR st.cur g w (e.N st g) x y → AR st'.cur g' w' (e.N st' g') x y := fun x y hxy => hxy.lift hx hc
 refine ⟨⟨h.defers, by rw [← hst]; exact h.size, fun d => ?_, fun k => ?_, fun k k' b hk hk' => ?_, fun k b hk => ?_, h.ext.trans hx, mY h.hist hc⟩, hl⟩
 ·have : st'.t = st.t := by rw [← hst]
  rw [this]; exact hl _ _ (h.temps d)
 ·by_cases hkk : k = k0
  ·subst hkk; rw [hlook, if_pos rfl]; exact hres st' g' rfl rfl hl (pC hx)
  ·rw [hlook, if_neg hkk]
   refine (h.res k).lift hx hc (by rw [hgk, if_neg hkk]) (by rw [hgf, if_neg hkk]) (fun hng b hb1 => ?_)
   have hbk : blk st g k b := ⟨hng, hb1⟩
   exact hb b (h.low k b hbk).2.1 (fun hcon => hkk (h.uniq k k0 b hbk hcon))
 ·by_cases h1 : k = k0 <;> by_cases h2 : k' = k0
  ·rw [h1, h2]
  ·subst h1
   rw [hother k' h2] at hk'
   obtain ⟨h3, h4⟩ := hself b hk
   rcases (hblk b h3 h4).2 with h5 | h5
   ·exact absurd (h.uniq k' k b hk' h5) h2
   ·have := (h.low k' b hk').2.1; omega
  ·subst h2
   rw [hother k h1] at hk
   obtain ⟨h3, h4⟩ := hself b hk'
   rcases (hblk b h3 h4).2 with h5 | h5
   ·exact absurd (h.uniq k k' b hk h5) h1
   ·have := (h.low k b hk).2.1; omega
  ·rw [hother k h1] at hk; rw [hother k' h2] at hk'; exact h.uniq k k' b hk hk'
 ·by_cases h1 : k = k0
  ·subst h1
   obtain ⟨h3, h4⟩ := hself b hk
   obtain ⟨h5, h6⟩ := hblk b h3 h4
   rcases h6 with h6 | h6
   ·exact ⟨(h.low k b h6).1, h5, (h.low k b h6).2.2⟩
   ·refine ⟨?_, h5, fun hav => ?_⟩
    ·have := hok.gs; have := h.ext.size; omega
    ·have := hok.av b hav; have := h.ext.size; omega
  ·rw [hother k h1] at hk
   obtain ⟨h3, h4, h5⟩ := h.low k b hk
   exact ⟨h3, by omega, h5⟩
structure Le (st st' : St) : Prop where
 n : st'.n = st.n
 t : ∀ d, bB d st'.t = .any ∨ bB d st'.t = bB d st.t
 r : ∀ k, aB k st'.rs = aB k st.rs ∨ (aB k st'.rs).2 = .gone ∧ (aB k st.rs).1 ≤ (aB k st'.rs).1
theorem SR.weaken {C : Ctx} {e : Env} {st st' : St} {g : Gh} {a : Act} {w : World} (h : SR C e st g a w) (hl : Le st st') : SR C e st' g a w := by
 have hbl : ∀ k b, blk st' g k b → blk st g k b := fun k b hb => by
  rcases hl.r k with h1 | ⟨h1, _⟩
  ·rw [← xT (st := st) (st' := st') (g := g) (g' := g) (by rw [h1]) rfl rfl]; exact hb
  ·exact absurd h1 hb.1
 have hown : ∀ b, own st' g b → own st g b := fun b ⟨k, hk⟩ => ⟨k, hbl k b hk⟩
 have hx : Ext w (own st g) w (own st' g) := ⟨rfl, rfl, rfl, Nat.le_refl _, fun b _ hb => ⟨rfl, fun h1 => hb (hown b h1)⟩⟩
 have hc : ∀ k, st.cur k < st'.cur k ∨ st.cur k = st'.cur k ∧ g k = g k := fun k => by
  rcases hl.r k with h1 | ⟨_, h1⟩
  ·exact .inr ⟨by simp only [St.cur, h1], rfl⟩
  ·rcases Nat.lt_or_ge (st.cur k) (st'.cur k) with h2 | h2
   ·exact .inl h2
   ·exact .inr ⟨Nat.le_antisymm h1 h2, rfl⟩
 refine ⟨h.defers, by rw [hl.n]; exact h.size, fun d => ?_, fun k => ?_, fun k k' b hk hk' => h.uniq k k' b (hbl k b hk) (hbl k' b hk'), fun k b hk => h.low k b (hbl k b hk), h.ext.trans hx, mY h.hist hc⟩
 ·rcases hl.t d with h1 | h1
  ·rw [h1]; exact .any _
  ·rw [h1]; exact (h.temps d).lift hx hc
 ·rcases hl.r k with h1 | ⟨h1, _⟩
  ·rw [h1]; exact (h.res k).lift hx hc rfl rfl (fun _ _ _ => rfl)
  ·rw [h1]; trivial
theorem S.weaken {C : Ctx} {e : Env} {st st' : St} {a : Act} {w : World} (h : S C e st a w) (hl : Le st st') : S C e st' a w := by
 obtain ⟨ho, g, h⟩ := h; exact ⟨ho, g, h.weaken hl⟩
def lwp (C : Ctx) (c : Code) (st : St) (K : Exit → St → Prop) : Prop :=
 ∀ (e : Env) (a : Act) (w : World), S C e st a w → c.wp C.P (fun x a' w' => ∃ st', S C e st' a' w' ∧ K x st') a w
theorem nF {C : Ctx} {c : Code} {st : St} {K K' : Exit → St → Prop} (h : lwp C c st K) (hk : ∀ x s, K x s → K' x s) : lwp C c st K' :=
 fun e a w hs => wp_mono (h e a w hs) fun x _ _ ⟨st', h1, h2⟩ => ⟨st', h1, hk x st' h2⟩
theorem Nn {C : Ctx} {c : Code} {st st' : St} {K : Exit → St → Prop} (hl : Le st st') (h : lwp C c st' K) : lwp C c st K :=
 fun e a w hs => h e a w (hs.weaken hl)
theorem Xl {C : Ctx} {st : St} {K : Exit → St → Prop} (h : K .normal st) : lwp C .skip st K := fun _ _ _ hs => wp_skip ⟨st, hs, h⟩
theorem Iy {C : Ctx} {st : St} {K : Exit → St → Prop} {id : Nat} (h : K (.exit id) st) : lwp C (.exit id) st K := fun _ _ _ hs => wp_exit ⟨st, hs, h⟩
theorem aHb {C : Ctx} {st : St} {K : Exit → St → Prop} (h : K .ret st) : lwp C .ret st K := fun _ _ _ hs => wp_ret ⟨st, hs, h⟩
def fX (next : St → Prop) (K : Exit → St → Prop) : Exit → St → Prop
 | .normal, s => next s
 | x, s => K x s
def Ou (id : Nat) (K : Exit → St → Prop) : Exit → St → Prop
 | .exit id', s => if id' = id then K .normal s else K (.exit id') s
 | x, s => K x s
theorem aF1 {C : Ctx} {x y : Code} {st : St} {K : Exit → St → Prop} (h : lwp C x st (fX (fun s => lwp C y s K) K)) : lwp C (.seq x y) st K := by
 intro e a w hs
 refine wp_seq (wp_mono (h e a w hs) ?_)
 rintro x a' w' ⟨st', h1, h2⟩
 cases x <;> first | exact h2 e a' w' h1 | exact ⟨st', h1, h2⟩
theorem Ul {C : Ctx} {c : Code} {id : Nat} {st : St} {K : Exit → St → Prop} (h : lwp C c st (Ou id K)) : lwp C (.block id c) st K := by
 intro e a w hs
 refine wp_block (wp_mono (h e a w hs) ?_)
 rintro x a' w' ⟨st', h1, h2⟩
 cases x with
 | exit id' =>
  simp only [Exit.inBlock, Ou] at h2 ⊢
  split
  ·rename_i hi; rw [if_pos hi] at h2; exact ⟨st', h1, h2⟩
  ·rename_i hi; rw [if_neg hi] at h2; exact ⟨st', h1, h2⟩
 | _ => exact ⟨st', h1, h2⟩
def ev (st : St) : Operand → AV
 | .tmp d => bB d st.t
 | .const v => .r (.v v)
 | .func f => .r (.fn f [])
 | .global _ => .any
theorem Qy {C : Ctx} {e : Env} {st : St} {g : Gh} {a : Act} {w : World} (h : SR C e st g a w) (x : Operand) : AR st.cur g w (e.N st g) (ev st x) (a.eval x) := by
 cases x with
 | tmp d => exact h.temps d
 | const v => exact .r (.v v)
 | func f => exact .r (.fn f [] #[] rfl (by simp))
 | global _ => exact .any _
theorem tI {cur : Nat → Nat} {g : Gh} {w : World} {N : Nat → Prop} {v u : Value} (h : AR cur g w N (.r (.v u)) v) : v = u := by
 cases h with | r h => cases h; rfl
theorem Wc {C : Ctx} {c : Operand} {x y : Code} {st : St} {K : Exit → St → Prop} {b : Bool} (hc : ev st c = .r (.v (.bool b)))
  (h : lwp C (if b then x else y) st K) : lwp C (.cond c x y) st K := by
 intro e a w hs
 obtain ⟨ho, g, hr⟩ := id hs
 have := Qy hr c
 rw [hc] at this
 exact wp_cond (tI this) (h e a w hs)
theorem aA3 {C : Ctx} {c : Code} {K : Exit → St → Prop} {α : Type} (I : α → Prop) (f : α → St) (μ : α → Nat) (x0 : α) {st : St} (hst : Le st (f x0)) (h0 : I x0)
  (round : ∀ x, I x → lwp C c (f x) (fX (fun s => ∃ y, I y ∧ μ y < μ x ∧ Le s (f y)) K)) : lwp C (.loop c) st K := by
 intro e a w hs
 refine wp_loop_ghost (fun n a w => ∃ x, μ x = n ∧ I x ∧ S C e (f x) a w) (μ x0) ⟨x0, rfl, h0, hs.weaken hst⟩ ?_
 rintro n a w ⟨x, rfl, hi, hx⟩
 refine wp_mono (round x hi e a w hx) ?_
 rintro q a' w' ⟨st', h1, h2⟩
 cases q with
 | normal => obtain ⟨y, hy, hlt, hle⟩ := h2; exact ⟨μ y, hlt, y, rfl, hy, h1.weaken hle⟩
 | _ => exact ⟨st', h1, h2⟩
def xN (st : St) (ins : List (Loc × Cont)) : Prop := ∀ l c, (l, c) ∈ ins → st.get l = c
def jI (C : Ctx) (o : Oper) (n : Nat) (ins outs : List (Loc × Cont)) : Prop :=
 ∀ (e : Env) (st : St) (a : Act) (w : World) (next : Act → World → Prop) (Q : Exit → Act → World → Prop), st.n = n → S C e st a w → xN st ins →
  (∀ a' w', S C e (st.upd outs) a' w' → next a' w') → o.wp C.P a w next Q
def lops (C : Ctx) (ops : Array Oper) (l : List Oper) (st : St) (K : St → Prop) : Prop :=
 ∀ (e : Env) (a : Act) (w : World) (Q : Exit → Act → World → Prop), S C e st a w → (∀ a' w' st', S C e st' a' w' → K st' → Q .normal a' w') → wpList C.P ops Q l a w
theorem Og {C : Ctx} {id : Nat} {ops : Array Oper} {st : St} {K : Exit → St → Prop} (h : lops C ops ops.toList st (K .normal)) : lwp C (.region id ops false) st K :=
 fun e a w hs => wp_region_list (h e a w _ hs fun _ _ st' h1 h2 => ⟨st', h1, h2⟩)
theorem aAl {C : Ctx} {ops : Array Oper} {st : St} {K : St → Prop} (h : K st) : lops C ops [] st K := fun _ _ _ _ hs hq => hq _ _ st hs h
theorem Jk {C : Ctx} {ops : Array Oper} {l : List Oper} {st st' : St} {K : St → Prop} (hl : Le st st') (h : lops C ops l st' K) : lops C ops l st K :=
 fun e a w Q hs => h e a w Q (hs.weaken hl)
theorem Ut {C : Ctx} {ops : Array Oper} {o : Oper} {l : List Oper} {st : St} {K : St → Prop} {ins outs : List (Loc × Cont)} (hg : o.guard = none) (hs : jI C o st.n ins outs) (ha : xN st ins)
  (h : lops C ops l (st.upd outs) K) : lops C ops (o :: l) st K := by
 intro e a w Q hS hq
 unfold wpList
 rw [if_pos (by simp [Region.wanted, hg])]
 exact .inl (hs e st a w _ Q rfl hS ha fun a' w' h' => h e a' w' Q h' hq)
theorem rD {ops : Array Oper} {j d : Nat} {tmps : Array Value} {b : Bool} (hd : (ops[j]?).bind (·.dst) = some d) (hv : tmps.getD d undef = .bool b) : yielded ops tmps j = some b := by
 simp only [yielded, hd]
 cases h : tmps[d]? with
 | none => simp [Array.getD_eq_getD_getElem?, h, undef] at hv
 | some x =>
  have : x = .bool b := by simpa [Array.getD_eq_getD_getElem?, h] using hv
  simp [h, this]
theorem Bc {C : Ctx} {ops : Array Oper} {o : Oper} {l : List Oper} {st : St} {K : St → Prop} {ins outs : List (Loc × Cont)} {j d : Nat} {b : Bool} (hg : o.guard = some (j, b)) (hd : (ops[j]?).bind (·.dst) = some d)
  (hv : bB d st.t = .r (.v (.bool b))) (hs : jI C o st.n ins outs) (ha : xN st ins)
  (h : lops C ops l (st.upd outs) K) : lops C ops (o :: l) st K := by
 intro e a w Q hS hq
 unfold wpList
 obtain ⟨ho, g, hr⟩ := id hS
 have h1 := hr.temps d
 rw [hv] at h1
 rw [if_pos (by simp [Region.wanted, hg, rD hd (tI h1)])]
 exact .inl (hs e st a w _ Q rfl hS ha fun a' w' h' => h e a' w' Q h' hq)
def bM (o : Oper) (st : St) : St :=
 match o.dst with
 | some d => { st with t := putT d (.r (.v (.tuple #[]))) st.t }
 | none => st
theorem Aj {C : Ctx} {e : Env} {st : St} {a : Act} {w : World} (o : Oper) (hd : ∀ d, o.dst = some d → d < st.n) (h : S C e st a w) : S C e (bM o st) (a.put o.dst undef) w := by
 obtain ⟨ho, g, hr⟩ := h
 unfold bM
 cases hdst : o.dst with
 | none => exact ⟨ho, g, hr⟩
 | some d => exact ⟨ho, g, hr.put (hd d hdst) (.r (.v _))⟩
theorem Dr {C : Ctx} {ops : Array Oper} {o : Oper} {l : List Oper} {st : St} {K : St → Prop} {j d : Nat} {b : Bool} (hg : o.guard = some (j, b)) (hd : (ops[j]?).bind (·.dst) = some d)
  (hv : bB d st.t = .r (.v (.bool !b))) (hdst : ∀ d, o.dst = some d → d < st.n)
  (h : lops C ops l (bM o st) K) : lops C ops (o :: l) st K := by
 intro e a w Q hS hq
 unfold wpList
 obtain ⟨ho, g, hr⟩ := id hS
 have h1 := hr.temps d
 rw [hv] at h1
 rw [if_neg (by simp [Region.wanted, hg, rD hd (tI h1)])]
 exact h e _ w Q (Aj o hdst hS) hq
theorem Ap {ops : Array Oper} {j d : Nat} {tmps : Array Value} {xs : Array Value} (hd : (ops[j]?).bind (·.dst) = some d) (hv : tmps.getD d undef = .tuple xs) : yielded ops tmps j = none := by
 simp only [yielded, hd]
 cases h : tmps[d]? with
 | none => simp [h]
 | some x =>
  have : x = .tuple xs := by simpa [Array.getD_eq_getD_getElem?, h] using hv
  simp [h, this]
theorem Jl {cur : Nat → Nat} {g : Gh} {w : World} {N : Nat → Prop} {xs : Array Value} {v : Value} (h : AR cur g w N (.r (.v (.tuple xs))) v) : v = .tuple xs := by
 cases h with | r h => cases h; rfl
theorem Dt {C : Ctx} {ops : Array Oper} {o : Oper} {l : List Oper} {st : St} {K : St → Prop} {j d : Nat} {b : Bool} {xs : Array Value} (hg : o.guard = some (j, b)) (hd : (ops[j]?).bind (·.dst) = some d)
  (hv : bB d st.t = .r (.v (.tuple xs))) (hdst : ∀ d, o.dst = some d → d < st.n)
  (h : lops C ops l (bM o st) K) : lops C ops (o :: l) st K := by
 intro e a w Q hS hq
 unfold wpList
 obtain ⟨ho, g, hr⟩ := id hS
 have h1 := hr.temps d
 rw [hv] at h1
 rw [if_neg (by simp [Region.wanted, hg, Ap hd (Jl h1)])]
 exact h e _ w Q (Aj o hdst hS) hq
theorem mS {C : Ctx} {o : Oper} {n d : Nat} {ins : List (Loc × Cont)} {x : AV} (hd : o.dst = some d) (hn : d < n)
  (h : ∀ (e : Env) (st : St) (g : Gh) (a : Act) (w : World), SR C e st g a w → xN st ins →
   ∃ v w', (execOp a.eval o).run C.P w = .ok (.value v) w' ∧ w'.heap = w.heap ∧ w'.os = w.os ∧ w'.tape = w.tape ∧ w'.output = w.output ∧ AR st.cur g w (e.N st g) x v) :
  jI C o n ins [(.T d, .a x)] := by
 intro e st a w next Q hn' ⟨ho, g, hr⟩ ha hnext
 obtain ⟨v, w', h1, hh, h2, h3, h4, h5⟩ := h e st g a w hr ha
 unfold Oper.wp
 rw [h1]
 show next (a.put o.dst v) w'
 refine hnext _ _ ⟨ho, g, ?_⟩
 rw [hd]
 show SR C e { st with t := putT d x st.t } g _ _
 exact (hr.put (by omega) h5).world hh h2 h3 h4
abbrev Iv (n : Int) : AV := .r (.v (.int .i64 n))
abbrev Bv (b : Bool) : AV := .r (.v (.bool b))
abbrev Sv (s : ByteArray) : AV := .r (.v (.string s))
abbrev Fv (b : Nat) : AV := .r (.v (.float .f64 b))
abbrev NilS : AV := .r (.v (.slice none 0 0))
def aO (P : Program) (t : Nat) : Nat := match P.info? t with | some i => i.size | none => 0
def aggT (P : Program) (t : Nat) : Bool := match P.underlying t with | some (.struct _) | some (.array _ _) => true | _ => false
def gH (P : Program) (t : Nat) : Option Value := match P.info? t with | some i => i.zero | none => none
def bE (P : Program) (s f : Nat) : Option (Nat × Nat) := match P.underlying s with
 | some (.struct fs) => match fs[f]? with | some x => some (x.offset, aO P x.type) | none => none
 | _ => none
def eZ (P : Program) (t : Nat) : Option Nat := match P.underlying t with | some (.slice e) => some e | _ => none
def arrT (P : Program) (t : Nat) : Option (Nat × Nat) := match P.underlying t with | some (.array n e) => some (n, e) | _ => none
def dX (P : Program) (t : Nat) : Nat := match P.info? t with | some i => i.bytes | none => 0
def intT (P : Program) (t : Nat) : Option IntKind := match P.underlying t with | some (.int k) => some k | _ => none
def Nm (P : Program) (t : Nat) : Option FloatKind := match P.underlying t with | some (.float k) => some k | _ => none
def Qf (P : Program) (t : Nat) : Bool := match P.underlying t with | some .bool => true | _ => false
def rA (P : Program) (t : Nat) : Bool := match P.underlying t with | some .string => true | _ => false
def ptrT (P : Program) (t : Nat) : Bool := match P.underlying t with | some (.pointer _) => true | _ => false
def mapT (P : Program) (t : Nat) : Option (Nat × Nat) := match P.underlying t with | some (.map k e) => some (k, e) | _ => none
def fC (P : Program) (t : Nat) : Bool := match P.underlying t with | some (.slice _) => true | _ => false
def bD (P : Program) (t : Nat) : Bool := (P.underlying t).isSome
def nZ (P : Program) (t : Nat) : Bool := match P.underlying t with | some (.struct _) => true | _ => false
def Rc (P : Program) (t : Nat) : Option (List (Nat × Nat)) := match P.underlying t with
 | some (.struct fs) => fs.toList.mapM (fun f => (P.info? f.type).map fun i => (f.offset, i.size))
 | _ => none
def bX (P : Program) (t i : Nat) : Option (Nat × Nat) := match P.underlying t with
 | some (.struct fs) => match fs[i]? with | some x => some (x.offset, aO P x.type) | none => none
 | some (.array _ e) => some (i * aO P e, aO P e)
 | _ => none
def jO (P : Program) (t : Nat) : Bool := match P.underlying t with
 | some (.struct _) => (Rc P t).isSome
 | some (.array _ e) => bD P e
 | _ => false
def oD (P : Program) (k : Nat → Option (List Nat)) : List Field → Nat → Nat → Option (List Nat)
 | [], off, n => if off = n then some [] else none
 | f :: fs, off, n =>
  if f.name = "_" ∨ f.offset ≠ off then none else
  match k f.type, oD P k fs (off + aO P f.type) n with
  | some a, some b => some (a ++ b)
  | _, _ => none
def fL (P : Program) : Nat → Nat → Option (List Nat)
 | 0, _ => none
 | d + 1, t =>
  match P.underlying t with
  | some (.int _) => if aO P t = 1 then some [0] else none
  | some .bool => if aO P t = 1 then some [1] else none
  | some .string => if aO P t = 1 then some [2] else none
  | some (.struct fs) => if P.stoodInHeld t = true then none else oD P (fL P d) fs.toList 0 (aO P t)
  | _ => none
def eq1 (k : Nat) (x y : AV) (K : Bool → Prop) : Prop :=
 match k, x, y with
 | 0, .r (.v (.int k a)), .r (.v (.int k' b)) => k = k' ∧ K (decide (a = b))
 | 1, .r (.v (.bool a)), .r (.v (.bool b)) => K (a == b)
 | 2, .r (.v (.string a)), .r (.v (.string b)) => K (a.toList == b.toList)
 | _, _, _ => False
def zV : List Nat → List AV → List AV → (Bool → Prop) → Prop
 | [], [], [], K => K true
 | k :: ks, x :: xs, y :: ys, K => eq1 k x y fun c => zV ks xs ys (fun t => K (c && t))
 | _, _, _, _ => False
def xK (op : BinOp) (x y : Nat) : Option Nat :=
 match op with
 | .add => FloatKind.f64.format.add x y
 | .sub => FloatKind.f64.format.sub x y
 | .mul => FloatKind.f64.format.mul x y
 | .quo => FloatKind.f64.format.div x y
 | _ => none
def zR (op : BinOp) (x y : Nat) : AV := match xK op x y with | some r => Fv r | none => .r .nan
def vJ (op : BinOp) (c : Option Ordering) (K : AV → Prop) : Prop :=
 match op with
 | .eql => K (Bv (c == some .eq))
 | .neq => K (Bv (c != some .eq))
 | .lss => K (Bv (c == some .lt))
 | .leq => K (Bv (c == some .lt || c == some .eq))
 | .gtr => K (Bv (c == some .gt))
 | .geq => K (Bv (c == some .gt || c == some .eq))
 | _ => False
def binI (op : BinOp) (k : IntKind) (a b : Int) (K : AV → Prop) : Prop :=
 match op with
 | .add => K (.r (.v (.int k (k.wrap (a + b)))))
 | .sub => K (.r (.v (.int k (k.wrap (a - b)))))
 | .mul => K (.r (.v (.int k (k.wrap (a * b)))))
 | .quo => b ≠ 0 ∧ K (.r (.v (.int k (k.wrap (a.tdiv b)))))
 | .rem => b ≠ 0 ∧ K (.r (.v (.int k (a.tmod b))))
 | .eql => K (Bv (decide (a = b)))
 | .neq => K (Bv (!decide (a = b)))
 | .lss => K (Bv (decide (a < b)))
 | .leq => K (Bv (decide (a ≤ b)))
 | .gtr => K (Bv (decide (b < a)))
 | .geq => K (Bv (decide (b ≤ a)))
 | _ => False
def binS (op : BinOp) (a b : ByteArray) (K : AV → Prop) : Prop :=
 match op with
 | .add => ((a.size + b.size : Nat) : Int) ≤ IntKind.i64.max ∧ K (Sv (a ++ b))
 | .eql => K (Bv (a.toList == b.toList))
 | .neq => K (Bv (!(a.toList == b.toList)))
 | .lss => K (Bv (Op.bytesLess a.toList b.toList))
 | .leq => K (Bv (Op.bytesLess a.toList b.toList || a.toList == b.toList))
 | .gtr => K (Bv (!(Op.bytesLess a.toList b.toList || a.toList == b.toList)))
 | .geq => K (Bv (!Op.bytesLess a.toList b.toList))
 | _ => False
def eqOr (op : BinOp) (K : AV → Prop) (b : Bool) : Prop :=
 match op with
 | .eql => K (Bv b)
 | .neq => K (Bv (!b))
 | _ => False
def Sd (P : Program) (op : BinOp) (t : Nat) (x y : AV) (K : AV → Prop) : Prop :=
 match x, y with
 | .r (.v (.int k a)), .r (.v (.int k' b)) => k = k' ∧ binI op k a b K
 | .r (.v (.bool a)), .r (.v (.bool b)) => Qf P t = true ∧ eqOr op K (a == b)
 | .r (.v (.string a)), .r (.v (.string b)) => binS op a b K
 | .r (.v (.float .f64 a)), .r (.v (.float .f64 b)) =>
  match op with
  | .add | .sub | .mul | .quo => K (zR op a b)
  | _ => vJ op (FloatKind.f64.format.order a b) K
 | .r .nan, .r (.v (.float .f64 _)) | .r (.v (.float .f64 _)), .r .nan | .r .nan, .r .nan => vJ op none K
 | .agg xs, .agg ys => nZ P t = true ∧ P.eqGuardType P.depth t = false ∧ match fL P 8 t with
  | some ks => zV ks xs ys (eqOr op K)
  | none => False
 | .r (.rs _ rows), .r (.v (.slice none 0 0)) => fC P t = true ∧ rows ≠ [] ∧ eqOr op K false
 | .r (.v (.slice none 0 0)), .r (.v (.slice none 0 0)) => fC P t = true ∧ eqOr op K true
 | .r (.rp _), .r (.v (.pointer none)) => ptrT P t = true ∧ eqOr op K false
 | .r (.v (.pointer none)), .r (.v (.pointer none)) => ptrT P t = true ∧ eqOr op K true
 | _, _ => False
def unAV (op : UnOp) (x : AV) (K : AV → Prop) : Prop :=
 match op, x with
 | .not, .r (.v (.bool b)) => K (Bv (!b))
 | .neg, .r (.v (.int k n)) => K (.r (.v (.int k (k.wrap (0 - n)))))
 | .neg, .r (.v (.float k b)) => K (.r (.v (.float k (Op.negFloat k b))))
 | _, _ => False
def Gk (P : Program) (src dst : Nat) (x : AV) (K : AV → Prop) : Prop :=
 match x with
 | .r (.v (.int _ n)) =>
  match intT P dst with
  | some k => bD P src = true ∧ K (.r (.v (.int k (k.wrap n))))
  | none => match Nm P dst with
   | some k => bD P src = true ∧ K (.r (.v (.float k (k.nearest n))))
   | none => False
 | .r (.v (.string s)) => rA P dst = true ∧ bD P src = true ∧ K (Sv s)
 | _ => False
def mA (b : Bool) (x y : AV) : AV :=
 match x, y with
 | .r (.v (.bool p)), .r (.v (.bool q)) => .r (.v (.bool (bif b then p else q)))
 | _, _ => bif b then x else y
def rd : List Operand → List Loc
 | [] => []
 | .tmp d :: l => .T d :: rd l
 | _ :: l => rd l
def avCells : AV → List AV
 | .agg cs => cs
 | x => [x]
def fQ : AV → Bool
 | .r (.v x) => x.oneCell'
 | .r .un => false
 | .r _ => true
 | .os _ _ | .rf _ _ _ | .re _ _ _ _ _ => true
 | _ => false
def cW : List AV → Bool
 | [] => true
 | x :: l => fQ x && cW l
def dR : List AV → Nat → List AV → List AV
 | cs, _, [] => cs
 | [], _, _ => []
 | _ :: cs, 0, v :: vs => v :: dR cs 0 vs
 | c :: cs, n + 1, vs => c :: dR cs n vs
def uB (P : Program) (t : Nat) (cs : List AV) (K : AV → Prop) : Prop :=
 bD P t = true ∧ match aggT P t with
 | true => aO P t ≤ cs.length ∧ K (.agg (cs.take (aO P t)))
 | false => match cs with
  | x :: _ => K x
  | [] => False
def bG (P : Program) (t : Nat) (K : List AV → Prop) : Prop :=
 match gH P t with
 | some z => K (z.cells.toList.map fun v => .r (.v v))
 | none => False
def roL : List AV → Option (List RV)
 | [] => some []
 | .r x :: l => match roL l with | some r => some (x :: r) | none => none
 | _ :: _ => none
def fnAV (f : Nat) (xs : List AV) : AV := match roL xs with | some r => .r (.fn f r) | none => .cl f xs
def Fh (P : Program) (t : Nat) : List (Nat × AV) → List AV → (List AV → Prop) → Prop
 | [], cs, K => K cs
 | (i, x) :: l, cs, K =>
  match bX P t i with
  | some (off, n) => cW (avCells x) = true ∧ (avCells x).length = n ∧ off + n ≤ cs.length ∧ Fh P t l (dR cs off (avCells x)) K
  | none => False
def Mt (sz : Nat) : List AV → (List (List AV) → Prop) → Prop
 | [], K => K []
 | x :: l, K => cW (avCells x) = true ∧ (avCells x).length = sz ∧ Mt sz l (fun r => K (avCells x :: r))
def srcK (st : St) (x : AV) (sz : Nat) (K : List Loc → List (List AV) → Prop) : Prop :=
 match x with
 | .r (.rs sz' rows) => sz' = sz ∧ K [] (rows.map fun r => r.map .r)
 | .r (.v (.slice none 0 0)) => K [] []
 | .os k ver => match aB k st.rs with
  | (cv, .sl _ sz' rows) => ver = cv ∧ sz' = sz ∧ K [.R k] rows
  | _ => False
 | _ => False
def nE : List (List AV) → Bool
 | [] => true
 | r :: l => cW r && nE l
theorem sN : ∀ {l : List AV}, cW l = true → ∀ c ∈ l, fQ c = true
 | x :: l, h, c, hc => by
  simp only [cW, Bool.and_eq_true] at h
  rcases List.mem_cons.1 hc with rfl | hc
  ·exact h.1
  ·exact sN h.2 c hc
theorem Av : ∀ {l : List (List AV)}, nE l = true → ∀ row ∈ l, ∀ c ∈ row, fQ c = true
 | r :: l, h, row, hr => by
  simp only [nE, Bool.and_eq_true] at h
  rcases List.mem_cons.1 hr with rfl | hr
  ·exact sN h.1
  ·exact Av h.2 row hr
def Aa (P : Program) (d t : Nat) (st : St) (s x : AV) (rds : List Loc) (K : List Loc → List (Loc × Cont) → Prop) : Prop :=
 match eZ P t with
 | none => False
 | some e => bD P e = true ∧ 0 < aO P e ∧ bG P e fun z => z.length = aO P e ∧ srcK st x (aO P e) fun rx news =>
  nE news = true ∧ match s with
  | .os k ver => match aB k st.rs with
   | (cv, .sl e' sz rows) => ver = cv ∧ e' = e ∧ sz = aO P e ∧ rows.length + news.length ≤ 9223372036854775807 ∧ (rows.length + news.length) * dX P e ≤ 140737488355328 ∧
    K (.R k :: (rx ++ rds)) [(.R k, .s (cv + 1) (.sl e sz (rows ++ news))), (.T d, .a (.os k (cv + 1)))]
   | _ => False
  | .r (.v (.slice none 0 0)) => news.length ≤ 9223372036854775807 ∧ news.length * dX P e ≤ 140737488355328 ∧
    K (.R d :: (rx ++ rds)) [(.R d, .s (st.cur d + 1) (.sl e (aO P e) news)), (.T d, .a (.os d (st.cur d + 1)))]
  | _ => False
def Rm (st : St) (P : Program) (t : Nat) (x : AV) (K : List Loc → AV → Prop) : Prop :=
 match x with
 | .r (.rs _ rows) => fC P t = true ∧ K [] (Iv rows.length)
 | .r (.v (.slice none 0 0)) => fC P t = true ∧ K [] (Iv 0)
 | .r (.ln n) => fC P t = true ∧ K [] (Iv n)
 | .r (.v (.string s)) => rA P t = true ∧ K [] (Iv s.size)
 | .os k ver => match aB k st.rs with
  | (cv, .sl _ _ rows) => ver = cv ∧ fC P t = true ∧ K [.R k] (Iv rows.length)
  | _ => False
 | _ => False
def rC (P : Program) (st : St) (t : Nat) (x : AV) (i : Int) (K : List Loc → AV → Prop) : Prop :=
 match x with
 | .r (.rs sz rows) => match eZ P t with
  | some e => aO P e = sz ∧ bD P e = true ∧ 0 ≤ i ∧ i < rows.length ∧ K [] (.r (.rp (rows.getD i.toNat [])))
  | none => False
 | .os k ver => match aB k st.rs, eZ P t with
  | (cv, .sl _ sz rows), some e => ver = cv ∧ aO P e = sz ∧ bD P e = true ∧ 0 ≤ i ∧ i < rows.length ∧ K [.R k] (.re k ver sz i.toNat 0)
  | _, _ => False
 | .r (.rp row) => match arrT P t with
  | some (n, e) => 0 ≤ i ∧ i < n ∧ bD P e = true ∧ i.toNat * aO P e < row.length ∧ K [] (.r (.rp (row.drop (i.toNat * aO P e))))
  | none => False
 | _ => False
def qP (P : Program) (st : St) (s f : Nat) (x : AV) (K : List Loc → AV → Prop) : Prop :=
 match bE P s f with
 | none => False
 | some (off, n) => n ≠ 0 ∧ match x with
  | .r (.rp row) => off < row.length ∧ K [] (.r (.rp (row.drop off)))
  | .os k ver => match aB k st.rs with
   | (cv, .bx _) => ver = cv ∧ K [.R k] (.rf k ver off)
   | _ => False
  | .rf k ver o => ver = st.cur k ∧ K [.R k] (.rf k ver (o + off))
  | .re k ver sz i o => ver = st.cur k ∧ K [.R k] (.re k ver sz i (o + off))
  | _ => False
def Hj (P : Program) (st : St) (t : Nat) (x : AV) (K : List Loc → AV → Prop) : Prop :=
 match x with
 | .r (.rp row) => uB P t (row.map .r) (K [])
 | .os k ver => match aB k st.rs with
  | (cv, .bx cells) => ver = cv ∧ uB P t cells (K [.R k])
  | _ => False
 | .rf k ver off => match aB k st.rs with
  | (cv, .bx cells) => ver = cv ∧ uB P t (cells.drop off) (K [.R k])
  | _ => False
 | .re k ver sz i off => match aB k st.rs with
  | (cv, .sl _ sz' rows) => ver = cv ∧ sz' = sz ∧ i < rows.length ∧ uB P t ((rows.getD i []).drop off) (K [.R k])
  | _ => False
 | _ => False
def Hb (P : Program) (st : St) (t : Nat) (x v : AV) (K : List Loc → List (Loc × Cont) → Prop) : Prop :=
 cW (avCells v) = true ∧ (avCells v).length = aO P t ∧ bD P t = true ∧
 match x with
 | .os k ver => match aB k st.rs with
  | (cv, .bx cells) => ver = cv ∧ aO P t ≤ cells.length ∧ K [.R k] [(.R k, .s cv (.bx (dR cells 0 (avCells v))))]
  | _ => False
 | .rf k ver off => match aB k st.rs with
  | (cv, .bx cells) => ver = cv ∧ off + aO P t ≤ cells.length ∧ K [.R k] [(.R k, .s cv (.bx (dR cells off (avCells v))))]
  | _ => False
 | .re k ver sz i off => match aB k st.rs with
  | (cv, .sl e sz' rows) => ver = cv ∧ sz' = sz ∧ i < rows.length ∧ off + aO P t ≤ sz ∧
    K [.R k] [(.R k, .s cv (.sl e sz (rows.set i (dR (rows.getD i []) off (avCells v)))))]
  | _ => False
 | _ => False
def sV (st : St) (x : AV) (K : List Loc → AV → Prop) : Prop :=
 match x with
 | .r (.rp row) => K [] (.r (.rp row))
 | .r (.fn f caps) => K [] (.r (.fn f caps))
 | .cl f caps => K [] (.cl f caps)
 | .os k ver => match aB k st.rs with
  | (cv, .bx _) => ver = cv ∧ K [.R k] (.os k ver)
  | _ => False
 | .rf k ver off => ver = st.cur k ∧ K [.R k] (.rf k ver off)
 | .re k ver sz i off => ver = st.cur k ∧ K [.R k] (.re k ver sz i off)
 | _ => False
def oC (st : St) (x : Option Operand) (dflt : Int) (K : Int → Prop) : Prop :=
 match x with
 | none => K dflt
 | some o => match ev st o with
  | .r (.v (.int _ n)) => K n
  | _ => False
def Hm (P : Program) (st : St) (t : Nat) (x : AV) (lo hi : Option Operand) (K : List Loc → List (Loc × Cont) → AV → Prop) : Prop :=
 match x with
 | .r (.rs sz rows) => match eZ P t with
  | some e => aO P e = sz ∧ bD P e = true ∧ oC st lo 0 fun l => oC st hi rows.length fun h => 0 ≤ l ∧ l ≤ h ∧ h ≤ rows.length ∧ K [] [] (.r (.rs sz ((rows.take h.toNat).drop l.toNat)))
  | none => False
 | .r (.v (.string s)) => rA P t = true ∧ oC st lo 0 fun l => oC st hi s.size fun h => 0 ≤ l ∧ l ≤ h ∧ h ≤ s.size ∧ K [] [] (Sv (s.extract l.toNat h.toNat))
 | .os k ver => match aB k st.rs, lo, eZ P t with
  | (cv, .sl e sz rows), none, some e' => ver = cv ∧ bD P e' = true ∧ oC st hi rows.length fun h => 0 ≤ h ∧ h ≤ rows.length ∧ K [.R k] [(.R k, .s (cv + 1) (.sl e sz (rows.take h.toNat)))] (.os k (cv + 1))
  | _, _, _ => False
 | _ => False
def valK (C : Ctx) (op : Op) (st : St) (K : List Loc → AV → Prop) : Prop :=
 match op with
 | .move x | .assign x => K (rd [x]) (ev st x)
 | .pick c a b => match ev st c with
  | .r (.v (.bool q)) => K (rd [c, a, b]) (mA q (ev st a) (ev st b))
  | _ => False
 | .binOp op t x y _ => Sd C.P op t (ev st x) (ev st y) (K (rd [x, y]))
 | .unOp op _ x => unAV op (ev st x) (K (rd [x]))
 | .convert s t x => Gk C.P s t (ev st x) (K (rd [x]))
 | .load t x => Hj C.P st t (ev st x) fun l r => K (l ++ rd [x]) r
 | .fieldAddr s x f => qP C.P st s f (ev st x) fun l r => K (l ++ rd [x]) r
 | .indexAddr t x i => match ev st i with
  | .r (.v (.int _ n)) => rC C.P st t (ev st x) n fun l r => K (l ++ rd [x, i]) r
  | _ => False
 | .index t x i => match ev st x, ev st i with
  | .r (.v (.string s)), .r (.v (.int _ n)) => rA C.P t = true ∧ 0 ≤ n ∧ n < s.size ∧ K (rd [x, i]) (.r (.v (.int .u8 (s.data.toList.getD n.toNat 0).toNat)))
  | .agg cs, .r (.v (.int _ n)) => match arrT C.P t with
   | some (len, e) => 0 ≤ n ∧ n < len ∧ bD C.P e = true ∧ uB C.P e (cs.drop (n.toNat * aO C.P e)) (K (rd [x, i]))
   | none => False
  | _, _ => False
 | .extract t i => match ev st t with
  | .tup xs => match xs[i]? with
   | some x => K (rd [t]) x
   | none => False
  | _ => False
 | .nilCheck x => sV st (ev st x) fun l r => K (l ++ rd [x]) r
 | .build t parts => jO C.P t = true ∧ bG C.P t fun z => Fh C.P t (parts.toList.map fun p => (p.1, ev st p.2)) z fun cs => K (rd (parts.toList.map (·.2))) (.agg cs)
 | .call c => match c.callee, c.args.toList, c.argTypes.toList with
  | .builtin .len, [x], [t] => Rm st C.P t (ev st x) fun l r => K (l ++ rd [x]) r
  | .builtin .min, [x, y], _ => match ev st x, ev st y with
   | .r (.v (.int k a)), .r (.v (.int k' b)) => k = k' ∧ K (rd [x, y]) (.r (.v (.int k (if b < a then b else a))))
   | _, _ => False
  | .builtin .max, [x, y], _ => match ev st x, ev st y with
   | .r (.v (.int k a)), .r (.v (.int k' b)) => k = k' ∧ K (rd [x, y]) (.r (.v (.int k (if b > a then b else a))))
   | _, _ => False
  | _, _, _ => False
 | _ => False
def roK : List AV → (List RV → Prop) → Prop
 | [], K => K []
 | .r x :: l, K => roK l (fun r => K (x :: r))
 | _, _ => False
def opK (C : Ctx) (o : Oper) (st : St) (K : List Loc → List (Loc × Cont) → Prop) : Prop :=
 match o.dst with
 | none => match o.op with
  | .store t x v => Hb C.P st t (ev st x) (ev st v) fun l outs => K (l ++ rd [x, v]) outs
  | _ => False
 | some d => d < st.n ∧ match o.op with
  | .alloc t => bD C.P t = true ∧ bG C.P t fun z => cW z = true ∧ K [.R d] [(.R d, .s (st.cur d + 1) (.bx z)), (.T d, .a (.os d (st.cur d + 1)))]
  | .box _ x => cW (avCells (ev st x)) = true ∧ K (.R d :: rd [x]) [(.R d, .s (st.cur d + 1) (.bx (avCells (ev st x)))), (.T d, .a (.os d (st.cur d + 1)))]
  | .buildSlice t len parts => match eZ C.P t with
   | some e => bD C.P e = true ∧ 0 < aO C.P e ∧ (gH C.P e).isSome = true ∧ len * aO C.P e ≤ 16777216 ∧ parts.toList.map (·.1) = List.range len ∧ Mt (aO C.P e) (parts.toList.map fun p => ev st p.2) fun rows =>
     K (.R d :: rd (parts.toList.map (·.2))) [(.R d, .s (st.cur d + 1) (.sl e (aO C.P e) rows)), (.T d, .a (.os d (st.cur d + 1)))]
   | none => False
  | .slice t x lo hi none => Hm C.P st t (ev st x) lo hi fun l outs r => K (l ++ rd (x :: (lo.toList ++ hi.toList))) (outs ++ [(.T d, .a r)])
  | .makeSlice t l c => match eZ C.P t, ev st l, ev st c with
   | some e, .r (.v (.int .i64 n)), .r (.v (.int .i64 m)) => bD C.P e = true ∧ 0 < aO C.P e ∧ 0 ≤ n ∧ n ≤ m ∧ m ≤ 9223372036854775807 ∧ dX C.P e * m ≤ 281474976710656 ∧ bG C.P e fun z => z.length = aO C.P e ∧ cW z = true ∧
     K (.R d :: rd [l, c]) [(.R d, .s (st.cur d + 1) (.sl e (aO C.P e) (List.replicate n.toNat z))), (.T d, .a (.os d (st.cur d + 1)))]
   | _, _, _ => False
  | .makeFunc (.func f) first captured => first.toList = [] ∧ K (rd captured.toList) [(.T d, .a (fnAV f (captured.toList.map (ev st))))]
  | .makeMap _ none => K [.R d] [(.R d, .s (st.cur d + 1) (.mp (fun _ => none) 0)), (.T d, .a (.os d (st.cur d + 1)))]
  | .call c => match c.callee, c.args.toList, c.argTypes.toList with
   | .builtin .append, [s, x], [t, t'] => t = t' ∧ Aa C.P d t st (ev st s) (ev st x) (rd [s, x]) K
   | _, _, _ => valK C o.op st fun l x => K l [(.T d, .a x)]
  | _ => valK C o.op st fun l x => K l [(.T d, .a x)]
section
variable {P : Program}
theorem uU {t : Nat} (h : bD P t = true) : ∃ d i, P.underlying t = some d ∧ P.info? t = some i := by
 unfold bD at h
 cases hu : P.underlying t with
 | none => simp [hu] at h
 | some d =>
  refine ⟨d, ?_⟩
  cases hi : P.info? t with
  | none => simp [Program.underlying, hi] at hu
  | some i => exact ⟨i, rfl, rfl⟩
theorem dN {t : Nat} (h : bD P t = true) (w : World) : (sizeOf t).run P w = .ok (aO P t) w := by
 obtain ⟨d, i, hu, hi⟩ := uU h
 simp [sizeOf, typeInfo, hi, aO]
theorem uQ {t : Nat} (h : bD P t = true) (w : World) : (isAgg t).run P w = .ok (aggT P t) w := by
 obtain ⟨d, i, hu, hi⟩ := uU h
 simp only [isAgg, Sem.run_bind, run_underlying hu, Result.andThen_ok, aggT, hu]
 cases d <;> rfl
theorem qI {t e : Nat} (h : eZ P t = some e) : P.underlying t = some (.slice e) := by
 unfold eZ at h
 split at h <;> simp_all
theorem aAc {t n e : Nat} (h : arrT P t = some (n, e)) : P.underlying t = some (.array n e) := by
 unfold arrT at h
 split at h <;> simp_all
theorem kS {t : Nat} (h : fC P t = true) : ∃ e, P.underlying t = some (.slice e) := by
 unfold fC at h
 split at h
 ·rename_i e he; exact ⟨e, he⟩
 ·cases h
theorem qS {t : Nat} (h : rA P t = true) : P.underlying t = some .string := by
 unfold rA at h
 split at h
 ·assumption
 ·cases h
theorem Yd {t : Nat} (h : Qf P t = true) : P.underlying t = some .bool := by
 unfold Qf at h
 split at h
 ·assumption
 ·cases h
theorem Sf {t : Nat} (h : ptrT P t = true) : ∃ e, P.underlying t = some (.pointer e) := by
 unfold ptrT at h
 split at h
 ·rename_i e he; exact ⟨e, he⟩
 ·cases h
theorem aG8 {t : Nat} {k : IntKind} (h : intT P t = some k) : P.underlying t = some (.int k) := by
 unfold intT at h
 split at h <;> simp_all
theorem Vp {t : Nat} {k : FloatKind} (h : Nm P t = some k) : P.underlying t = some (.float k) := by
 unfold Nm at h
 split at h <;> simp_all
theorem Pf {t : Nat} (h : nZ P t = true) : ∃ fs, P.underlying t = some (.struct fs) := by
 unfold nZ at h
 split at h
 ·rename_i fs he; exact ⟨fs, he⟩
 ·cases h
theorem Zp {s f off n : Nat} (h : bE P s f = some (off, n)) : ∃ fs x, P.underlying s = some (.struct fs) ∧ fs[f]? = some x ∧ x.offset = off ∧ aO P x.type = n := by
 unfold bE at h
 split at h
 ·rename_i fs hu
  split at h
  ·rename_i x hx
   simp only [Option.some.injEq, Prod.mk.injEq] at h
   exact ⟨fs, x, hu, hx, h.1, h.2⟩
  ·cases h
 ·cases h
theorem Eb {t n : Nat} (h : aO P t = n) (hn : n ≠ 0) : ∃ i, P.info? t = some i ∧ i.size = n := by
 unfold aO at h
 split at h
 ·rename_i i hi; exact ⟨i, hi, h⟩
 ·omega
end
def Held (cur : Nat → Nat) (g : Gh) (w : World) (N : Nat → Prop) (v : Value) (cs : List AV) : Prop :=
 ∃ (a : Addr) (c : Nat → Value), v = .pointer (some a) ∧ (cs ≠ [] → a.spot = none) ∧ ∀ j x, cs[j]? = some x → w.cell? ⟨a.block, a.off + j, none⟩ = some (c j) ∧ AR cur g w N x (c j)
def Sn (P : Program) (t : Nat) (cs : List AV) (r : AV) : Prop :=
 bD P t = true ∧ ((aggT P t = true ∧ aO P t ≤ cs.length ∧ r = .agg (cs.take (aO P t))) ∨ (aggT P t = false ∧ ∃ rest, cs = r :: rest))
theorem nA {P : Program} {t : Nat} {cs : List AV} {K : AV → Prop} (h : uB P t cs K) : ∃ r, K r ∧ Sn P t cs r := by
 unfold uB at h
 obtain ⟨hk, h⟩ := h
 cases ha : aggT P t with
 | true => simp only [ha] at h; exact ⟨_, h.2, hk, .inl ⟨ha, h.1, rfl⟩⟩
 | false =>
  simp only [ha] at h
  cases cs with
  | nil => exact h.elim
  | cons x l => exact ⟨x, h, hk, .inr ⟨ha, l, rfl⟩⟩
theorem Iu : ∀ {cells : List AV} {row : List RV}, roL cells = some row → cells = row.map .r
 | [], row, h => by cases h; rfl
 | .r x :: l, row, h => by
  unfold roL at h
  cases hl : roL l with
  | none => rw [hl] at h; cases h
  | some r => rw [hl] at h; cases h; rw [Iu hl]; rfl
 | .os _ _ :: _, _, h => by cases h
 | .rf _ _ _ :: _, _, h => by cases h
 | .re _ _ _ _ _ :: _, _, h => by cases h
 | .agg _ :: _, _, h => by cases h
 | .tup _ :: _, _, h => by cases h
 | .any :: _, _, h => by cases h
 | .cl _ _ :: _, _, h => by cases h
 | .nd _ _ _ :: _, _, h => by cases h
theorem jG (b o n : Nat) : (⟨b, o, none⟩ : Addr).add n = ⟨b, o + n, none⟩ := Addr.add_lit b o n
theorem nK {a : Addr} (h : a.spot = none) : a = ⟨a.block, a.off, none⟩ := by cases a; simp_all
theorem lL {P : Program} {t : Nat} {cs : List AV} {r : AV} {cur : Nat → Nat} {g : Gh} {w : World} {N : Nat → Prop} {v : Value}
  (hl : Sn P t cs r) (hv : Held cur g w N v cs) : ∃ u, (Instr.loadAt t v).run P w = .ok u w ∧ AR cur g w N r u := by
 obtain ⟨a, c, rfl, hsp, hc⟩ := hv
 obtain ⟨hk, hl⟩ := hl
 simp only [Instr.loadAt, Instr.sureAddr, loadVar, Sem.run_bind, Sem.run_pure, Result.andThen_ok, uQ hk]
 rcases hl with ⟨ha, hn, rfl⟩ | ⟨ha, rest, rfl⟩
 ·simp only [ha, if_true, Sem.run_bind, dN hk, Result.andThen_ok]
  by_cases h0 : aO P t = 0
  ·refine ⟨.agg #[], ?_, ?_⟩
   ·simp [h0, loadCells, loadCellsFrom]
   ·rw [h0]; exact .agg _ _ (by simp) (by simp)
  ·have hne : cs ≠ [] := by intro e; simp [e] at hn; omega
   rw [nK (hsp hne)]
   rw [run_loadCells (P := P) w ⟨a.block, a.off, none⟩ (aO P t) c (fun j hj => by
    rw [jG]; exact (hc j cs[j] (List.getElem?_eq_getElem (by omega))).1)]
   refine ⟨_, rfl, .agg _ _ (by simp; omega) (fun j x y hx hy => ?_)⟩
   have hj : j < aO P t := by
    rcases Nat.lt_or_ge j (aO P t) with h | h
    ·exact h
    ·rw [List.getElem?_eq_none (by simp; omega)] at hx; cases hx
   rw [List.getElem?_take_of_lt hj] at hx
   have : y = c j := by simpa [hj] using hy.symm
   rw [this]; exact (hc j x hx).2
 ·simp only [ha]
  have h0 := hc 0 r (by simp)
  rw [nK (hsp (by simp))]
  simp only [Nat.add_zero] at h0
  exact ⟨c 0, by simp [h0.1], h0.2⟩
theorem aJ8 {w : World} {N : Nat → Prop} {x : RV} {v : Value} (h : RR w N x v) (hx : fQ (.r x) = true) : v.oneCell' = true := by
 cases h <;> first | rfl | exact hx | cases hx
theorem Nq {cur : Nat → Nat} {g : Gh} {w : World} {N : Nat → Prop} {x : AV} {v : Value} (h : AR cur g w N x v) (hx : fQ x = true) : v.oneCell' = true := by
 cases h with
 | r h => exact aJ8 h hx
 | os _ _ _ h1 _ => exact h1
 | rf _ _ _ _ h1 _ => exact h1
 | re _ _ _ _ _ _ h1 _ => exact h1
 | agg _ _ _ _ => simp [fQ] at hx
 | tup _ _ _ _ => simp [fQ] at hx
 | any _ => simp [fQ] at hx
 | cl _ _ _ _ _ => simp [fQ] at hx
 | nd _ _ _ _ => simp [fQ] at hx
theorem rY {cur : Nat → Nat} {g : Gh} {w : World} {N : Nat → Prop} {x : AV} {v : Value} (h : AR cur g w N x v) (hx : cW (avCells x) = true) :
  v.cells.size = (avCells x).length ∧ (∀ (j : Nat) (y : AV) (u : Value), (avCells x)[j]? = some y → v.cells[j]? = some u → AR cur g w N y u) ∧ ∀ u ∈ v.cells.toList, u.oneCell' = true := by
 have one : ∀ (x : AV) (v : Value), AR cur g w N x v → fQ x = true → avCells x = [x] → v.cells.size = (avCells x).length ∧ (∀ (j : Nat) (y : AV) (u : Value), (avCells x)[j]? = some y → v.cells[j]? = some u → AR cur g w N y u) ∧ ∀ u ∈ v.cells.toList, u.oneCell' = true := by
  intro x v h hx e
  have h1 := Nq h hx
  have h2 : v.cells = #[v] := by cases v <;> first | rfl | simp [Value.oneCell'] at h1
  rw [e, h2]
  refine ⟨rfl, fun j y u hy hu => ?_, by simpa using h1⟩
  cases j with
  | zero => simp at hy hu; subst hy; subst hu; exact h
  | succ j => simp at hy
 cases h with
 | agg cs xs hs hh =>
  refine ⟨hs, hh, fun u hu => ?_⟩
  obtain ⟨j, hj, rfl⟩ := List.getElem_of_mem hu
  have hj' : j < cs.length := by simpa [Value.cells, hs] using hj
  have h1 := hh j cs[j] xs[j]! (List.getElem?_eq_getElem hj') (by simp [Value.cells] at hj; simp [hj])
  have h2 : fQ cs[j] = true := by
   have : ∀ (l : List AV), cW l = true → ∀ j (hj : j < l.length), fQ l[j] = true := by
    intro l; induction l with
    | nil => intro _ j hj; simp at hj
    | cons y l ih =>
     intro h j hj
     simp only [cW, Bool.and_eq_true] at h
     cases j with
     | zero => exact h.1
     | succ j => exact ih h.2 j (by simpa using hj)
   exact this cs hx j hj'
  have h3 := Nq h1 h2
  simp [Value.cells] at hj
  simpa [Value.cells, hj] using h3
 | tup cs xs hs hh => simp [avCells, cW, fQ] at hx
 | any v => simp [avCells, cW, fQ] at hx
 | cl _ _ _ _ _ => simp [avCells, cW, fQ] at hx
 | nd _ _ _ _ => simp [avCells, cW, fQ] at hx
 | r h => exact one _ _ (.r h) (by simpa [avCells, cW] using hx) rfl
 | os k ver v h1 h => exact one _ _ (.os k ver v h1 h) rfl rfl
 | rf k ver off v h1 h => exact one _ _ (.rf k ver off v h1 h) rfl rfl
 | re k ver sz i off v h1 h => exact one _ _ (.re k ver sz i off v h1 h) rfl rfl
structure Fine (w w' : World) : Prop where
 heap : w'.heap = w.heap
 os : w'.os = w.os
 tape : w'.tape = w.tape
 output : w'.output = w.output
theorem Fine.refl (w : World) : Fine w w := ⟨rfl, rfl, rfl, rfl⟩
theorem cC {cur : Nat → Nat} {g : Gh} {w : World} {N : Nat → Prop} {v u : Value} (h : AR cur g w N (.r (.v u)) v) : v = u := tI h
theorem Ai {cur : Nat → Nat} {g : Gh} {w : World} {N : Nat → Prop} {v : Value} (h : AR cur g w N (.r .nan) v) : ∃ b, v = .float .f64 b ∧ oR b := by
 cases h with | r h => cases h with | nan b h => exact ⟨b, rfl, h⟩
theorem sM {x y : Nat} (h : oR x) : FloatKind.f64.format.order x y = none := by
 unfold oR Ieee.Format.order at *
 generalize FloatKind.f64.format.read x = p at *
 generalize FloatKind.f64.format.read y = q at *
 cases p <;> simp [Ieee.Datum.order] at h ⊢
theorem zN {x y : Nat} (h : oR y) : FloatKind.f64.format.order x y = none := by
 unfold oR Ieee.Format.order at *
 generalize FloatKind.f64.format.read x = p at *
 generalize FloatKind.f64.format.read y = q at *
 cases q <;> cases p <;> simp [Ieee.Datum.order] at h ⊢
theorem aFq (t x y : Nat) : oR ((Question.nanBits .f64 x y).cut t) := by
 simp only [oR, Ieee.Format.order, Question.cut]
 generalize hn : t / 2 % (2 ^ 52 - 1) = n
 have hlt : n < 2 ^ 52 - 1 := by rw [← hn]; exact Nat.mod_lt _ (by decide)
 have h2 : t % 2 < 2 := Nat.mod_lt _ (by decide)
 generalize t % 2 = b at *
 have hr : ∃ s f, FloatKind.f64.format.read (b * 2 ^ 63 + 9218868437227405312 + 1 + n) = .nan s f := by
  have h63 : FloatKind.f64.format.signWeight = 9223372036854775808 := by decide
  have hb : FloatKind.f64.format.binade = 4503599627370496 := by decide
  have hi : FloatKind.f64.format.infRung = 9218868437227405312 := by decide
  generalize FloatKind.f64.format = f at *
  refine ⟨(b * 2 ^ 63 + 9218868437227405312 + 1 + n) / f.signWeight % 2 == 1, (b * 2 ^ 63 + 9218868437227405312 + 1 + n) % f.signWeight - f.infRung, ?_⟩
  have e : (b * 2 ^ 63 + 9218868437227405312 + 1 + n) % f.signWeight = 9218868437227405312 + 1 + n := by rw [h63]; omega
  unfold Ieee.Format.read
  simp only [e, hb, hi]
  rw [if_neg (by omega), if_neg (by omega), if_neg (by omega)]
 obtain ⟨s, f, hr⟩ := hr
 rw [hr]; rfl
theorem xA {P : Program} {op : BinOp} {t : Nat} {x y : Operand} {a b : Value} {w : World} (h : (∀ cs, a ≠ .agg cs) ∨ (∀ cs, b ≠ .agg cs)) (h2 : a ≠ .nilIface ∨ b ≠ .nilIface) : (eqGuard op t x y a b).run P w = .ok () w := by
 unfold eqGuard
 cases op <;> simp only [Bool.not_false, Bool.not_true, if_true, Bool.false_eq_true, if_false, Sem.run_pure] <;> (split <;> first | rfl | simp_all)
theorem Ik {P : Program} {op : BinOp} {t : Nat} {K : AV → Prop} {b : Bool} {x y : Value} (h : eqOr op K b) (hx : ∀ k n, x ≠ .int k n) (hf : ∀ k n, x ≠ .float k n) (hs : ∀ s, x ≠ .string s) (hc : ∀ k a b, x ≠ .complex k a b)
  (he : ∀ w, (Op.equal t x y).run P w = .ok b w) : ∃ c, K (Bv c) ∧ ∀ w, (binOp op t x y).run P w = .ok (.bool c) w := by
 cases op <;> first | exact h.elim | skip
 ·refine ⟨b, h, fun w => ?_⟩
  have : binOp .eql t x y = (do pure (.bool (← Op.equal t x y))) := by
   unfold binOp; split <;> first | rfl | simp_all
  rw [this]; simp [he]
 ·refine ⟨!b, h, fun w => ?_⟩
  have : binOp .neq t x y = (do pure (.bool (!(← Op.equal t x y)))) := by
   unfold binOp; split <;> first | rfl | simp_all
  rw [this]; simp [he]
def eqL : List Value → List Value → Bool
 | .int _ a :: xs, .int _ b :: ys => (a == b) && eqL xs ys
 | .bool a :: xs, .bool b :: ys => (a == b) && eqL xs ys
 | .string a :: xs, .string b :: ys => (a.toList == b.toList) && eqL xs ys
 | [], [] => true
 | _, _ => false
def conf : List Nat → List Value → List Value → Prop
 | [], [], [] => True
 | 0 :: ks, .int k _ :: xs, .int k' _ :: ys => k = k' ∧ conf ks xs ys
 | 1 :: ks, .bool _ :: xs, .bool _ :: ys => conf ks xs ys
 | 2 :: ks, .string _ :: xs, .string _ :: ys => conf ks xs ys
 | _, _, _ => False
theorem xL : ∀ {a b : List Nat} {xs ys : List Value}, conf (a ++ b) xs ys → conf a (xs.take a.length) (ys.take a.length) ∧ conf b (xs.drop a.length) (ys.drop a.length) ∧ eqL xs ys = (eqL (xs.take a.length) (ys.take a.length) && eqL (xs.drop a.length) (ys.drop a.length)) ∧ a.length ≤ xs.length ∧ a.length ≤ ys.length
 | [], b, xs, ys, h => by simpa [conf, eqL] using h
 | k :: a, b, xs, ys, h => by
  simp only [List.cons_append] at h
  unfold conf at h
  split at h <;> first | (exact h.elim) | skip
  all_goals simp_all only [List.cons.injEq, reduceCtorEq, false_and]
  all_goals (rename_i h0; obtain ⟨rfl, rfl⟩ := h0)
  ·obtain ⟨h1, h2⟩ := h
   obtain ⟨i1, i2, i3, i4, i5⟩ := xL h2
   simp [conf, eqL, h1, i1, i2, i3, i4, i5, Bool.and_assoc]
  ·obtain ⟨i1, i2, i3, i4, i5⟩ := xL h
   simp [conf, eqL, i1, i2, i3, i4, i5, Bool.and_assoc]
  ·obtain ⟨i1, i2, i3, i4, i5⟩ := xL h
   simp [conf, eqL, i1, i2, i3, i4, i5, Bool.and_assoc]
theorem wR : ∀ {ks : List Nat} {xs ys : List Value}, conf ks xs ys → xs.length = ks.length ∧ ys.length = ks.length
 | [], xs, ys, h => by unfold conf at h; split at h <;> simp_all
 | k :: ks, xs, ys, h => by
  unfold conf at h
  split at h <;> first | (exact h.elim) | skip
  all_goals simp_all only [List.cons.injEq, reduceCtorEq, false_and]
  all_goals (rename_i h0; obtain ⟨rfl, rfl⟩ := h0)
  ·have := wR h.2; simp [this]
  ·have := wR h; simp [this]
  ·have := wR h; simp [this]
section
variable {P : Program}
theorem zF {k : Nat → Option (List Nat)} (hk : ∀ t a, k t = some a → a.length = aO P t) {n : Nat} : ∀ {fs : List Field} {off : Nat} {ks : List Nat}, oD P k fs off n = some ks → off + ks.length = n
 | [], off, ks, h => by
  unfold oD at h
  split at h
  ·rename_i e; simp at h; subst h; simpa using e
  ·cases h
 | f :: fs, off, ks, h => by
  unfold oD at h
  split at h
  ·cases h
  ·split at h
   ·rename_i a b h1 h2
    simp at h; subst h
    have := hk _ _ h1
    have := zF hk h2
    simp; omega
   ·cases h
theorem Ba : ∀ {d t : Nat} {ks : List Nat}, fL P d t = some ks → ks.length = aO P t
 | 0, _, _, h => by simp [fL] at h
 | d + 1, t, ks, h => by
  unfold fL at h
  split at h
  ·split at h <;> simp_all; subst h; rfl
  ·split at h <;> simp_all; subst h; rfl
  ·split at h <;> simp_all; subst h; rfl
  ·split at h
   ·cases h
   ·have := zF (fun t a => Ba) h; omega
  ·cases h
def valT (P : Program) (t : Nat) (xs : Array Value) : Value := match aggT P t with | true => .agg xs | false => xs.getD 0 undef
theorem Jp {t : Nat} (hk : bD P t = true) (xs : Array Value) (off : Nat) (w : World) (h : aggT P t = true ∨ off < xs.size ∧ 0 < aO P t) :
  (part t xs off).run P w = .ok (valT P t (xs.extract off (off + aO P t))) w := by
 simp only [part, Sem.run_bind, uQ hk, Result.andThen_ok, valT]
 cases ha : aggT P t with
 | true => simp [dN hk]
 | false =>
  rcases h with h | ⟨h, h0⟩
  ·simp [ha] at h
  ·have : xs[off]? = some xs[off] := Array.getElem?_eq_getElem h
   simp only [Bool.false_eq_true, if_false, this, Sem.run_pure]
   congr 1
   have h1 : min (off + aO P t) xs.size - off > 0 := by omega
   simp [Array.getD_eq_getD_getElem?, Array.getElem?_extract, h1, h]
theorem Iz {d t : Nat} {ks : List Nat} (h : fL P d t = some ks) : bD P t = true := by
 cases d with
 | zero => simp [fL] at h
 | succ d => unfold fL at h; unfold bD; split at h <;> simp_all
theorem aTj {xs ys : List Value} (h : conf [0] xs ys) : ∃ k a b, xs = [.int k a] ∧ ys = [.int k b] := by
 rcases xs with _ | ⟨x, _ | ⟨x2, xs⟩⟩ <;> rcases ys with _ | ⟨y, _ | ⟨y2, ys⟩⟩ <;> (try cases x) <;> (try cases y) <;> simp_all [conf]
theorem aTk {xs ys : List Value} (h : conf [1] xs ys) : ∃ a b, xs = [.bool a] ∧ ys = [.bool b] := by
 rcases xs with _ | ⟨x, _ | ⟨x2, xs⟩⟩ <;> rcases ys with _ | ⟨y, _ | ⟨y2, ys⟩⟩ <;> (try cases x) <;> (try cases y) <;> simp_all [conf]
theorem aS6 {xs ys : List Value} (h : conf [2] xs ys) : ∃ a b, xs = [.string a] ∧ ys = [.string b] := by
 rcases xs with _ | ⟨x, _ | ⟨x2, xs⟩⟩ <;> rcases ys with _ | ⟨y, _ | ⟨y2, ys⟩⟩ <;> (try cases x) <;> (try cases y) <;> simp_all [conf]
theorem nV {d D : Nat} (ih : ∀ {t : Nat} {ks : List Nat}, fL P d t = some ks → ∀ (xs ys : Array Value), conf ks xs.toList ys.toList → ∀ (w : World), (Op.equalIn D t (valT P t xs) (valT P t ys)).run P w = .ok (eqL xs.toList ys.toList) w)
  {n : Nat} (xs ys : Array Value) (w : World) : ∀ {fs : List Field} {off : Nat} {ks : List Nat}, oD P (fL P d) fs off n = some ks → conf ks (xs.toList.drop off) (ys.toList.drop off) →
  (Op.eqFields D xs ys fs).run P w = .ok (eqL (xs.toList.drop off) (ys.toList.drop off)) w
 | [], off, ks, h, hc => by
  unfold oD at h
  split at h
  ·simp at h; subst h
   obtain ⟨h1, h2⟩ := wR hc
   rw [List.length_eq_zero_iff.1 h1, List.length_eq_zero_iff.1 h2]
   rfl
  ·cases h
 | f :: fs, off, ks, h, hc => by
  unfold oD at h
  split at h
  ·cases h
  ·rename_i hn
   split at h
   ·rename_i a b h1 h2
    simp at h; subst h
    obtain ⟨c1, c2, c3, c4, c5⟩ := xL hc
    have hk := Iz h1
    have hl := Ba h1
    rw [hl] at c1 c2 c3 c4 c5
    have hname : f.name ≠ "_" := fun e => hn (.inl e)
    have hoff : f.offset = off := Classical.byContradiction fun e => hn (.inr e)
    have hpos : aggT P f.type = true ∨ off < xs.size ∧ 0 < aO P f.type := by
     cases ha : aggT P f.type with
     | true => exact .inl rfl
     | false =>
      right
      have hl1 : a.length = 1 := by
       cases d with
       | zero => simp [fL] at h1
       | succ d =>
        unfold fL at h1
        unfold aggT at ha
        split at h1 <;> simp_all
        all_goals (obtain ⟨_, rfl⟩ := h1; rfl)
      simp at c4
      omega
    have hpos' : aggT P f.type = true ∨ off < ys.size ∧ 0 < aO P f.type := by
     rcases hpos with h | ⟨h3, h4⟩
     ·exact .inl h
     ·right; simp at c5; omega
    have r1 := Jp hk xs off w hpos
    have r2 := Jp hk ys off w hpos'
    have e1 : (xs.extract off (off + aO P f.type)).toList = (xs.toList.drop off).take (aO P f.type) := by simp [List.extract_eq_drop_take']
    have e2 : (ys.extract off (off + aO P f.type)).toList = (ys.toList.drop off).take (aO P f.type) := by simp [List.extract_eq_drop_take']
    have r3 := ih h1 (xs.extract off (off + aO P f.type)) (ys.extract off (off + aO P f.type)) (by rw [e1, e2]; exact c1) w
    rw [e1, e2] at r3
    rw [List.drop_drop, List.drop_drop] at c2
    have r4 := nV ih xs ys w h2 c2
    rw [c3]
    simp only [Op.eqFields, hname, ne_eq, not_false_eq_true, if_true, Sem.run_bind, hoff, r1, r2, Result.andThen_ok, r3]
    cases eqL (List.take (aO P f.type) (List.drop off xs.toList)) (List.take (aO P f.type) (List.drop off ys.toList)) with
    | false => simp
    | true => simp only [Bool.not_true, Bool.false_eq_true, if_false, r4, Bool.true_and, List.drop_drop]
   ·cases h
theorem oV : ∀ (d : Nat) {t : Nat} {ks : List Nat}, fL P d t = some ks → ∀ (xs ys : Array Value), conf ks xs.toList ys.toList → ∀ (D : Nat) (w : World), d ≤ D →
  (Op.equalIn D t (valT P t xs) (valT P t ys)).run P w = .ok (eqL xs.toList ys.toList) w
 | 0, _, _, h => by simp [fL] at h
 | d + 1, t, ks, h => by
  intro xs ys hc D w hD
  obtain ⟨D, rfl⟩ : ∃ E, D = E + 1 := ⟨D - 1, by omega⟩
  obtain ⟨xs⟩ := xs; obtain ⟨ys⟩ := ys
  unfold fL at h
  split at h
  ·rename_i k hu
   split at h
   ·simp at h; subst h
    obtain ⟨k, a, b, e1, e2⟩ := aTj hc
    dsimp only at e1 e2; subst e1; subst e2
    simp [valT, aggT, hu, run_equalIn_int w D t k _ a b hu, eqL]
   ·cases h
  ·rename_i hu
   split at h
   ·simp at h; subst h
    obtain ⟨a, b, e1, e2⟩ := aTk hc
    dsimp only at e1 e2; subst e1; subst e2
    simp [valT, aggT, hu, run_equalIn_bool' w D t a b hu, eqL]
   ·cases h
  ·rename_i hu
   split at h
   ·simp at h; subst h
    obtain ⟨a, b, e1, e2⟩ := aS6 hc
    dsimp only at e1 e2; subst e1; subst e2
    simp [valT, aggT, hu, run_equalIn_string w D t a b hu, eqL]
   ·cases h
  ·rename_i fs hu
   split at h
   ·cases h
   ·rename_i hp
    have ha : aggT P t = true := by simp [aggT, hu]
    have hf : P.fieldsOf t = fs := by simp [Program.fieldsOf, hu]
    simp only [valT, ha]
    rw [run_equalIn_agg w D t ⟨xs⟩ ⟨ys⟩ (by rw [hf]; exact hu) (by simpa using hp), hf]
    have := nV (P := P) (d := d) (D := D) (fun hk xs ys hc w => oV d hk xs ys hc D w (by omega)) ⟨xs⟩ ⟨ys⟩ w h (by simpa using hc)
    simpa using this
  ·cases h
end
theorem aKx {k : Nat} {x y : AV} {K : Bool → Prop} (h : eq1 k x y K) : ∃ c, K c ∧ ∀ {cur : Nat → Nat} {g : Gh} {w : World} {N : Nat → Prop} (a1 a2 : Value), AR cur g w N x a1 → AR cur g w N y a2 → ∀ ks vs us, conf ks vs us → conf (k :: ks) (a1 :: vs) (a2 :: us) ∧ eqL (a1 :: vs) (a2 :: us) = (c && eqL vs us) := by
 unfold eq1 at h
 split at h
 ·refine ⟨_, h.2, fun a1 a2 e1 e2 ks vs us hc => ?_⟩
  rw [cC e1, cC e2]; exact ⟨⟨h.1, hc⟩, rfl⟩
 ·refine ⟨_, h, fun a1 a2 e1 e2 ks vs us hc => ?_⟩
  rw [cC e1, cC e2]; exact ⟨hc, rfl⟩
 ·refine ⟨_, h, fun a1 a2 e1 e2 ks vs us hc => ?_⟩
  rw [cC e1, cC e2]; exact ⟨hc, rfl⟩
 ·exact h.elim
theorem At : ∀ {ks : List Nat} {xs ys : List AV} {K : Bool → Prop}, zV ks xs ys K → ∃ b, K b ∧ xs.length = ks.length ∧ ys.length = ks.length ∧
  ∀ {cur : Nat → Nat} {g : Gh} {w : World} {N : Nat → Prop} (vs us : List Value), vs.length = xs.length → us.length = ys.length → (∀ (j : Nat) (x : AV) (y : Value), xs[j]? = some x → vs[j]? = some y → AR cur g w N x y) → (∀ (j : Nat) (x : AV) (y : Value), ys[j]? = some x → us[j]? = some y → AR cur g w N x y) →
   conf ks vs us ∧ b = eqL vs us
 | [], [], [], K, h => by
  refine ⟨true, h, rfl, rfl, fun vs us h1 h2 _ _ => ?_⟩
  rw [List.length_eq_zero_iff.1 h1, List.length_eq_zero_iff.1 h2]
  exact ⟨trivial, rfl⟩
 | k :: ks, x :: xs, y :: ys, K, h => by
  obtain ⟨c, hc, h1⟩ := aKx h
  obtain ⟨b, hb, l1, l2, h2⟩ := At hc
  refine ⟨_, hb, by simp [l1], by simp [l2], fun {cur g w N} vs us hv hu hx hy => ?_⟩
  rcases vs with _ | ⟨v0, vs⟩
  ·simp at hv
  rcases us with _ | ⟨u0, us⟩
  ·simp at hu
  obtain ⟨i1, i2⟩ := h2 (cur := cur) (g := g) (w := w) (N := N) vs us (by simpa using hv) (by simpa using hu) (fun j z u hz hu' => hx (j + 1) z u (by simpa using hz) (by simpa using hu')) (fun j z u hz hu' => hy (j + 1) z u (by simpa using hz) (by simpa using hu'))
  obtain ⟨j1, j2⟩ := h1 v0 u0 (hx 0 x v0 rfl rfl) (hy 0 y u0 rfl rfl) ks vs us i1
  exact ⟨j1, by rw [j2, i2]⟩
 | [], [], _ :: _, K, h => h.elim
 | [], _ :: _, [], K, h => h.elim
 | [], _ :: _, _ :: _, K, h => h.elim
 | _ :: _, [], [], K, h => h.elim
 | _ :: _, [], _ :: _, K, h => h.elim
 | _ :: _, _ :: _, [], K, h => h.elim
section
variable {P : Program}
theorem oY {op : BinOp} {c : Option Ordering} {K : AV → Prop} (h : vJ op c K) : ∃ r, K r ∧ ∀ (t : Nat) (x y : Nat) (w : World), FloatKind.f64.format.order x y = c →
  ∃ b, (binOp op t (.float .f64 x) (.float .f64 y)).run P w = .ok (.bool b) w ∧ r = Bv b := by
 cases op <;> first | exact h.elim | exact ⟨_, h, fun t x y w hc => ⟨_, by simp [binOp, Op.floatCmp, hc], rfl⟩⟩
theorem Oz {op : BinOp} (hop : op = .add ∨ op = .sub ∨ op = .mul ∨ op = .quo) (t a b : Nat) (cur : Nat → Nat) (g : Gh) (w : World) (N : Nat → Prop) :
  ∃ v w', (binOp op t (.float .f64 a) (.float .f64 b)).run P w = .ok v w' ∧ Fine w w' ∧ AR cur g w N (zR op a b) v := by
 have h1 : (binOp op t (.float .f64 a) (.float .f64 b)) = Op.floatArith op .f64 a b := by
  rcases hop with rfl | rfl | rfl | rfl <;> simp [binOp]
 have h2 : Op.floatArith op .f64 a b = (match xK op a b with | some r => pure (.float .f64 r) | none => do pure (.float .f64 (← choose (.nanBits .f64 a b)))) := by
  rcases hop with rfl | rfl | rfl | rfl <;> (simp only [Op.floatArith, xK, pure_bind]; rfl)
 rw [h1, h2]
 unfold zR
 cases xK op a b with
 | some r => exact ⟨_, w, rfl, Fine.refl w, .r (.v _)⟩
 | none =>
  refine ⟨.float .f64 ((Question.nanBits .f64 a b).cut (w.tape w.drawn (.nanBits .f64 a b))), w.drew, ?_, ⟨rfl, rfl, rfl, rfl⟩, .r (.nan _ (aFq _ _ _))⟩
  simp [Question.forced]
theorem aD6 {op : BinOp} {k : IntKind} {a b : Int} {K : AV → Prop} (h : binI op k a b K) : ∃ v, K (.r (.v v)) ∧ ∀ (t : Nat) (w : World), (binOp op t (.int k a) (.int k b)).run P w = .ok v w := by
 cases op <;> first | exact h.elim | (refine ⟨_, h, fun t w => ?_⟩; simp [binOp, Op.intArith, Op.intCmp]; done) | (refine ⟨_, h, fun t w => ?_⟩; simp [binOp, Op.intArith, Op.intCmp]; rfl) | (refine ⟨_, h.2, fun t w => ?_⟩; simp [binOp, Op.intDiv, h.1])
theorem aFr {op : BinOp} {a b : ByteArray} {K : AV → Prop} (h : binS op a b K) : ∃ v, K (.r (.v v)) ∧ ∀ (t : Nat) (w : World), (binOp op t (.string a) (.string b)).run P w = .ok v w := by
 cases op <;> first | exact h.elim | exact ⟨_, h, fun t w => by simp [binOp, Op.stringOp]⟩ | skip
 refine ⟨_, h.2, fun t w => ?_⟩
 have h1 := h.1
 simp only [binOp, Op.stringOp]
 rw [if_neg (by omega)]; rfl
theorem rG {cur : Nat → Nat} {g : Gh} {w : World} {N : Nat → Prop} {cs : List AV} {v : Value} (h : AR cur g w N (.agg cs) v) : ∃ xs : Array Value, v = .agg xs ∧ xs.size = cs.length ∧ ∀ (j : Nat) (x : AV) (y : Value), cs[j]? = some x → xs[j]? = some y → AR cur g w N x y := by
 cases h with | agg _ xs hs h => exact ⟨xs, rfl, hs, h⟩
theorem Ic {cur : Nat → Nat} {g : Gh} {w : World} {N : Nat → Prop} {row : List RV} {v : Value} (h : AR cur g w N (.r (.rp row)) v) : ∃ a, v = .pointer (some a) := by
 cases h with | r h => cases h with | rp _ a => exact ⟨a, rfl⟩
theorem Ki {cur : Nat → Nat} {g : Gh} {w : World} {N : Nat → Prop} {sz : Nat} {rows : List (List RV)} {v : Value} (h : AR cur g w N (.r (.rs sz rows)) v) (hn : rows ≠ []) : ∃ a n c, v = .slice (some a) n c := by
 cases h with | r h => cases h with
  | nil => exact absurd rfl hn
  | rs _ _ a cap => exact ⟨a, _, cap, rfl⟩
theorem dZ {op : BinOp} {t : Nat} {ox oy : Operand} {x y : Value} (w : World) (h : (∀ cs, x ≠ .agg cs) ∨ (∀ cs, y ≠ .agg cs)) (h2 : x ≠ .nilIface ∨ y ≠ .nilIface) :
  (do eqGuard op t ox oy x y; binOp op t x y).run P w = (binOp op t x y).run P w := by
 simp [xA (P := P) (op := op) (t := t) (x := ox) (y := oy) (w := w) h h2]
theorem lM (t : Nat) (x y : Value) : Op.equal t x y = Op.equalIn (9999 + 1) t x y := rfl
theorem mB {t e : Nat} (hu : P.underlying t = some (.slice e)) (w : World) (a : Addr) (n cp : Nat) : (Op.equal t (.slice (some a) n cp) (.slice none 0 0)).run P w = .ok false w := by
 rw [lM]; generalize 9999 = d; simp [Op.equalIn, run_underlying hu]
theorem rT {t e : Nat} (hu : P.underlying t = some (.slice e)) (w : World) : (Op.equal t (.slice none 0 0) (.slice none 0 0)).run P w = .ok true w := by
 rw [lM]; generalize 9999 = d; simp [Op.equalIn, run_underlying hu]
theorem tT {t e : Nat} (hu : P.underlying t = some (.pointer e)) (w : World) (a : Addr) : (Op.equal t (.pointer (some a)) (.pointer none)).run P w = .ok false w := by
 rw [lM]; generalize 9999 = d; simp [Op.equalIn, run_underlying hu]
theorem Bh {t e : Nat} (hu : P.underlying t = some (.pointer e)) (w : World) : (Op.equal t (.pointer none) (.pointer none)).run P w = .ok true w := by
 rw [lM]; generalize 9999 = d; simp [Op.equalIn, run_underlying hu]
theorem Dc {t : Nat} (hu : P.underlying t = some .bool) (w : World) (a b : Bool) : (Op.equal t (.bool a) (.bool b)).run P w = .ok (a == b) w := by
 rw [lM]; generalize 9999 = d; exact run_equalIn_bool' w d t a b hu
theorem aB7 {op : BinOp} {t : Nat} {x y : AV} {K : AV → Prop} (h : Sd P op t x y K) : ∃ r, K r ∧ ∀ cur g w N vx vy (ox oy : Operand), AR cur g w N x vx → AR cur g w N y vy →
  ∃ v w', (do eqGuard op t ox oy vx vy; binOp op t vx vy).run P w = .ok v w' ∧ Fine w w' ∧ AR cur g w N r v := by
 unfold Sd at h
 split at h
 ·obtain ⟨rfl, h⟩ := h
  obtain ⟨v, h1, h2⟩ := aD6 (P := P) h
  refine ⟨_, h1, fun cur g w N vx vy ox oy e1 e2 => ?_⟩
  rw [cC e1, cC e2, dZ w (.inl (by simp)) (.inl (by simp)), h2]
  exact ⟨v, w, rfl, Fine.refl w, .r (.v v)⟩
 ·rename_i a b
  obtain ⟨ht, h⟩ := h
  obtain ⟨c, h1, h2⟩ := Ik (P := P) (t := t) (x := .bool a) (y := .bool b) h (by simp) (by simp) (by simp) (by simp) (fun w => Dc (Yd ht) w a b)
  refine ⟨_, h1, fun cur g w N vx vy ox oy e1 e2 => ?_⟩
  rw [cC e1, cC e2, dZ w (.inl (by simp)) (.inl (by simp)), h2]
  exact ⟨_, w, rfl, Fine.refl w, .r (.v _)⟩
 ·obtain ⟨v, h1, h2⟩ := aFr (P := P) h
  refine ⟨_, h1, fun cur g w N vx vy ox oy e1 e2 => ?_⟩
  rw [cC e1, cC e2, dZ w (.inl (by simp)) (.inl (by simp)), h2]
  exact ⟨v, w, rfl, Fine.refl w, .r (.v v)⟩
 ·rename_i a b
  have arith : (op = .add ∨ op = .sub ∨ op = .mul ∨ op = .quo) → K (zR op a b) → ∃ r, K r ∧ ∀ cur g w N vx vy (ox oy : Operand), AR cur g w N (.r (.v (.float .f64 a))) vx → AR cur g w N (.r (.v (.float .f64 b))) vy →
    ∃ v w', (do eqGuard op t ox oy vx vy; binOp op t vx vy).run P w = .ok v w' ∧ Fine w w' ∧ AR cur g w N r v := fun hop hK => by
   refine ⟨_, hK, fun cur g w N vx vy ox oy e1 e2 => ?_⟩
   rw [cC e1, cC e2, dZ w (.inl (by simp)) (.inl (by simp))]
   exact Oz hop t a b cur g w N
  split at h
  ·exact arith (.inl rfl) h
  ·exact arith (.inr (.inl rfl)) h
  ·exact arith (.inr (.inr (.inl rfl))) h
  ·exact arith (.inr (.inr (.inr rfl))) h
  ·obtain ⟨r, h1, h2⟩ := oY (P := P) h
   refine ⟨_, h1, fun cur g w N vx vy ox oy e1 e2 => ?_⟩
   obtain ⟨b', h3, rfl⟩ := h2 t a b w rfl
   rw [cC e1, cC e2, dZ w (.inl (by simp)) (.inl (by simp)), h3]
   exact ⟨_, w, rfl, Fine.refl w, .r (.v _)⟩
 ·obtain ⟨r, h1, h2⟩ := oY (P := P) h
  refine ⟨_, h1, fun cur g w N vx vy ox oy e1 e2 => ?_⟩
  obtain ⟨a, rfl, hn⟩ := Ai e1
  rw [cC e2, dZ w (.inl (by simp)) (.inl (by simp))]
  obtain ⟨b', h3, rfl⟩ := h2 t a _ w (sM hn)
  rw [h3]; exact ⟨_, w, rfl, Fine.refl w, .r (.v _)⟩
 ·obtain ⟨r, h1, h2⟩ := oY (P := P) h
  refine ⟨_, h1, fun cur g w N vx vy ox oy e1 e2 => ?_⟩
  obtain ⟨a, rfl, hn⟩ := Ai e2
  rw [cC e1, dZ w (.inl (by simp)) (.inl (by simp))]
  obtain ⟨b', h3, rfl⟩ := h2 t _ a w (zN hn)
  rw [h3]; exact ⟨_, w, rfl, Fine.refl w, .r (.v _)⟩
 ·obtain ⟨r, h1, h2⟩ := oY (P := P) h
  refine ⟨_, h1, fun cur g w N vx vy ox oy e1 e2 => ?_⟩
  obtain ⟨a, rfl, hn⟩ := Ai e1
  obtain ⟨b, rfl, hn2⟩ := Ai e2
  rw [dZ w (.inl (by simp)) (.inl (by simp))]
  obtain ⟨b', h3, rfl⟩ := h2 t a b w (sM hn)
  rw [h3]; exact ⟨_, w, rfl, Fine.refl w, .r (.v _)⟩
 ·rename_i xs ys
  obtain ⟨hs, hg, h⟩ := h
  split at h
  ·rename_i ks hks
   obtain ⟨b, hb, l1, l2, h1⟩ := At h
   have key : ∃ c, K (Bv c) ∧ ∀ w (p q : Array Value), conf ks p.toList q.toList → b = eqL p.toList q.toList → (binOp op t (.agg p) (.agg q)).run P w = .ok (.bool c) w := by
    have hr : ∀ w (p q : Array Value), conf ks p.toList q.toList → b = eqL p.toList q.toList → (Op.equalIn 10000 t (.agg p) (.agg q)).run P w = .ok b w := fun w p q hc he => by
     obtain ⟨fs, hu⟩ := Pf hs
     have ha : aggT P t = true := by simp [aggT, hu]
     have := oV (P := P) 8 hks p q hc 10000 w (by omega)
     simpa [valT, ha, he] using this
    cases op <;> first | exact hb.elim | skip
    ·exact ⟨_, hb, fun w p q hc he => by rw [run_eql_struct, hr w p q hc he]; rfl⟩
    ·exact ⟨_, hb, fun w p q hc he => by rw [run_neq_struct, hr w p q hc he]; rfl⟩
   obtain ⟨c, hc, h2⟩ := key
   refine ⟨_, hc, fun cur g w N vx vy ox oy e1 e2 => ?_⟩
   obtain ⟨p, rfl, p1, p2⟩ := rG e1
   obtain ⟨q, rfl, q1, q2⟩ := rG e2
   obtain ⟨h3, h4⟩ := h1 (cur := cur) (g := g) (w := w) (N := N) p.toList q.toList (by simpa using p1) (by simpa using q1) (fun j x y hx hy => p2 j x y hx (by simpa using hy)) (fun j x y hx hy => q2 j x y hx (by simpa using hy))
   refine ⟨.bool c, w, ?_, Fine.refl w, .r (.v _)⟩
   simp only [Sem.run_bind, run_eqGuard_agg w op t ox oy p q hg, Result.andThen_ok, h2 w p q h3 h4]
  ·exact h.elim
 ·obtain ⟨ht, hn, h⟩ := h
  obtain ⟨e, hu⟩ := kS ht
  have key : ∃ c, K (Bv c) ∧ ∀ w a n cp, (binOp op t (.slice (some a) n cp) (.slice none 0 0)).run P w = .ok (.bool c) w := by
   cases op <;> first | exact h.elim | skip
   ·exact ⟨_, h, fun w a n cp => by simp [binOp, mB hu]⟩
   ·exact ⟨_, h, fun w a n cp => by simp [binOp, mB hu]⟩
  obtain ⟨c, h1, h2⟩ := key
  refine ⟨_, h1, fun cur g w N vx vy ox oy e1 e2 => ?_⟩
  obtain ⟨a, n, cp, rfl⟩ := Ki e1 hn
  rw [cC e2, dZ w (.inl (by simp)) (.inl (by simp)), h2]
  exact ⟨_, w, rfl, Fine.refl w, .r (.v _)⟩
 ·obtain ⟨ht, h⟩ := h
  obtain ⟨e, hu⟩ := kS ht
  obtain ⟨c, h1, h2⟩ := Ik (P := P) (t := t) (x := .slice none 0 0) (y := .slice none 0 0) h (by simp) (by simp) (by simp) (by simp) (fun w => rT hu w)
  refine ⟨_, h1, fun cur g w N vx vy ox oy e1 e2 => ?_⟩
  rw [cC e1, cC e2, dZ w (.inl (by simp)) (.inl (by simp)), h2]
  exact ⟨_, w, rfl, Fine.refl w, .r (.v _)⟩
 ·obtain ⟨ht, h⟩ := h
  obtain ⟨e, hu⟩ := Sf ht
  have key : ∃ c, K (Bv c) ∧ ∀ w a, (binOp op t (.pointer (some a)) (.pointer none)).run P w = .ok (.bool c) w := by
   cases op <;> first | exact h.elim | skip
   ·exact ⟨_, h, fun w a => by simp [binOp, tT hu]⟩
   ·exact ⟨_, h, fun w a => by simp [binOp, tT hu]⟩
  obtain ⟨c, h1, h2⟩ := key
  refine ⟨_, h1, fun cur g w N vx vy ox oy e1 e2 => ?_⟩
  obtain ⟨a, rfl⟩ := Ic e1
  rw [cC e2, dZ w (.inl (by simp)) (.inl (by simp)), h2]
  exact ⟨_, w, rfl, Fine.refl w, .r (.v _)⟩
 ·obtain ⟨ht, h⟩ := h
  obtain ⟨e, hu⟩ := Sf ht
  obtain ⟨c, h1, h2⟩ := Ik (P := P) (t := t) (x := .pointer none) (y := .pointer none) h (by simp) (by simp) (by simp) (by simp) (fun w => Bh hu w)
  refine ⟨_, h1, fun cur g w N vx vy ox oy e1 e2 => ?_⟩
  rw [cC e1, cC e2, dZ w (.inl (by simp)) (.inl (by simp)), h2]
  exact ⟨_, w, rfl, Fine.refl w, .r (.v _)⟩
 ·exact h.elim
theorem aG9 {op : UnOp} {x : AV} {K : AV → Prop} (h : unAV op x K) : ∃ r, K r ∧ ∀ cur g w N vx, AR cur g w N x vx → ∃ v, (Op.unary op vx).run P w = .ok v w ∧ AR cur g w N r v := by
 unfold unAV at h
 split at h
 ·exact ⟨_, h, fun cur g w N vx e => by rw [cC e]; exact ⟨_, rfl, .r (.v _)⟩⟩
 ·exact ⟨_, h, fun cur g w N vx e => by rw [cC e]; exact ⟨_, rfl, .r (.v _)⟩⟩
 ·exact ⟨_, h, fun cur g w N vx e => by rw [cC e]; exact ⟨_, rfl, .r (.v _)⟩⟩
 ·exact h.elim
theorem xR {t : Nat} (h : bD P t = true) : ∃ d, P.underlying t = some d := by
 unfold bD at h; exact Option.isSome_iff_exists.1 h
theorem Tg {s t : Nat} {x : AV} {K : AV → Prop} (h : Gk P s t x K) : ∃ r, K r ∧ ∀ cur g w N vx, AR cur g w N x vx → ∃ v, (convert s t vx).run P w = .ok v w ∧ AR cur g w N r v := by
 unfold Gk at h
 split at h
 ·split at h
  ·rename_i k hk
   obtain ⟨hs, h⟩ := h
   obtain ⟨d, hd⟩ := xR hs
   refine ⟨_, h, fun cur g w N vx e => ?_⟩
   rw [cC e]
   exact ⟨_, by simp [convert, run_underlying hd, run_underlying (aG8 hk), Conv.intToInt], .r (.v _)⟩
  ·split at h
   ·rename_i k hk
    obtain ⟨hs, h⟩ := h
    obtain ⟨d, hd⟩ := xR hs
    refine ⟨_, h, fun cur g w N vx e => ?_⟩
    rw [cC e]
    exact ⟨_, by simp [convert, run_underlying hd, run_underlying (Vp hk), Conv.intToFloat], .r (.v _)⟩
   ·exact h.elim
 ·obtain ⟨ht, hs, h⟩ := h
  obtain ⟨d, hd⟩ := xR hs
  refine ⟨_, h, fun cur g w N vx e => ?_⟩
  rw [cC e]
  refine ⟨_, ?_, .r (.v _)⟩
  simp only [convert, Sem.run_bind, run_underlying hd, run_underlying (qS ht), Result.andThen_ok]
  cases d <;> rfl
 ·exact h.elim
end
def Ag (l : List Loc) (st st' : St) : Prop := ∀ x ∈ l, st'.get x = st.get x
theorem Ag.left {l m : List Loc} {st st' : St} (h : Ag (l ++ m) st st') : Ag l st st' := fun x hx => h x (List.mem_append_left _ hx)
theorem Ag.right {l m : List Loc} {st st' : St} (h : Ag (l ++ m) st st') : Ag m st st' := fun x hx => h x (List.mem_append_right _ hx)
theorem Ag.R {l : List Loc} {st st' : St} (h : Ag l st st') {k : Nat} (hk : .R k ∈ l) : aB k st'.rs = aB k st.rs := by
 have := h _ hk
 simp only [St.get, Cont.s.injEq] at this
 exact Prod.ext this.1 this.2
theorem Ag.T {l : List Loc} {st st' : St} (h : Ag l st st') {d : Nat} (hk : .T d ∈ l) : bB d st'.t = bB d st.t := by
 have := h _ hk
 simpa [St.get] using this
theorem Wd {d : Nat} : ∀ {l : List Operand}, .tmp d ∈ l → Loc.T d ∈ rd l
 | x :: l, h => by
  rcases List.mem_cons.1 h with rfl | h
  ·exact List.mem_cons_self
  ·have := Wd h
   cases x <;> first | exact this | exact List.mem_cons_of_mem _ this
theorem Ag.ev {l : List Operand} {st st' : St} (h : Ag (rd l) st st') {x : Operand} (hx : x ∈ l) : ev st' x = ev st x := by
 cases x with
 | tmp d => exact h.T (Wd hx)
 | _ => rfl
theorem arg {C : Ctx} {e : Env} {st st' : St} {g : Gh} {a : Act} {w : World} (h : SR C e st' g a w) {l : List Operand} (hl : Ag (rd l) st st') {x : Operand} (hx : x ∈ l) : AR st'.cur g w (e.N st' g) (ev st x) (a.eval x) := by
 rw [← hl.ev hx]; exact Qy h x
theorem aFt {cur : Nat → Nat} {g : Gh} {w : World} {N : Nat → Prop} {row : List RV} {v : Value} (h : AR cur g w N (.r (.rp row)) v) : Held cur g w N v (row.map .r) := by
 cases h with | r h => cases h with
  | rp _ a c hb hc hr =>
   refine ⟨a, c, rfl, fun hne => (hb (by simpa using hne)).2.2, fun j x hx => ?_⟩
   rw [List.getElem?_map] at hx
   cases hj : row[j]? with
   | none => simp [hj] at hx
   | some y =>
    simp [hj] at hx; subst hx
    exact ⟨hc j (List.getElem?_eq_some_iff.1 hj).1, .r (hr j y hj)⟩
theorem Held.drop {cur : Nat → Nat} {g : Gh} {w : World} {N : Nat → Prop} {cs : List AV} {a : Addr} (h : Held cur g w N (.pointer (some a)) cs) (off : Nat) : Held cur g w N (.pointer (some ⟨a.block, a.off + off, none⟩)) (cs.drop off) := by
 obtain ⟨a', c, e, hs, hc⟩ := h
 simp only [Value.pointer.injEq, Option.some.injEq] at e
 subst e
 refine ⟨_, fun j => c (off + j), rfl, fun _ => rfl, fun j x hx => ?_⟩
 rw [List.getElem?_drop] at hx
 have := hc _ x hx
 simpa [Nat.add_assoc] using this
section
variable {C : Ctx} {e : Env} {st' : St} {g : Gh} {a : Act} {w : World}
theorem pZ (h : SR C e st' g a w) {k ver : Nat} {cells : List AV} (hk : aB k st'.rs = (ver, .bx cells)) : ∃ b, g k = .pointer (some ⟨b, 0, none⟩) ∧ Held st'.cur g w (e.N st' g) (.pointer (some ⟨b, 0, none⟩)) cells := by
 have := h.res k
 rw [hk] at this
 obtain ⟨b, C', el, h1, h2, h3, h4, _⟩ := this
 refine ⟨b, h1, ⟨b, 0, none⟩, fun j => C'.getD j undef, rfl, fun _ => rfl, fun j x hx => ?_⟩
 have hj : j < C'.size := by rw [h3]; exact (List.getElem?_eq_some_iff.1 hx).1
 have hcj : C'[j]? = some C'[j] := Array.getElem?_eq_getElem hj
 refine ⟨?_, ?_⟩
 ·simp [World.cell?, h2, hj]
 ·have : C'.getD j undef = C'[j] := by simp [hj]
  show AR _ _ _ _ x (C'.getD j undef)
  rw [this]; exact h4 j x _ hx hcj
theorem jA {cur : Nat → Nat} {N : Nat → Prop} {k ver : Nat} {v : Value} (h : AR cur g w N (.os k ver) v) (hv : ver = cur k) : v = g k := by
  cases h with | os _ _ _ _ h => rcases h with h | h
                                 · omega
                                 · exact h.2
theorem As {cur : Nat → Nat} {N : Nat → Prop} {k ver off : Nat} {v : Value} (h : AR cur g w N (.rf k ver off) v) (hv : ver = cur k) : ∃ b, g k = .pointer (some ⟨b, 0, none⟩) ∧ v = .pointer (some ⟨b, off, none⟩) := by
  cases h with | rf _ _ _ _ _ h => rcases h with h | h
                                   · omega
                                   · exact h.2
theorem Hg {cur : Nat → Nat} {N : Nat → Prop} {k ver sz i off : Nat} {v : Value} (h : AR cur g w N (.re k ver sz i off) v) (hv : ver = cur k) : ∃ b n c, g k = .slice (some ⟨b, 0, none⟩) n c ∧ v = .pointer (some ⟨b, i * sz + off, none⟩) := by
  cases h with | re _ _ _ _ _ _ _ h => rcases h with h | h
                                       · omega
                                       · exact h.2
theorem curk (k : Nat) {ver : Nat} {r : Res} (hk : aB k st'.rs = (ver, r)) : st'.cur k = ver := by simp [St.cur, hk]
theorem Df (h : SR C e st' g a w) {k ver el sz : Nat} {rows : List (List AV)} (hk : aB k st'.rs = (ver, .sl el sz rows)) :
  ∃ xs, w.ownsRow 0 el sz (g k) rows.length xs ∧ (∀ row ∈ rows, row.length = sz) ∧ ∀ (i j : Nat) (row : List AV) (x : AV) (y : Value), rows[i]? = some row → row[j]? = some x → xs[i * sz + j]? = some y → AR st'.cur g w (e.N st' g) x y := by
 have := h.res k
 rw [hk] at this
 obtain ⟨xs, h1, h2, h3, _⟩ := this
 exact ⟨xs, h1, h2, h3⟩
theorem rE (h : SR C e st' g a w) {k ver el sz : Nat} {rows : List (List AV)} (hk : aB k st'.rs = (ver, .sl el sz rows)) :
  ∃ xs, w.ownsRow 0 el sz (g k) rows.length xs ∧ (∀ row ∈ rows, row.length = sz) ∧ (∀ (i j : Nat) (row : List AV) (x : AV) (y : Value), rows[i]? = some row → row[j]? = some x → xs[i * sz + j]? = some y → AR st'.cur g w (e.N st' g) x y) ∧ Nest w (e.N st' g) (g k) (nds rows.flatten xs) (g.f k) := by
 have := h.res k
 rwa [hk] at this
theorem Qd (h : SR C e st' g a w) {k ver el sz : Nat} {rows : List (List AV)} (hk : aB k st'.rs = (ver, .sl el sz rows)) {i : Nat} (hi : i < rows.length) :
  ∃ b c, g k = .slice (some ⟨b, 0, none⟩) rows.length c ∧ Held st'.cur g w (e.N st' g) (.pointer (some ⟨b, i * sz, none⟩)) (rows.getD i []) := by
 obtain ⟨xs, h1, h2, h3⟩ := Df h hk
 rcases h1.2 with ⟨_, h4⟩ | ⟨b, cap, cur, hv, hb, hh, hn, hm, hcs, ht⟩
 ·omega
 ·refine ⟨b, cap, hv, ⟨b, i * sz, none⟩, fun j => xs.getD (i * sz + j) undef, rfl, fun _ => rfl, fun j x hx => ?_⟩
  have hrow : rows[i]? = some (rows.getD i []) := by simp [hi]
  have hlen : (rows.getD i []).length = sz := h2 _ (List.mem_of_getElem? hrow)
  have hj : j < sz := by rw [← hlen]; exact (List.getElem?_eq_some_iff.1 hx).1
  have hlt : i * sz + j < xs.length := by
   rw [h1.1]
   have : (i + 1) * sz ≤ rows.length * sz := Nat.mul_le_mul_right _ hi
   have : (i + 1) * sz = i * sz + sz := Nat.succ_mul i sz
   omega
  have hx' : xs[i * sz + j]? = some xs[i * sz + j] := List.getElem?_eq_getElem hlt
  have hd : xs.getD (i * sz + j) undef = xs[i * sz + j] := by simp [hlt]
  show _ = some (xs.getD (i * sz + j) undef) ∧ AR _ _ _ _ x (xs.getD (i * sz + j) undef)
  rw [hd]
  refine ⟨?_, h3 i j _ x _ hrow hx hx'⟩
  have hc := h1.cells (g := b) (by rw [hv]; rfl) (i * sz + j) _ hx'
  rw [jG] at hc
  simpa using hc
theorem Uh {st : St} {t : Nat} {x : AV} {K : List Loc → AV → Prop} (h : Hj C.P st t x K) : ∃ l r, K l r ∧
  ∀ (e : Env) (st' : St) (g : Gh) (a : Act) (w : World) (vx : Value), SR C e st' g a w → Ag l st st' → AR st'.cur g w (e.N st' g) x vx → ∃ u, (Instr.loadAt t vx).run C.P w = .ok u w ∧ AR st'.cur g w (e.N st' g) r u := by
 unfold Hj at h
 split at h
 ·obtain ⟨r, h1, h2⟩ := nA h
  exact ⟨_, r, h1, fun e st' g a w vx _ _ hx => lL h2 (aFt hx)⟩
 ·rename_i k ver
  split at h
  ·rename_i cv cells hk
   obtain ⟨rfl, h⟩ := h
   obtain ⟨r, h1, h2⟩ := nA h
   refine ⟨_, r, h1, fun e st' g a w vx hs ha hx => ?_⟩
   have hk' := (ha.R (k := k) (by simp)).trans hk
   obtain ⟨b, hb, hh⟩ := pZ hs hk'
   rw [jA hx (curk k hk').symm, hb]
   exact lL h2 hh
  ·exact h.elim
 ·rename_i k ver off
  split at h
  ·rename_i cv cells hk
   obtain ⟨rfl, h⟩ := h
   obtain ⟨r, h1, h2⟩ := nA h
   refine ⟨_, r, h1, fun e st' g a w vx hs ha hx => ?_⟩
   have hk' := (ha.R (k := k) (by simp)).trans hk
   obtain ⟨b, hb, hh⟩ := pZ hs hk'
   obtain ⟨b', hb', rfl⟩ := As hx (curk k hk').symm
   have : b' = b := by rw [hb] at hb'; simp at hb'; exact hb'.symm
   subst this
   have := hh.drop off
   simp only [Nat.zero_add] at this
   exact lL h2 this
  ·exact h.elim
 ·rename_i k ver sz i off
  split at h
  ·rename_i cv el sz' rows hk
   obtain ⟨rfl, rfl, hi, h⟩ := h
   obtain ⟨r, h1, h2⟩ := nA h
   refine ⟨_, r, h1, fun e st' g a w vx hs ha hx => ?_⟩
   have hk' := (ha.R (k := k) (by simp)).trans hk
   obtain ⟨b, c, hb, hh⟩ := Qd hs hk' hi
   obtain ⟨b', n, c', hb', rfl⟩ := Hg hx (curk k hk').symm
   have : b' = b := by rw [hb] at hb'; simp at hb'; exact hb'.1.symm
   subst this
   exact lL h2 (hh.drop off)
  ·exact h.elim
 ·exact h.elim
theorem oI {P : Program} {s f off n : Nat} (hf : bE P s f = some (off, n)) (hn : n ≠ 0) (w : World) (a : Addr) (ha : a.spot = none) : (Instr.fieldAt s (.pointer (some a)) f).run P w = .ok (.pointer (some ⟨a.block, a.off + off, none⟩)) w := by
 obtain ⟨fs, x, hu, hx, ho, hs⟩ := Zp hf
 obtain ⟨i, hi, his⟩ := Eb hs hn
 have h1 : (sizeOf x.type).run P w = .ok n w := by simp [sizeOf, typeInfo, hi, his]
 simp only [Instr.fieldAt, Sem.run_bind, run_underlying hu, Result.andThen_ok, hx, Instr.sureAddr, Sem.run_pure, fieldPlace, h1, hn, if_false]
 rw [nK ha, jG, ho]
theorem Km {row : List RV} {cur : Nat → Nat} {N : Nat → Prop} {a : Addr} (h : AR cur g w N (.r (.rp row)) (.pointer (some a))) (hr : row ≠ []) : a.spot = none := by
 cases h with | r h => cases h with | rp _ _ _ hb _ _ => exact (hb hr).2.2
theorem Sc {row : List RV} {cur : Nat → Nat} {N : Nat → Prop} {a : Addr} (h : AR cur g w N (.r (.rp row)) (.pointer (some a))) (off : Nat) : AR cur g w N (.r (.rp (row.drop off))) (.pointer (some ⟨a.block, a.off + off, none⟩)) := by
 cases h with | r h => cases h with | rp _ _ c hb hc hr =>
  refine .r (.rp _ _ (fun j => c (off + j)) (fun hne => ?_) (fun j hj => ?_) (fun j x hx => ?_))
  ·have : row ≠ [] := by intro e; simp [e] at hne
   exact ⟨(hb this).1, (hb this).2.1, rfl⟩
  ·have := hc (off + j) (by simp at hj; omega)
   simpa [Nat.add_assoc] using this
  ·rw [List.getElem?_drop] at hx; exact hr _ x hx
theorem Dh {st : St} {s f : Nat} {x : AV} {K : List Loc → AV → Prop} (h : qP C.P st s f x K) : ∃ l r, K l r ∧
  ∀ (e : Env) (st' : St) (g : Gh) (a : Act) (w : World) (vx : Value), SR C e st' g a w → Ag l st st' → AR st'.cur g w (e.N st' g) x vx → ∃ u, (Instr.fieldAt s vx f).run C.P w = .ok u w ∧ AR st'.cur g w (e.N st' g) r u := by
 unfold qP at h
 split at h
 ·exact h.elim
 ·rename_i off n hf
  obtain ⟨hn, h⟩ := h
  split at h
  ·rename_i row
   refine ⟨_, _, h.2, fun e st' g a w vx _ _ hx => ?_⟩
   obtain ⟨ad, rfl⟩ := Ic hx
   have hne : row ≠ [] := by intro e; simp [e] at h
   exact ⟨_, oI hf hn w ad (Km hx hne), Sc hx off⟩
  ·rename_i k ver
   split at h
   ·rename_i cv cells hk
    obtain ⟨rfl, h⟩ := h
    refine ⟨_, _, h, fun e st' g a w vx hs ha hx => ?_⟩
    have hk' := (ha.R (k := k) (by simp)).trans hk
    obtain ⟨b, hb, hh⟩ := pZ hs hk'
    rw [jA hx (curk k hk').symm, hb]
    refine ⟨_, oI hf hn w ⟨b, 0, none⟩ rfl, .rf _ _ _ _ rfl (.inr ⟨(curk k hk').symm, b, hb, by simp⟩)⟩
   ·exact h.elim
  ·rename_i k ver o
   obtain ⟨hv, h⟩ := h
   refine ⟨_, _, h, fun e st' g a w vx hs ha hx => ?_⟩
   have hc : st'.cur k = st.cur k := by simp [St.cur, ha.R (k := k) (by simp)]
   obtain ⟨b, hb, rfl⟩ := As hx (by omega)
   exact ⟨_, oI hf hn w ⟨b, o, none⟩ rfl, .rf _ _ _ _ rfl (.inr ⟨by omega, b, hb, rfl⟩)⟩
  ·rename_i k ver sz i o
   obtain ⟨hv, h⟩ := h
   refine ⟨_, _, h, fun e st' g a w vx hs ha hx => ?_⟩
   have hc : st'.cur k = st.cur k := by simp [St.cur, ha.R (k := k) (by simp)]
   obtain ⟨b, n', c', hb, rfl⟩ := Hg hx (by omega)
   exact ⟨_, oI hf hn w ⟨b, i * sz + o, none⟩ rfl, .re _ _ _ _ _ _ rfl (.inr ⟨by omega, b, n', c', hb, by simp [Nat.add_assoc]⟩)⟩
  ·exact h.elim
theorem Yx {sz : Nat} {rows : List (List RV)} {cur : Nat → Nat} {N : Nat → Prop} {v : Value} (h : AR cur g w N (.r (.rs sz rows)) v) {i : Nat} (hi : i < rows.length) :
  ∃ a cap, v = .slice (some a) rows.length cap ∧ a.spot = none ∧ AR cur g w N (.r (.rp (rows.getD i []))) (.pointer (some ⟨a.block, a.off + i * sz, none⟩)) := by
 cases h with | r h => cases h with
  | nil => simp at hi
  | rs _ _ a cap c hb hcap hw hc hr =>
   have hne : rows ≠ [] := by intro e; simp [e] at hi
   have hrow : rows[i]? = some (rows.getD i []) := by simp [hi]
   have hlen : (rows.getD i []).length = sz := hw _ (List.mem_of_getElem? hrow)
   refine ⟨a, cap, rfl, (hb hne).2.2, .r (.rp _ _ (c i) (fun _ => ⟨(hb hne).1, (hb hne).2.1, rfl⟩) (fun j hj => ?_) (fun j x hx => hr i j _ x hrow hx))⟩
   have := hc i j hi (by omega)
   simpa [Nat.add_assoc] using this
theorem Dv {st : St} {t : Nat} {x : AV} {i : Int} {k0 : IntKind} {K : List Loc → AV → Prop} (h : rC C.P st t x i K) : ∃ l r, K l r ∧
  ∀ (e : Env) (st' : St) (g : Gh) (a : Act) (w : World) (vx : Value), SR C e st' g a w → Ag l st st' → AR st'.cur g w (e.N st' g) x vx → ∃ u, (Instr.indexAt t vx (.int k0 i)).run C.P w = .ok u w ∧ AR st'.cur g w (e.N st' g) r u := by
 unfold rC at h
 split at h
 ·rename_i sz rows
  split at h
  ·rename_i el hel
   obtain ⟨rfl, hk, h0, hi, h⟩ := h
   refine ⟨_, _, h, fun e st' g a w vx _ _ hx => ?_⟩
   obtain ⟨ad, cap, rfl, hsp, h2⟩ := Yx hx (i := i.toNat) (by omega)
   refine ⟨_, ?_, h2⟩
   have hu := qI hel
   simp only [Instr.indexAt, asIntOf, Sem.run_bind, Sem.run_pure, Result.andThen_ok, run_underlying hu, Nat.le_refl]
   simp [h0, hi, dN hk, run_underlying hu]
   rw [nK hsp, jG]
  ·exact h.elim
 ·rename_i k ver
  split at h
  ·rename_i cv el0 sz rows el hk hel
   obtain ⟨rfl, rfl, hkn, h0, hi, h⟩ := h
   refine ⟨_, _, h, fun e st' g a w vx hs ha hx => ?_⟩
   have hk' := (ha.R (k := k) (by simp)).trans hk
   obtain ⟨b, c, hb, hh⟩ := Qd hs hk' (i := i.toNat) (by omega)
   rw [jA hx (curk k hk').symm, hb]
   have hu := qI hel
   refine ⟨_, ?_, .re _ _ _ _ _ _ rfl (.inr ⟨(curk k hk').symm, b, _, c, hb, rfl⟩)⟩
   simp only [Instr.indexAt, asIntOf, Sem.run_bind, Sem.run_pure, Result.andThen_ok, run_underlying hu]
   simp [h0, hi, dN hkn, run_underlying hu, jG]
  ·exact h.elim
 ·rename_i row
  split at h
  ·rename_i n el hel
   obtain ⟨h0, hi, hkn, hlt, h⟩ := h
   refine ⟨_, _, h, fun e st' g a w vx _ _ hx => ?_⟩
   obtain ⟨ad, rfl⟩ := Ic hx
   have hne : row ≠ [] := by intro e; simp [e] at hlt
   refine ⟨_, ?_, Sc hx _⟩
   have hu := aAc hel
   simp only [Instr.indexAt, asIntOf, Sem.run_bind, Sem.run_pure, Result.andThen_ok, run_underlying hu, Instr.sureAddr]
   simp [h0, hi, dN hkn, run_underlying hu]
   rw [nK (Km hx hne), jG]
  ·exact h.elim
 ·exact h.elim
theorem aBu {k ver el sz : Nat} {rows : List (List AV)} (h : SR C e st' g a w) (hk : aB k st'.rs = (ver, .sl el sz rows)) : ∃ o c, g k = .slice o rows.length c ∧ (o = none → rows = [] ∧ c = 0) ∧ rows.length ≤ c := by
 obtain ⟨xs, h1, _, _⟩ := Df h hk
 rcases h1.2 with ⟨h4, h5⟩ | ⟨b, cap, cur, hv, _, _, hn, _⟩
 ·have h5' : rows = [] := List.length_eq_zero_iff.1 h5
  refine ⟨none, 0, ?_, fun _ => ⟨h5', rfl⟩, by simp [h5']⟩
  rw [h4, h5']; rfl
 ·exact ⟨_, cap, hv, (by simp), hn⟩
theorem aMc {sz : Nat} {rows : List (List RV)} {cur : Nat → Nat} {N : Nat → Prop} {v : Value} (h : AR cur g w N (.r (.rs sz rows)) v) : ∃ o c, v = .slice o rows.length c := by
 cases h with | r h => cases h with
  | nil => exact ⟨none, 0, rfl⟩
  | rs _ _ a cap => exact ⟨some a, cap, rfl⟩
theorem Yu {st : St} {t : Nat} {x : AV} {K : List Loc → AV → Prop} (h : Rm st C.P t x K) : ∃ l r, K l r ∧
  ∀ (e : Env) (st' : St) (g : Gh) (a : Act) (w : World) (vx : Value) (ty : Nat), SR C e st' g a w → Ag l st st' → AR st'.cur g w (e.N st' g) x vx → ∃ u, (Builtin.len_ #[t] ty #[vx]).run C.P w = .ok u w ∧ AR st'.cur g w (e.N st' g) r u := by
 unfold Rm at h
 split at h
 ·obtain ⟨ht, h⟩ := h
  obtain ⟨el, hu⟩ := kS ht
  refine ⟨_, _, h, fun e st' g a w vx ty _ _ hx => ?_⟩
  obtain ⟨o, c, rfl⟩ := aMc hx
  exact ⟨_, by simp [Builtin.len_, run_underlying hu, goInt], .r (.v _)⟩
 ·obtain ⟨ht, h⟩ := h
  obtain ⟨el, hu⟩ := kS ht
  refine ⟨_, _, h, fun e st' g a w vx ty _ _ hx => ?_⟩
  rw [cC hx]
  exact ⟨_, by simp [Builtin.len_, run_underlying hu, goInt], .r (.v _)⟩
 ·obtain ⟨ht, h⟩ := h
  obtain ⟨el, hu⟩ := kS ht
  refine ⟨_, _, h, fun e st' g a w vx ty _ _ hx => ?_⟩
  obtain ⟨o, c, rfl⟩ : ∃ o c, vx = .slice o _ c := by
   cases hx with | r hx => cases hx; exact ⟨_, _, rfl⟩
  exact ⟨_, by simp [Builtin.len_, run_underlying hu, goInt], .r (.v _)⟩
 ·obtain ⟨ht, h⟩ := h
  refine ⟨_, _, h, fun e st' g a w vx ty _ _ hx => ?_⟩
  rw [cC hx]
  exact ⟨_, by simp [Builtin.len_, run_underlying (qS ht), goInt], .r (.v _)⟩
 ·rename_i k ver
  split at h
  ·rename_i cv el sz rows hk
   obtain ⟨rfl, ht, h⟩ := h
   obtain ⟨el, hu⟩ := kS ht
   refine ⟨_, _, h, fun e st' g a w vx ty hs ha hx => ?_⟩
   have hk' := (ha.R (k := k) (by simp)).trans hk
   obtain ⟨o, c, hg, _, _⟩ := aBu hs hk'
   rw [jA hx (curk k hk').symm, hg]
   exact ⟨_, by simp [Builtin.len_, run_underlying hu, goInt], .r (.v _)⟩
  ·exact h.elim
 ·exact h.elim
theorem Hi {st : St} {x : AV} {K : List Loc → AV → Prop} (h : sV st x K) : ∃ l r, K l r ∧
  ∀ (e : Env) (st' : St) (g : Gh) (a : Act) (w : World) (vx : Value), SR C e st' g a w → Ag l st st' → AR st'.cur g w (e.N st' g) x vx → ((∃ ad, vx = .pointer (some ad)) ∨ ∃ f vs, vx = .func (.func f) #[] vs) ∧ AR st'.cur g w (e.N st' g) r vx := by
 unfold sV at h
 split at h
 ·exact ⟨_, _, h, fun e st' g a w vx _ _ hx => ⟨.inl (Ic hx), hx⟩⟩
 ·refine ⟨_, _, h, fun e st' g a w vx _ _ hx => ⟨.inr ?_, hx⟩⟩
  cases hx with | r h => cases h with | fn _ _ vs => exact ⟨_, vs, rfl⟩
 ·refine ⟨_, _, h, fun e st' g a w vx _ _ hx => ⟨.inr ?_, hx⟩⟩
  cases hx with | cl _ _ vs => exact ⟨_, vs, rfl⟩
 ·rename_i k ver
  split at h
  ·rename_i cv cells hk
   obtain ⟨rfl, h⟩ := h
   refine ⟨_, _, h, fun e st' g a w vx hs ha hx => ?_⟩
   have hk' := (ha.R (k := k) (by simp)).trans hk
   obtain ⟨b, hb, hh⟩ := pZ hs hk'
   have := jA hx (curk k hk').symm
   exact ⟨.inl ⟨_, by rw [this, hb]⟩, hx⟩
  ·exact h.elim
 ·rename_i k ver off
  obtain ⟨hv, h⟩ := h
  refine ⟨_, _, h, fun e st' g a w vx hs ha hx => ?_⟩
  have hc : st'.cur k = st.cur k := by simp [St.cur, ha.R (k := k) (by simp)]
  obtain ⟨b, hb, rfl⟩ := As hx (by omega)
  exact ⟨.inl ⟨_, rfl⟩, hx⟩
 ·rename_i k ver sz i o
  obtain ⟨hv, h⟩ := h
  refine ⟨_, _, h, fun e st' g a w vx hs ha hx => ?_⟩
  have hc : st'.cur k = st.cur k := by simp [St.cur, ha.R (k := k) (by simp)]
  obtain ⟨b, n', c', hb, rfl⟩ := Hg hx (by omega)
  exact ⟨.inl ⟨_, rfl⟩, hx⟩
 ·exact h.elim
end
section
variable {C : Ctx} {e : Env} {st' : St} {g : Gh} {a : Act} {w : World}
theorem nN : ∀ (cs : List AV) (n : Nat) (vs : List AV), n + vs.length ≤ cs.length → (dR cs n vs).length = cs.length
 | cs, n, [], _ => by unfold dR; cases cs <;> rfl
 | [], n, v :: vs, h => by simp at h
 | c :: cs, 0, v :: vs, h => by simp only [dR, List.length_cons]; rw [nN cs 0 vs (by simp at h ⊢; omega)]
 | c :: cs, n + 1, v :: vs, h => by simp only [dR, List.length_cons]; rw [nN cs n (v :: vs) (by simp at h ⊢; omega)]
theorem nR : ∀ (cs : List AV) (n : Nat) (vs : List AV), n + vs.length ≤ cs.length → ∀ j, (dR cs n vs)[j]? = if n ≤ j ∧ j < n + vs.length then vs[j - n]? else cs[j]?
 | cs, n, [], _, j => by
  have : dR cs n [] = cs := by unfold dR; cases cs <;> rfl
  rw [this, if_neg (by simp only [List.length_nil]; omega)]
 | [], n, v :: vs, h, j => by simp at h
 | c :: cs, 0, v :: vs, h, j => by
  simp only [dR]
  cases j with
  | zero => simp
  | succ j =>
   rw [List.getElem?_cons_succ, nR cs 0 vs (by simp at h ⊢; omega) j]
   simp
 | c :: cs, n + 1, v :: vs, h, j => by
  simp only [dR]
  cases j with
  | zero => simp
  | succ j =>
   rw [List.getElem?_cons_succ, nR cs n (v :: vs) (by simp at h ⊢; omega) j]
   simp only [List.getElem?_cons_succ, List.length_cons]
   by_cases h1 : n ≤ j ∧ j < n + (vs.length + 1)
   ·rw [if_pos h1, if_pos (by omega)]; congr 1; omega
   ·rw [if_neg h1, if_neg (by omega)]
def PW (cur : Nat → Nat) (g : Gh) (w : World) (N : Nat → Prop) (cs : List AV) (xs : Array Value) : Prop :=
 xs.size = cs.length ∧ ∀ (j : Nat) (x : AV) (y : Value), cs[j]? = some x → xs[j]? = some y → AR cur g w N x y
theorem Jc (vs : Array Value) (off : Nat) (xs : Array Value) (h : off + vs.size ≤ xs.size) :
  (vs.zipIdx.foldl (fun cs (c, j) => cs.setIfInBounds (off + j) c) xs).size = xs.size ∧
  ∀ k, (vs.zipIdx.foldl (fun cs (c, j) => cs.setIfInBounds (off + j) c) xs)[k]? = if off ≤ k ∧ k < off + vs.size then vs[k - off]? else xs[k]? := by
 obtain ⟨vs⟩ := vs
 rw [← Array.foldl_toList, Array.toList_zipIdx]
 simp only [List.size_toArray, List.getElem?_toArray] at *
 suffices hh : ∀ (vs : List Value) (i : Nat) (xs : Array Value), off + i + vs.length ≤ xs.size →
   (List.foldl (fun cs (p : Value × Nat) => cs.setIfInBounds (off + p.2) p.1) xs (vs.zipIdx i)).size = xs.size ∧
   ∀ k, (List.foldl (fun cs (p : Value × Nat) => cs.setIfInBounds (off + p.2) p.1) xs (vs.zipIdx i))[k]? = if off + i ≤ k ∧ k < off + i + vs.length then vs[k - (off + i)]? else xs[k]? by
  have := hh vs 0 xs (by simpa using h)
  simpa using this
 intro vs
 induction vs with
 | nil => intro i xs h; exact ⟨rfl, fun k => by simp; omega⟩
 | cons v vs ih =>
  intro i xs h
  simp only [List.zipIdx_cons, List.foldl_cons]
  obtain ⟨h1, h2⟩ := ih (i + 1) (xs.setIfInBounds (off + i) v) (by simp at h ⊢; omega)
  refine ⟨by rw [h1]; simp, fun k => ?_⟩
  rw [h2 k]
  by_cases hk : off + i = k
  ·subst hk
   rw [if_neg (by omega), if_pos (by simp)]
   simp at h
   simp [Array.getElem?_setIfInBounds]; omega
  ·by_cases h3 : off + i ≤ k ∧ k < off + i + (vs.length + 1)
   ·rw [if_pos (by omega), if_pos (by simpa using h3)]
    have : k - (off + i) = (k - (off + (i + 1))) + 1 := by omega
    rw [this, List.getElem?_cons_succ]
   ·rw [if_neg (by omega), if_neg (by simpa using h3), Array.getElem?_setIfInBounds_ne hk]
theorem Bs {P : Program} {t : Nat} (places : Nat → Option (Nat × Nat)) (hp : ∀ i off n, bX P t i = some (off, n) → places i = some (off, n)) :
  ∀ {l : List (Nat × AV)} {cs : List AV} {K : List AV → Prop}, Fh P t l cs K → ∃ r, K r ∧ ∀ cur g w N (vs : List (Nat × Value)) (xs : Array Value),
   vs.length = l.length → (∀ (j : Nat) (p : Nat × AV) (q : Nat × Value), l[j]? = some p → vs[j]? = some q → q.1 = p.1 ∧ AR cur g w N p.2 q.2) → PW cur g w N cs xs →
   ∃ ys, Instr.fill places xs vs = some ys ∧ PW cur g w N r ys
 | [], cs, K, h => ⟨cs, h, fun cur g w N vs xs hl _ hx => by
   rw [List.length_eq_zero_iff.1 hl]
   exact ⟨xs, rfl, hx⟩⟩
 | (i, x) :: l, cs, K, h => by
  unfold Fh at h
  split at h
  ·rename_i off n hf
   obtain ⟨hok, hn, hle, h⟩ := h
   obtain ⟨r, hr, h1⟩ := Bs places hp h
   refine ⟨r, hr, fun cur g w N vs xs hl hv hx => ?_⟩
   rcases vs with _ | ⟨⟨i', v⟩, vs⟩
   ·simp at hl
   obtain ⟨e1, e2⟩ := hv 0 _ _ rfl rfl
   dsimp only at e1 e2
   subst e1
   obtain ⟨c1, c2, _⟩ := rY e2 hok
   obtain ⟨z1, z2⟩ := Jc v.cells off xs (by rw [c1, hn, hx.1]; exact hle)
   obtain ⟨ys, y1, y2⟩ := h1 cur g w N vs (v.cells.zipIdx.foldl (fun cs (c, j) => cs.setIfInBounds (off + j) c) xs) (by simpa using hl) (fun j p q hp' hq => hv (j + 1) p q (by simpa using hp') (by simpa using hq))
    (by
     refine ⟨by rw [z1, hx.1, nN _ _ _ (by omega)], fun j x' y hj hy => ?_⟩
     rw [nR _ _ _ (by omega)] at hj
     rw [z2, c1] at hy
     by_cases hb : off ≤ j ∧ j < off + (avCells x).length
     ·rw [if_pos hb] at hj hy; exact c2 _ _ _ hj hy
     ·rw [if_neg hb] at hj hy; exact hx.2 _ _ _ hj hy)
   refine ⟨ys, ?_, y2⟩
   simp only [Instr.fill, hp i' off n hf]
   rw [if_neg (by rw [c1, hn, hx.1]; simp; omega)]
   exact y1
  ·exact h.elim
theorem sD {P : Program} {t : Nat} {K : List AV → Prop} (h : bG P t K) : ∃ z, gH P t = some z ∧ K (z.cells.toList.map fun v => .r (.v v)) ∧ ∀ w, (zeroValue t).run P w = .ok z w := by
 unfold bG at h
 split at h
 ·rename_i z hz
  refine ⟨z, hz, h, fun w => ?_⟩
  unfold gH at hz
  split at hz
  ·rename_i i hi; simp [zeroValue, typeInfo, hi, hz]
  ·cases hz
 ·exact h.elim
theorem Io (cur : Nat → Nat) (g : Gh) (w : World) (N : Nat → Prop) (xs : Array Value) : PW cur g w N (xs.toList.map fun v => .r (.v v)) xs := by
 refine ⟨by simp, fun j x y hx hy => ?_⟩
 rw [List.getElem?_map] at hx
 simp [hy] at hx
 subst hx; exact .r (.v y)
theorem La {α β : Type} {f : α → Option β} : ∀ {l : List α} {r : List β}, l.mapM f = some r → ∀ (i : Nat) (x : α), l[i]? = some x → ∃ y, f x = some y ∧ r[i]? = some y
 | [], r, _, i, x, hx => by simp at hx
 | a :: l, r, h, i, x, hx => by
  rw [List.mapM_cons] at h
  cases hf : f a with
  | none => simp [hf] at h
  | some y =>
   cases hm : l.mapM f with
   | none => simp [hf, hm] at h
   | some ys =>
    simp [hf, hm] at h
    subst h
    cases i with
    | zero => simp at hx; subst hx; exact ⟨y, hf, rfl⟩
    | succ i => exact La hm i x (by simpa using hx)
theorem Mz {P : Program} {t : Nat} {parts : List (Nat × AV)} {K : AV → Prop} (hs : jO P t = true) (h : bG P t fun z => Fh P t parts z fun cs => K (.agg cs)) :
  ∃ r, K r ∧ ∀ cur g w N (vs : List (Nat × Value)), vs.length = parts.length → (∀ (j : Nat) (p : Nat × AV) (q : Nat × Value), parts[j]? = some p → vs[j]? = some q → q.1 = p.1 ∧ AR cur g w N p.2 q.2) →
   ∃ u, (Instr.build t vs.toArray).run P w = .ok u w ∧ AR cur g w N r u := by
 unfold jO at hs
 split at hs
 ·rename_i fs hu
  obtain ⟨pl, hpl⟩ := Option.isSome_iff_exists.1 hs
  unfold Rc at hpl
  rw [hu] at hpl
  obtain ⟨z, hz, hf, hzr⟩ := sD h
  obtain ⟨r, hr, h1⟩ := Bs (fun x => pl.toArray[x]?) (fun i off n hfi => by
   unfold bX at hfi
   rw [hu] at hfi
   cases hx : fs[i]? with
   | none => simp [hx] at hfi
   | some x =>
    simp [hx] at hfi
    obtain ⟨ho, hn⟩ := hfi
    obtain ⟨y, hy, hy2⟩ := La hpl i x (by simpa using hx)
    cases hi : P.info? x.type with
    | none => simp [hi] at hy
    | some ii =>
     simp [hi] at hy
     have : aO P x.type = ii.size := by simp [aO, hi]
     simp [hy2, ← hy, ho, ← hn, this]) hf
  refine ⟨_, hr, fun cur g w N vs hl hv => ?_⟩
  obtain ⟨ys, y1, y2⟩ := h1 cur g w N vs z.cells hl hv (Io cur g w N z.cells)
  refine ⟨.agg ys, ?_, .agg _ _ y2.1 y2.2⟩
  simp only [Instr.build, Sem.run_bind, hzr, Result.andThen_ok, run_underlying hu]
  have := run_places (P := P) w fs.toList pl hpl
  have y1' : Instr.fill (fun x => pl[x]?) z.cells vs = some ys := by simpa using y1
  simp [Array.mapM_eq_mapM_toList, this, y1']
 ·rename_i n el hu
  obtain ⟨z, hz, hf, hzr⟩ := sD h
  obtain ⟨r, hr, h1⟩ := Bs (fun i => some (i * aO P el, aO P el)) (fun i off n hfi => by
   unfold bX at hfi
   rw [hu] at hfi
   exact hfi) hf
  refine ⟨_, hr, fun cur g w N vs hl hv => ?_⟩
  obtain ⟨ys, y1, y2⟩ := h1 cur g w N vs z.cells hl hv (Io cur g w N z.cells)
  refine ⟨.agg ys, ?_, .agg _ _ y2.1 y2.2⟩
  simp only [Instr.build, Sem.run_bind, hzr, Result.andThen_ok, run_underlying hu, dN hs]
  simp [y1]
 ·cases hs
theorem arr1 {α : Type} {xs : Array α} {l : List α} (h : xs.toList = l) : xs = l.toArray := by rw [← h]
theorem aE3 {cur : Nat → Nat} {g : Gh} {w : World} {N : Nat → Prop} {q : Bool} {x y : AV} {vx vy : Value} (hx : AR cur g w N x vx) (hy : AR cur g w N y vy) : AR cur g w N (mA q x y) (if q then vx else vy) := by
 unfold mA
 split
 ·have e1 := cC hx
  have e2 := cC hy
  subst e1; subst e2
  cases q <;> exact .r (.v _)
 ·cases q
  ·exact hy
  ·exact hx
theorem aGn {cur : Nat → Nat} {g : Gh} {w : World} {N : Nat → Prop} {cs : List AV} {v : Value} (h : AR cur g w N (.tup cs) v) : ∃ xs : Array Value, v = .tuple xs ∧ xs.size = cs.length ∧ ∀ (j : Nat) (x : AV) (y : Value), cs[j]? = some x → xs[j]? = some y → AR cur g w N x y := by
 cases h with | tup _ xs hs h => exact ⟨xs, rfl, hs, h⟩
theorem Fg {P : Program} {t : Nat} {cs : List AV} {off : Nat} {r : AV} {cur : Nat → Nat} {g : Gh} {w : World} {N : Nat → Prop} {xs : Array Value} (hl : Sn P t (cs.drop off) r) (hx : PW cur g w N cs xs) :
  ∃ u, (part t xs off).run P w = .ok u w ∧ AR cur g w N r u := by
 obtain ⟨hk, hl⟩ := hl
 simp only [part, Sem.run_bind, uQ hk, Result.andThen_ok]
 rcases hl with ⟨ha, hn, rfl⟩ | ⟨ha, rest, hr⟩
 ·refine ⟨.agg (xs.extract off (off + aO P t)), by simp [ha, dN hk], .agg _ _ (by rw [List.length_take, List.length_drop, Array.size_extract, hx.1]; rw [List.length_drop] at hn; omega) (fun j x y hj hy => ?_)⟩
  rw [List.getElem?_take] at hj
  split at hj
  ·rw [List.getElem?_drop] at hj
   rw [Array.getElem?_extract] at hy
   split at hy
   ·exact hx.2 _ _ _ hj hy
   ·cases hy
  ·cases hj
 ·have h0 : cs[off]? = some r := by
   have : (cs.drop off)[0]? = some r := by rw [hr]; rfl
   simpa using this
  have hlt : off < xs.size := by rw [hx.1]; exact (List.getElem?_eq_some_iff.1 h0).1
  have hx0 : xs[off]? = some xs[off] := Array.getElem?_eq_getElem hlt
  exact ⟨xs[off], by simp [ha, hx0], hx.2 _ _ _ h0 hx0⟩
theorem aEx {o : Oper} {st : St} {K : List Loc → AV → Prop} (h : valK C o.op st K) : ∃ l r, K l r ∧
  ∀ (e : Env) (st' : St) (g : Gh) (a : Act) (w : World), SR C e st' g a w → Ag l st st' → ∃ v w', (execOp a.eval o).run C.P w = .ok (.value v) w' ∧ Fine w w' ∧ AR st'.cur g w (e.N st' g) r v := by
 obtain ⟨dst, op, type, pos, after, guard⟩ := o
 dsimp only at h
 unfold valK at h
 split at h
 ·exact ⟨_, _, h, fun e st' g a w hs ha => ⟨_, w, rfl, Fine.refl w, arg hs ha (by simp)⟩⟩
 ·exact ⟨_, _, h, fun e st' g a w hs ha => ⟨_, w, rfl, Fine.refl w, arg hs ha (by simp)⟩⟩
 ·rename_i c x y
  split at h
  ·rename_i q hc
   refine ⟨_, _, h, fun e st' g a w hs ha => ?_⟩
   have h1 := arg hs ha (x := c) (by simp)
   rw [hc] at h1
   have h2 := cC h1
   refine ⟨_, w, ?_, Fine.refl w, aE3 (q := q) (arg hs ha (x := x) (by simp)) (arg hs ha (x := y) (by simp))⟩
   simp [execOp, h2, asBool]
  ·exact h.elim
 ·rename_i op t x y yt
  obtain ⟨r, h1, h2⟩ := aB7 (P := C.P) h
  refine ⟨_, r, h1, fun e st' g a w hs ha => ?_⟩
  obtain ⟨v, w', h3, h4, h5⟩ := h2 st'.cur g w (e.N st' g) _ _ x y (arg hs ha (x := x) (by simp)) (arg hs ha (x := y) (by simp))
  exact ⟨v, w', by simp only [execOp, Sem.run_bind] at h3 ⊢; rw [h3]; rfl, h4, h5⟩
 ·rename_i op t x
  obtain ⟨r, h1, h2⟩ := aG9 (P := C.P) h
  refine ⟨_, r, h1, fun e st' g a w hs ha => ?_⟩
  obtain ⟨v, h3, h5⟩ := h2 st'.cur g w (e.N st' g) _ (arg hs ha (x := x) (by simp))
  exact ⟨v, w, by simp only [execOp, Sem.run_bind]; rw [h3]; rfl, Fine.refl w, h5⟩
 ·rename_i s t x
  obtain ⟨r, h1, h2⟩ := Tg (P := C.P) h
  refine ⟨_, r, h1, fun e st' g a w hs ha => ?_⟩
  obtain ⟨v, h3, h5⟩ := h2 st'.cur g w (e.N st' g) _ (arg hs ha (x := x) (by simp))
  exact ⟨v, w, by simp only [execOp, Sem.run_bind]; rw [h3]; rfl, Fine.refl w, h5⟩
 ·rename_i t x
  obtain ⟨l, r, h1, h2⟩ := Uh h
  refine ⟨_, r, h1, fun e st' g a w hs ha => ?_⟩
  obtain ⟨v, h3, h5⟩ := h2 e st' g a w _ hs ha.left (arg hs ha.right (x := x) (by simp))
  exact ⟨v, w, by simp only [execOp, Sem.run_bind]; rw [h3]; rfl, Fine.refl w, h5⟩
 ·rename_i s x f
  obtain ⟨l, r, h1, h2⟩ := Dh h
  refine ⟨_, r, h1, fun e st' g a w hs ha => ?_⟩
  obtain ⟨v, h3, h5⟩ := h2 e st' g a w _ hs ha.left (arg hs ha.right (x := x) (by simp))
  exact ⟨v, w, by simp only [execOp, Sem.run_bind]; rw [h3]; rfl, Fine.refl w, h5⟩
 ·rename_i t x i
  split at h
  ·rename_i k0 n hi
   obtain ⟨l, r, h1, h2⟩ := Dv (k0 := k0) h
   refine ⟨_, r, h1, fun e st' g a w hs ha => ?_⟩
   obtain ⟨v, h3, h5⟩ := h2 e st' g a w _ hs ha.left (arg hs ha.right (x := x) (by simp))
   have h6 := arg hs ha.right (x := i) (by simp)
   rw [hi] at h6
   exact ⟨v, w, by simp only [execOp, Sem.run_bind]; rw [cC h6, h3]; rfl, Fine.refl w, h5⟩
  ·exact h.elim
 ·rename_i t x i
  split at h
  ·rename_i s k0 n hx hi
   obtain ⟨ht, h0, hlt, h⟩ := h
   refine ⟨_, _, h, fun e st' g a w hs ha => ?_⟩
   have h5 := arg hs ha (x := x) (by simp)
   have h6 := arg hs ha (x := i) (by simp)
   rw [hx] at h5; rw [hi] at h6
   refine ⟨_, w, ?_, Fine.refl w, .r (.v _)⟩
   simp only [execOp, Sem.run_bind, cC h5, cC h6, Instr.index, asIntOf, Sem.run_pure, Result.andThen_ok, run_underlying (qS ht), h0, if_true]
   have hn : n.toNat < s.size := by omega
   have : s[n.toNat]? = some s[n.toNat] := by simp [hn]
   rw [this]
   have e2 : s.data.toList.getD n.toNat 0 = s[n.toNat] := by
    have : n.toNat < s.data.toList.length := by simpa using hn
    simp only [List.getD, List.getElem?_eq_getElem this, Option.getD_some]; rfl
   rw [e2]; rfl
  ·rename_i cs k0 n hx hi
   split at h
   ·rename_i len el hl
    obtain ⟨h0, hlt, hk, h⟩ := h
    obtain ⟨r, h1, h2⟩ := nA h
    refine ⟨_, r, h1, fun e st' g a w hs ha => ?_⟩
    have h5 := arg hs ha (x := x) (by simp)
    have h6 := arg hs ha (x := i) (by simp)
    rw [hx] at h5; rw [hi] at h6
    obtain ⟨xs, hv, p1, p2⟩ := rG h5
    obtain ⟨u, h3, h4⟩ := Fg h2 (⟨p1, p2⟩ : PW st'.cur g w (e.N st' g) cs xs)
    refine ⟨u, w, ?_, Fine.refl w, h4⟩
    simp only [execOp, Sem.run_bind, hv, cC h6, Instr.index, asIntOf, Sem.run_pure, Result.andThen_ok, run_underlying (aAc hl)]
    simp [h0, hlt, dN hk, h3]
   ·exact h.elim
  ·exact h.elim
 ·rename_i t i
  split at h
  ·rename_i xs hx
   split at h
   ·rename_i x hxi
    refine ⟨_, _, h, fun e st' g a w hs ha => ?_⟩
    have h5 := arg hs ha (x := t) (by simp)
    rw [hx] at h5
    obtain ⟨vs, hv, p1, p2⟩ := aGn h5
    have hlt : i < vs.size := by rw [p1]; exact (List.getElem?_eq_some_iff.1 hxi).1
    have hvi : vs[i]? = some vs[i] := Array.getElem?_eq_getElem hlt
    refine ⟨vs[i], w, ?_, Fine.refl w, p2 _ _ _ hxi hvi⟩
    simp [execOp, hv, Instr.extract, hvi]
   ·exact h.elim
  ·exact h.elim
 ·rename_i x
  obtain ⟨l, r, h1, h2⟩ := Hi (C := C) h
  refine ⟨_, r, h1, fun e st' g a w hs ha => ?_⟩
  obtain ⟨h3, h5⟩ := h2 e st' g a w _ hs ha.left (arg hs ha.right (x := x) (by simp))
  refine ⟨a.eval x, w, ?_, Fine.refl w, h5⟩
  rcases h3 with ⟨ad, h3⟩ | ⟨f, vs, h3⟩ <;> simp [execOp, h3]
 ·rename_i t parts
  obtain ⟨hp, h⟩ := h
  obtain ⟨r, h1, h2⟩ := Mz (P := C.P) hp h
  refine ⟨_, r, h1, fun e st' g a w hs ha => ?_⟩
  obtain ⟨u, h3, h4⟩ := h2 st'.cur g w (e.N st' g) (parts.toList.map fun p => (p.1, a.eval p.2)) (by simp) (fun j p q hp hq => by
   rw [List.getElem?_map] at hp hq
   cases hj : parts.toList[j]? with
   | none => simp [hj] at hp
   | some z =>
    simp only [hj, Option.map_some, Option.some.injEq] at hp hq
    subst hp; subst hq
    exact ⟨rfl, arg hs ha (List.mem_map.2 ⟨z, List.mem_of_getElem? hj, rfl⟩)⟩)
  refine ⟨u, w, ?_, Fine.refl w, h4⟩
  simp only [execOp, Sem.run_bind]
  have : (Array.map (fun x => (x.1, a.eval x.2)) parts) = (parts.toList.map fun p => (p.1, a.eval p.2)).toArray := by apply Array.ext'; simp
  rw [show (parts.map fun (i, x) => (i, a.eval x)) = (parts.toList.map fun p => (p.1, a.eval p.2)).toArray from this, h3]; rfl
 ·rename_i c
  split at h
  ·rename_i x t hc hargs hat
   replace hargs := arr1 hargs
   replace hat := arr1 hat
   obtain ⟨l, r, h1, h2⟩ := Yu h
   refine ⟨_, r, h1, fun e st' g a w hs ha => ?_⟩
   obtain ⟨u, h3, h4⟩ := h2 e st' g a w _ type hs ha.left (arg hs ha.right (x := x) (by simp))
   refine ⟨u, w, ?_, Fine.refl w, h4⟩
   simp [execOp, resolve, hc, hargs, hat, invoke, builtin, h3]
  ·rename_i x y hc hargs
   replace hargs := arr1 hargs
   split at h
   ·rename_i k n k' m hx hy
    obtain ⟨rfl, h⟩ := h
    refine ⟨_, _, h, fun e st' g a w hs ha => ?_⟩
    have h5 := arg hs ha (x := x) (by simp)
    have h6 := arg hs ha (x := y) (by simp)
    rw [hx] at h5; rw [hy] at h6
    refine ⟨_, w, ?_, Fine.refl w, .r (.v _)⟩
    simp [execOp, resolve, hc, hargs, invoke, builtin, Builtin.min_, cC h5, cC h6, Builtin.min2]
   ·exact h.elim
  ·rename_i x y hc hargs
   replace hargs := arr1 hargs
   split at h
   ·rename_i k n k' m hx hy
    obtain ⟨rfl, h⟩ := h
    refine ⟨_, _, h, fun e st' g a w hs ha => ?_⟩
    have h5 := arg hs ha (x := x) (by simp)
    have h6 := arg hs ha (x := y) (by simp)
    rw [hx] at h5; rw [hy] at h6
    refine ⟨_, w, ?_, Fine.refl w, .r (.v _)⟩
    simp [execOp, resolve, hc, hargs, invoke, builtin, Builtin.max_, cC h5, cC h6, Builtin.max2]
   ·exact h.elim
  ·exact h.elim
 ·exact h.elim
end
theorem bU {l : List Loc} {st st' : St} : xN st' (l.map fun x => (x, st.get x)) ↔ Ag l st st' := by
 constructor
 ·intro h x hx
  exact h x _ (List.mem_map.2 ⟨x, hx, rfl⟩)
 ·intro h x c hc
  obtain ⟨y, hy, he⟩ := List.mem_map.1 hc
  simp only [Prod.mk.injEq] at he
  obtain ⟨rfl, rfl⟩ := he
  exact h y hy
theorem Ey {x : AV} (h : fQ x = true) : isNd x = false := by cases x <;> first | rfl | cases h
theorem qJ {l : List AV} (h : cW l = true) : ∀ c ∈ l, isNd c = false := fun c hc => Ey (sN h c hc)
theorem Qr {l : List Value} : ∀ c ∈ l.map (fun v => AV.r (.v v)), isNd c = false := fun c hc => by
 obtain ⟨_, _, rfl⟩ := List.mem_map.1 hc; rfl
theorem zW {rows : List (List AV)} (h : ∀ row ∈ rows, ∀ c ∈ row, isNd c = false) : ∀ c ∈ rows.flatten, isNd c = false := fun c hc => by
 obtain ⟨row, hr, hc⟩ := List.mem_flatten.1 hc
 exact h row hr c hc
theorem pW {sz : Nat} {α : Type} : ∀ {rows : List (List α)}, (∀ row ∈ rows, row.length = sz) → rows.flatten.length = rows.length * sz
 | [], _ => by simp
 | r :: rows, h => by
  rw [List.flatten_cons, List.length_append, pW fun row hr => h row (List.mem_cons_of_mem _ hr), h r (List.mem_cons_self ..), List.length_cons, Nat.succ_mul]; omega
theorem tM : ∀ (cs : List AV) (p : Nat) (new : List AV), p + new.length ≤ cs.length → dR cs p new = cs.take p ++ new ++ cs.drop (p + new.length)
 | [], p, [], h => by simp at h; subst h; simp [dR]
 | c :: cs, p, [], h => by simp [dR]
 | [], p, v :: vs, h => by simp at h
 | c :: cs, 0, v :: vs, h => by
  have ih := tM cs 0 vs (by simp at h ⊢; omega)
  simp only [dR, ih]
  simp
 | c :: cs, p + 1, v :: vs, h => by
  have ih := tM cs p (v :: vs) (by simp at h ⊢; omega)
  simp only [dR, ih]
  have e : p + 1 + (v :: vs).length = p + (v :: vs).length + 1 := by omega
  rw [e, List.take_succ_cons, List.drop_succ_cons]; rfl
theorem yU {sz : Nat} {off : Nat} {new : List AV} (hfit : off + new.length ≤ sz) : ∀ {rows : List (List AV)} {i : Nat}, (∀ row ∈ rows, row.length = sz) → i < rows.length →
  (rows.set i (dR (rows.getD i []) off new)).flatten = rows.flatten.take (i * sz + off) ++ new ++ rows.flatten.drop (i * sz + off + new.length)
 | [], i, _, hi => by simp at hi
 | r :: rows, 0, h, _ => by
  have hr := h r (List.mem_cons_self ..)
  simp only [List.set_cons_zero, List.getD_cons_zero, List.flatten_cons, Nat.zero_mul, Nat.zero_add]
  rw [tM _ _ _ (by omega), List.take_append_of_le_length (by omega), List.drop_append_of_le_length (by omega)]
  simp only [List.append_assoc]
 | r :: rows, i + 1, h, hi => by
  have hr := h r (List.mem_cons_self ..)
  have ih := yU hfit (rows := rows) (i := i) (fun row hrow => h row (List.mem_cons_of_mem _ hrow)) (by simpa using hi)
  simp only [List.set_cons_succ, List.getD_cons_succ, List.flatten_cons]
  have e1 : (i + 1) * sz + off = r.length + (i * sz + off) := by rw [Nat.succ_mul, hr]; omega
  rw [ih, e1, List.take_length_add_append, Nat.add_assoc r.length, List.drop_length_add_append]
  simp only [List.append_assoc]
section
variable {C : Ctx}
theorem SR.fresh {e : Env} {st : St} {g : Gh} {a : Act} {w : World} (h : SR C e st g a w) (hok : e.ok C) {d : Nat} (hd : d < st.n) (o : Obj) (res : Res) (v : Value) (hv : bV v = some w.heap.size) (hv1 : v.oneCell' = true)
  (hres : ∀ (cur : Nat → Nat) (g' : Gh) (N : Nat → Prop), g' d = v → g'.f d = [] → (∀ x y, AR st.cur g w (e.N st g) x y → AR cur g' (w.alloc o) N x y) → ResR cur g' (w.alloc o) N d res) :
  SR C e (st.upd [(.R d, .s (st.cur d + 1) res), (.T d, .a (.os d (st.cur d + 1)))]) (gput g d v []) (a.put (some d) v) (w.alloc o) := by
 have h1 := (h.turn (w' := w.alloc o) d (st.cur d + 1) res v [] rfl rfl rfl (by simp) (fun b hb _ => RowKit.Below.heap_alloc w o b hb) (.inl (by omega)) (fun b _ hb => by
  rcases hb with hb | hb
  ·rw [hv] at hb; simp at hb; subst hb; exact ⟨by simp, .inr (Nat.le_refl _)⟩
  ·cases hb) hok (fun st' g' hst hg hl _ => hres st'.cur g' (e.N st' g') (by rw [hg]; simp [gput]) (by rw [hg]; simp [gput]) hl)).1
 exact h1.put (d := d) (v := v) hd (.os d (st.cur d + 1) v hv1 (.inr ⟨by simp [St.cur, cX], by simp [gput]⟩))
theorem vV (w : World) (o : Obj) : (w.alloc o).heap[w.heap.size]? = some o := by
 show (w.heap.push o)[w.heap.size]? = some o
 simp
theorem qB {P : Program} {o : Oper} {d : Nat} {a : Act} {w w' : World} {v : Value} {next : Act → World → Prop} {Q : Exit → Act → World → Prop} (hd : o.dst = some d) (hr : (execOp a.eval o).run P w = .ok (.value v) w') (h : next (a.put (some d) v) w') : o.wp P a w next Q := by
 unfold Oper.wp
 rw [hr]
 show next (a.put o.dst v) w'
 rw [hd]; exact h
theorem Wx {st : St} {d t : Nat} {o : Oper} {K : List Loc → List (Loc × Cont) → Prop} (hdst : o.dst = some d) (ho : o.op = .alloc t) (hd : d < st.n)
  (h : bG C.P t fun z => cW z = true ∧ K [.R d] [(.R d, .s (st.cur d + 1) (.bx z)), (.T d, .a (.os d (st.cur d + 1)))]) :
  ∃ l outs, K l outs ∧ jI C o st.n (l.map fun x => (x, st.get x)) outs := by
 obtain ⟨z, hz, ⟨hok, hK⟩, hzr⟩ := sD h
 refine ⟨_, _, hK, fun e st' a w next Q hn ⟨heok, g, hs⟩ ha hnext => ?_⟩
 replace ha := bU.1 ha
 have hcur : st'.cur d = st.cur d := by simp [St.cur, ha.R (k := d) (by simp)]
 have hr : (execOp a.eval o).run C.P w = .ok (.value (.pointer (some ⟨w.heap.size, 0, none⟩))) (w.alloc (.cells z.cells t)) := by
  simp [execOp, ho, Instr.alloc, hzr, newVar, newRow]
 have key := hs.fresh heok (d := d) (by omega) (.cells z.cells t) (.bx (z.cells.toList.map fun v => .r (.v v))) (.pointer (some ⟨w.heap.size, 0, none⟩)) rfl rfl (fun cur g' N hg hf hl => by
  obtain ⟨p1, p2⟩ := Io cur g' (w.alloc (.cells z.cells t)) N z.cells
  exact ⟨w.heap.size, z.cells, t, hg, vV w _, p1, p2, by rw [hf, lK Qr]; exact .none⟩)
 rw [hcur] at key
 exact qB hdst hr (hnext _ _ ⟨heok, _, key⟩)
theorem aLk {st : St} {d t : Nat} {x : Operand} {o : Oper} {K : List Loc → List (Loc × Cont) → Prop} (hdst : o.dst = some d) (ho : o.op = .box t x) (hd : d < st.n)
  (h : cW (avCells (ev st x)) = true ∧ K (.R d :: rd [x]) [(.R d, .s (st.cur d + 1) (.bx (avCells (ev st x)))), (.T d, .a (.os d (st.cur d + 1)))]) :
  ∃ l outs, K l outs ∧ jI C o st.n (l.map fun x => (x, st.get x)) outs := by
 refine ⟨_, _, h.2, fun e st' a w next Q hn ⟨heok, g, hs⟩ ha hnext => ?_⟩
 replace ha := bU.1 ha
 have hcur : st'.cur d = st.cur d := by simp [St.cur, ha.R (k := d) (by simp)]
 have hx := arg hs (l := [x]) (fun y hy => ha y (List.mem_cons_of_mem _ hy)) (x := x) (by simp)
 obtain ⟨c1, c2, c3⟩ := rY hx h.1
 have hr : (execOp a.eval o).run C.P w = .ok (.value (.pointer (some ⟨w.heap.size, 0, none⟩))) (w.alloc (.cells (a.eval x).cells t)) := by
  simp [execOp, ho, Instr.box, newVar, newRow]
 have key := hs.fresh heok (d := d) (by omega) (.cells (a.eval x).cells t) (.bx (avCells (ev st x))) (.pointer (some ⟨w.heap.size, 0, none⟩)) rfl rfl (fun cur g' N hg hf hl =>
  ⟨w.heap.size, (a.eval x).cells, t, hg, vV w _, c1, fun j x y hj hy => hl _ _ (c2 j x y hj hy), by rw [hf, lK (qJ h.1)]; exact .none⟩)
 rw [hcur] at key
 exact qB hdst hr (hnext _ _ ⟨heok, _, key⟩)
def over (xs : List Value) (p : Nat) (vs : List Value) : List Value := xs.take p ++ vs ++ xs.drop (p + vs.length)
theorem Cy {xs : List Value} {p : Nat} {vs : List Value} (h : p + vs.length ≤ xs.length) : (over xs p vs).length = xs.length := by
 simp [over]; omega
theorem wX {xs : List Value} {p : Nat} {vs : List Value} (h : p + vs.length ≤ xs.length) (k : Nat) : (over xs p vs)[k]? = if p ≤ k ∧ k < p + vs.length then vs[k - p]? else xs[k]? := by
 have hp : (xs.take p).length = p := by simp; omega
 unfold over
 rw [List.append_assoc]
 by_cases h1 : k < p
 ·rw [List.getElem?_append_left (by omega), if_neg (by omega), List.getElem?_take_of_lt h1]
 ·rw [List.getElem?_append_right (by omega), hp]
  by_cases h2 : k < p + vs.length
  ·rw [List.getElem?_append_left (by omega), if_pos (by omega)]
  ·rw [List.getElem?_append_right (by omega), if_neg (by omega), List.getElem?_drop]
   congr 1; omega
theorem Kb {cs cs' new : List AV} {xs vs : List Value} {p : Nat} (hc : cs' = cs.take p ++ new ++ cs.drop (p + new.length)) (hl : p + new.length ≤ cs.length) (hx : cs.length = xs.length) (hv : vs.length = new.length) (hn : ∀ c ∈ new, isNd c = false) :
  (nds cs' (over xs p vs)).Sublist (nds cs xs) := by
 have e1 : nds cs' (over xs p vs) = nds (cs.take p) (xs.take p) ++ nds (cs.drop (p + new.length)) (xs.drop (p + new.length)) := by
  rw [hc]; unfold over
  rw [sW (by simp; omega), sW (by simp; omega), lK hn, List.append_nil, hv]
 have e2 : nds cs xs = nds (cs.take p) (xs.take p) ++ (nds ((cs.drop p).take new.length) ((xs.drop p).take new.length) ++ nds (cs.drop (p + new.length)) (xs.drop (p + new.length))) := by
  rw [← List.drop_drop, ← List.drop_drop, ← sW (by simp; omega), List.take_append_drop, List.take_append_drop, ← sW (by simp; omega), List.take_append_drop, List.take_append_drop]
 rw [e1, e2]
 exact List.Sublist.append (List.Sublist.refl _) (List.sublist_append_right _ _)
theorem wG {P : Program} {t : Nat} (hk : bD P t = true) (w : World) (b off el : Nat) (cur : Array Value) (hh : w.heap[b]? = some (.cells cur el (0, 0))) (v : Value) (hsz : v.cells.size = aO P t) (hfit : off + v.cells.size ≤ cur.size) (h1 : ∀ u ∈ v.cells.toList, u.oneCell' = true) :
  (Instr.storeAt t (.pointer (some ⟨b, off, none⟩)) v).run P w = .ok () (w.setRow b (over cur.toList off v.cells.toList).toArray) := by
 have := run_storeCells_at P b off el v.cells.toList 0 cur w hh (by simpa using hfit) h1
 simp only [Instr.storeAt, Instr.sureAddr, storeVar, Sem.run_bind, Sem.run_pure, Result.andThen_ok, dN hk]
 rw [if_neg (by simpa using hsz)]
 simpa [over] using this
theorem yF {st : St} {g : Gh} {k ver b : Nat} {cells : List AV} (hk : aB k st.rs = (ver, .bx cells)) (hb : g k = .pointer (some ⟨b, 0, none⟩)) : blk st g k b :=
 ⟨by rw [hk]; simp, .inl (by rw [hb]; rfl)⟩
theorem Fe {st : St} {g : Gh} (k : Nat) : gput g k (g k) (g.f k) = g := by
 cases g with
 | mk v f =>
  have h1 : (fun j => if j = k then v k else v j) = v := funext fun j => by
   by_cases h : j = k
   ·rw [if_pos h, h]
   ·rw [if_neg h]
  have h2 : (fun j => if j = k then f k else f j) = f := funext fun j => by
   by_cases h : j = k
   ·rw [if_pos h, h]
   ·rw [if_neg h]
  show Gh.mk (fun j => if j = k then v k else v j) (fun j => if j = k then f k else f j) = ⟨v, f⟩
  rw [h1, h2]
theorem Jq {e : Env} {st : St} {g : Gh} {a : Act} {w : World} (h : SR C e st g a w) (hok : e.ok C) {k ver b off t : Nat} {cells : List AV} (hk : aB k st.rs = (ver, .bx cells)) (hb : g k = .pointer (some ⟨b, 0, none⟩))
  {x : AV} {v : Value} (hx : AR st.cur g w (e.N st g) x v) (hxo : cW (avCells x) = true) (hl : (avCells x).length = aO C.P t) (hkn : bD C.P t = true) (hfit : off + aO C.P t ≤ cells.length) :
  ∃ w' g', (Instr.storeAt t (.pointer (some ⟨b, off, none⟩)) v).run C.P w = .ok () w' ∧ SR C e { st with rs := putR k (ver, .bx (dR cells off (avCells x))) st.rs } g' a w' := by
 have hres := h.res k
 rw [hk] at hres
 obtain ⟨b', cu, el, h1, h2, h3, h4, h5⟩ := hres
 have : b' = b := by rw [hb] at h1; simp at h1; exact h1.symm
 subst this
 obtain ⟨c1, c2, c3⟩ := rY hx hxo
 have hrun := wG hkn w b' off el cu h2 v (by omega) (by omega) c3
 have hover : off + v.cells.toList.length ≤ cu.toList.length := by simp; omega
 have hbk := yF hk hb
 obtain ⟨f', f1, f2⟩ := h5.sub (v' := g k) (Kb (vs := v.cells.toList) (tM cells off (avCells x) (by omega)) (by omega) (by rw [Array.length_toList]; exact h3.symm) (by rw [Array.length_toList]; exact c1) (qJ hxo)) rfl
 have hf' : ∀ c ∈ f', blk st g k c := fun c hc => ⟨hbk.1, .inr (f1.subset hc)⟩
 have := (h.turn (w' := w.setRow b' (over cu.toList off v.cells.toList).toArray) k ver (.bx (dR cells off (avCells x))) (g k) f' rfl rfl rfl (by simp)
  (fun c hc hne => setRow_other w b' c _ (fun e => hne (by rw [e]; exact yF hk hb))) (.inr ⟨by simp [St.cur, hk], rfl⟩)
  (fun c _ hc => by
   have hbc : blk st g k c := ⟨hbk.1, hc.imp id fun hc => f1.subset hc⟩
   exact ⟨by simpa using (h.low k _ hbc).2.1, .inl hbc⟩) hok
  (fun st' g' hst hg hlift hN => by
   refine ⟨b', _, el, by rw [hg]; simp [gput, hb], setRow_heap w b' cu _ el _ h2, by simp only [List.size_toArray]; rw [Cy hover, nN _ _ _ (by omega)]; simpa using h3, fun j y u hj hu => ?_, ?_⟩
   rotate_left
   ·rw [show g' k = g k from by rw [hg]; exact if_pos rfl, show g'.f k = f' from by rw [hg]; exact if_pos rfl]
    exact f2.lift (by simp) hN fun c hc => setRow_other w b' c _ (f2.apart (by rw [hb]; rfl) c hc)
   rw [nR _ _ _ (by omega)] at hj
   rw [List.getElem?_toArray, wX hover] at hu
   by_cases hin : off ≤ j ∧ j < off + (avCells x).length
   ·rw [if_pos hin] at hj
    rw [if_pos (by simpa [c1] using hin)] at hu
    exact hlift _ _ (c2 _ _ _ hj (by simpa using hu))
   ·rw [if_neg hin] at hj
    rw [if_neg (by simpa [c1] using hin)] at hu
    exact hlift _ _ (h4 _ _ _ hj (by simpa using hu)))).1
 exact ⟨_, _, hrun, this⟩
theorem Wg {e : Env} {st : St} {g : Gh} {a : Act} {w : World} (h : SR C e st g a w) (hok : e.ok C) {k ver b el sz n c i off t : Nat} {rows : List (List AV)} (hk : aB k st.rs = (ver, .sl el sz rows)) (hb : g k = .slice (some ⟨b, 0, none⟩) n c)
  {x : AV} {v : Value} (hx : AR st.cur g w (e.N st g) x v) (hxo : cW (avCells x) = true) (hl : (avCells x).length = aO C.P t) (hkn : bD C.P t = true) (hi : i < rows.length) (hfit : off + aO C.P t ≤ sz) :
  ∃ w' g', (Instr.storeAt t (.pointer (some ⟨b, i * sz + off, none⟩)) v).run C.P w = .ok () w' ∧ SR C e { st with rs := putR k (ver, .sl el sz (rows.set i (dR (rows.getD i []) off (avCells x)))) st.rs } g' a w' := by
 obtain ⟨xs, h1, h2, h3, h5⟩ := rE h hk
 obtain ⟨hxs, h1'⟩ := h1
 rcases h1' with ⟨h4, _⟩ | ⟨b', cap, cu, hv, hb0, hh, hn, hm, hcs, ht⟩
 ·rw [hb] at h4; simp at h4
 have : b' = b ∧ n = rows.length := by rw [hb] at hv; simp at hv; exact ⟨hv.1.symm, hv.2.1⟩
 obtain ⟨rfl, rfl⟩ := this
 obtain ⟨c1, c2, c3⟩ := rY hx hxo
 have hblk : blk st g k b' := ⟨by rw [hk]; simp, .inl (by rw [hb]; rfl)⟩
 have hmul : (i + 1) * sz ≤ rows.length * sz := Nat.mul_le_mul_right _ hi
 rw [Nat.succ_mul] at hmul
 have hmul2 : rows.length * sz ≤ cap * sz := Nat.mul_le_mul_right _ hn
 have hlen : i * sz + off + v.cells.size ≤ rows.length * sz := by omega
 have hrun := wG hkn w b' (i * sz + off) el cu hh v (by omega) (by omega) c3
 have hover : i * sz + off + v.cells.toList.length ≤ cu.toList.length := by simp; omega
 have hoverx : i * sz + off + v.cells.toList.length ≤ xs.length := by simp; omega
 have hrow : rows[i]? = some (rows.getD i []) := by simp [hi]
 have hrl : (rows.getD i []).length = sz := h2 _ (List.mem_of_getElem? hrow)
 obtain ⟨f', f1, f2⟩ := h5.sub (v' := g k) (Kb (vs := v.cells.toList) (yU (new := avCells x) (off := off) (by omega) h2 hi) (by rw [pW h2]; omega) (by rw [pW h2, hxs]) (by rw [Array.length_toList]; exact c1) (qJ hxo)) rfl
 have := (h.turn (w' := w.setRow b' (over cu.toList (i * sz + off) v.cells.toList).toArray) k ver (.sl el sz (rows.set i (dR (rows.getD i []) off (avCells x)))) (g k) f' rfl rfl rfl (by simp)
  (fun c hc hne => setRow_other w b' c _ (fun e => hne (by rw [e]; exact hblk))) (.inr ⟨by simp [St.cur, hk], rfl⟩)
  (fun c _ hc => by
   have hbc : blk st g k c := ⟨hblk.1, hc.imp id fun hc => f1.subset hc⟩
   exact ⟨by simpa using (h.low k _ hbc).2.1, .inl hbc⟩) hok
  (fun st' g' hst hg hlift hN => by
   refine ⟨over xs (i * sz + off) v.cells.toList, ⟨by rw [Cy hoverx, hxs, List.length_set], .inr ⟨b', cap, _, by rw [hg]; simp only [gput, if_true, List.length_set]; exact hv, hb0, setRow_heap w b' cu _ el _ hh, by simpa using hn, hm, by simp only [List.size_toArray]; rw [Cy hover]; simpa using hcs, ?_⟩⟩, ?_, ?_, ?_⟩
   rotate_right
   ·rw [show g' k = g k from by rw [hg]; exact if_pos rfl, show g'.f k = f' from by rw [hg]; exact if_pos rfl]
    exact f2.lift (by simp) hN fun c hc => setRow_other w b' c _ (f2.apart (by rw [hb]; rfl) c hc)
   ·apply List.ext_getElem?
    intro q
    simp only [List.length_set]
    rw [List.getElem?_take, wX hoverx]
    by_cases hq : q < rows.length * sz
    ·rw [if_pos hq, wX hover, ← ht, List.getElem?_take_of_lt hq]
    ·rw [if_neg hq, if_neg (by simp at hoverx ⊢; omega), List.getElem?_eq_none (by omega)]
   ·intro row hr
    rcases List.mem_or_eq_of_mem_set hr with hr | rfl
    ·exact h2 row hr
    ·rw [nN _ _ _ (by omega), hrl]
   ·intro i2 j row y u hi2 hj hu
    rw [wX hoverx] at hu
    rw [List.getElem?_set] at hi2
    by_cases hii : i = i2
    ·subst hii
     simp only [if_true, hi] at hi2
     simp at hi2
     subst hi2
     rw [← List.getD_eq_getElem?_getD] at hj
     rw [nR _ _ _ (by omega)] at hj
     by_cases hin : off ≤ j ∧ j < off + (avCells x).length
     ·rw [if_pos hin] at hj
      rw [if_pos (by simp [c1]; omega)] at hu
      refine hlift _ _ (c2 _ _ _ hj ?_)
      rw [← Array.getElem?_toList, ← hu]; congr 1; omega
     ·rw [if_neg hin] at hj
      rw [if_neg (by simp [c1]; omega)] at hu
      exact hlift _ _ (h3 _ _ _ _ _ hrow hj hu)
    ·rw [if_neg hii] at hi2
     have hjs : j < sz := by
      rw [← h2 row (List.mem_of_getElem? hi2)]; exact (List.getElem?_eq_some_iff.1 hj).1
     have hne : ¬ (i * sz + off ≤ i2 * sz + j ∧ i2 * sz + j < i * sz + off + v.cells.toList.length) := by
      rintro ⟨p1, p2⟩
      simp at p2
      rcases Nat.lt_or_gt_of_ne hii with hlt | hgt
      ·have := Nat.mul_le_mul_right sz hlt
       rw [Nat.succ_mul] at this; omega
      ·have := Nat.mul_le_mul_right sz hgt
       rw [Nat.succ_mul] at this; omega
     rw [if_neg hne] at hu
     exact hlift _ _ (h3 _ _ _ _ _ hi2 hj hu))).1
 exact ⟨_, _, hrun, this⟩
theorem wB {P : Program} {o : Oper} {a : Act} {w w' : World} {next : Act → World → Prop} {Q : Exit → Act → World → Prop} (hd : o.dst = none) (hr : (execOp a.eval o).run P w = .ok .skip w') (h : next a w') : o.wp P a w next Q := by
 unfold Oper.wp
 rw [hr]
 show next (a.put o.dst undef) w'
 rw [hd]; exact h
theorem Tj {st : St} {t : Nat} {x v : Operand} {o : Oper} {K : List Loc → List (Loc × Cont) → Prop} (hdst : o.dst = none) (ho : o.op = .store t x v)
  (h : Hb C.P st t (ev st x) (ev st v) fun l outs => K (l ++ rd [x, v]) outs) :
  ∃ l outs, K l outs ∧ jI C o st.n (l.map fun x => (x, st.get x)) outs := by
 unfold Hb at h
 obtain ⟨hxo, hl, hkn, h⟩ := h
 have run : ∀ (a : Act) (w w' : World), (Instr.storeAt t (a.eval x) (a.eval v)).run C.P w = .ok () w' → (execOp a.eval o).run C.P w = .ok .skip w' := fun a w w' hr => by
  simp [execOp, ho, hr]
 split at h
 ·rename_i k ver hxe
  split at h
  ·rename_i cv cells hk
   obtain ⟨rfl, hle, h⟩ := h
   refine ⟨_, _, h, fun e st' a w next Q hn ⟨heok, g, hs⟩ ha hnext => ?_⟩
   replace ha := bU.1 ha
   have hk' := (ha.R (k := k) (by simp)).trans hk
   obtain ⟨b, hb, _⟩ := pZ hs hk'
   have h1 := arg hs ha.right (x := x) (by simp)
   have h2 := arg hs ha.right (x := v) (by simp)
   rw [hxe] at h1
   have h3 := jA h1 (curk k hk').symm
   obtain ⟨w', g2, h4, h5⟩ := Jq hs heok (off := 0) hk' hb h2 hxo hl hkn (by omega)
   exact wB hdst (run a w w' (by rw [h3, hb]; exact h4)) (hnext a w' ⟨heok, g2, h5⟩)
  ·exact h.elim
 ·rename_i k ver off hxe
  split at h
  ·rename_i cv cells hk
   obtain ⟨rfl, hle, h⟩ := h
   refine ⟨_, _, h, fun e st' a w next Q hn ⟨heok, g, hs⟩ ha hnext => ?_⟩
   replace ha := bU.1 ha
   have hk' := (ha.R (k := k) (by simp)).trans hk
   have h1 := arg hs ha.right (x := x) (by simp)
   have h2 := arg hs ha.right (x := v) (by simp)
   rw [hxe] at h1
   obtain ⟨b, hb, h3⟩ := As h1 (curk k hk').symm
   obtain ⟨w', g2, h4, h5⟩ := Jq hs heok (off := off) hk' hb h2 hxo hl hkn (by omega)
   exact wB hdst (run a w w' (by rw [h3]; exact h4)) (hnext a w' ⟨heok, g2, h5⟩)
  ·exact h.elim
 ·rename_i k ver sz i off hxe
  split at h
  ·rename_i cv el sz' rows hk
   obtain ⟨rfl, rfl, hi, hle, h⟩ := h
   refine ⟨_, _, h, fun e st' a w next Q hn ⟨heok, g, hs⟩ ha hnext => ?_⟩
   replace ha := bU.1 ha
   have hk' := (ha.R (k := k) (by simp)).trans hk
   have h1 := arg hs ha.right (x := x) (by simp)
   have h2 := arg hs ha.right (x := v) (by simp)
   rw [hxe] at h1
   obtain ⟨b, n', c', hb, h3⟩ := Hg h1 (curk k hk').symm
   obtain ⟨w', g2, h4, h5⟩ := Wg hs heok (off := off) hk' hb h2 hxo hl hkn hi (by omega)
   exact wB hdst (run a w w' (by rw [h3]; exact h4)) (hnext a w' ⟨heok, g2, h5⟩)
  ·exact h.elim
 ·exact h.elim
end
end Go.Proofs.YtbhnmolmkembdaaGreatDoor
