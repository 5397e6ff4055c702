/- The operations that give a value do what is told of them: each of them. No condition: plain lemmas. -/
import Derived.Test.YtjbhpoolghfhiaaDoorAv7
namespace Go.Proofs.YtjbhpoolghfhiaaDoor
set_option linter.unusedVariables false
set_option linter.unusedSimpArgs false
set_option maxHeartbeats 10000000
open Go

theorem eq1_ok {k : Nat} {x y : AV} {K : Bool → Prop} (h : eq1 k x y K) : ∃ c, K c ∧ ∀ {cur : Nat → Nat} {g : Gh} {w : World} {N : Nat → Prop} (a1 a2 : Value), AR cur g w N x a1 → AR cur g w N y a2 → ∀ ks vs us, conf ks vs us → conf (k :: ks) (a1 :: vs) (a2 :: us) ∧ eqL (a1 :: vs) (a2 :: us) = (c && eqL vs us) := by
  unfold eq1 at h
  split at h
  · refine ⟨_, h.2, fun a1 a2 e1 e2 ks vs us hc => ?_⟩
    rw [inv_v e1, inv_v e2]; exact ⟨⟨h.1, hc⟩, rfl⟩
  · refine ⟨_, h, fun a1 a2 e1 e2 ks vs us hc => ?_⟩
    rw [inv_v e1, inv_v e2]; exact ⟨hc, rfl⟩
  · refine ⟨_, h, fun a1 a2 e1 e2 ks vs us hc => ?_⟩
    rw [inv_v e1, inv_v e2]; exact ⟨hc, rfl⟩
  · exact h.elim

theorem eqCells_ok : ∀ {ks : List Nat} {xs ys : List AV} {K : Bool → Prop}, eqCells ks xs ys K → ∃ b, K b ∧ xs.length = ks.length ∧ ys.length = ks.length ∧
    ∀ {cur : Nat → Nat} {g : Gh} {w : World} {N : Nat → Prop} (vs us : List Value), vs.length = xs.length → us.length = ys.length → (∀ (j : Nat) (x : AV) (y : Value), xs[j]? = some x → vs[j]? = some y → AR cur g w N x y) → (∀ (j : Nat) (x : AV) (y : Value), ys[j]? = some x → us[j]? = some y → AR cur g w N x y) →
      conf ks vs us ∧ b = eqL vs us
  | [], [], [], K, h => by
    refine ⟨true, h, rfl, rfl, fun vs us h1 h2 _ _ => ?_⟩
    rw [List.length_eq_zero_iff.1 h1, List.length_eq_zero_iff.1 h2]
    exact ⟨trivial, rfl⟩
  | k :: ks, x :: xs, y :: ys, K, h => by
    obtain ⟨c, hc, h1⟩ := eq1_ok h
    obtain ⟨b, hb, l1, l2, h2⟩ := eqCells_ok hc
    refine ⟨_, hb, by simp [l1], by simp [l2], fun {cur g w N} vs us hv hu hx hy => ?_⟩
    rcases vs with _ | ⟨v0, vs⟩
    · simp at hv
    rcases us with _ | ⟨u0, us⟩
    · simp at hu
    obtain ⟨i1, i2⟩ := h2 (cur := cur) (g := g) (w := w) (N := N) vs us (by simpa using hv) (by simpa using hu) (fun j z u hz hu' => hx (j + 1) z u (by simpa using hz) (by simpa using hu')) (fun j z u hz hu' => hy (j + 1) z u (by simpa using hz) (by simpa using hu'))
    obtain ⟨j1, j2⟩ := h1 v0 u0 (hx 0 x v0 rfl rfl) (hy 0 y u0 rfl rfl) ks vs us i1
    exact ⟨j1, by rw [j2, i2]⟩
  | [], [], _ :: _, K, h => h.elim
  | [], _ :: _, [], K, h => h.elim
  | [], _ :: _, _ :: _, K, h => h.elim
  | _ :: _, [], [], K, h => h.elim
  | _ :: _, [], _ :: _, K, h => h.elim
  | _ :: _, _ :: _, [], K, h => h.elim

/-- What an operation's value is, whatever the world. -/
def Gives (P : Program) (s : World → Sem Value) (A : (Nat → Nat) → Gh → World → (Nat → Prop) → Prop) (r : AV) : Prop :=
  ∀ cur g w N, A cur g w N → ∃ v w', (s w).run P w = .ok v w' ∧ Fine w w' ∧ AR cur g w N r v

section
variable {P : Program}

theorem floatOrd_ok {op : BinOp} {c : Option Ordering} {K : AV → Prop} (h : floatOrd op c K) : ∃ r, K r ∧ ∀ (t : Nat) (x y : Nat) (w : World), FloatKind.f64.format.order x y = c →
    ∃ b, (binOp op t (.float .f64 x) (.float .f64 y)).run P w = .ok (.bool b) w ∧ r = Bv b := by
  cases op <;> first | exact h.elim | exact ⟨_, h, fun t x y w hc => ⟨_, by simp [binOp, Op.floatCmp, hc], rfl⟩⟩

theorem floatAV_ok {op : BinOp} (hop : op = .add ∨ op = .sub ∨ op = .mul ∨ op = .quo) (t a b : Nat) (cur : Nat → Nat) (g : Gh) (w : World) (N : Nat → Prop) :
    ∃ v w', (binOp op t (.float .f64 a) (.float .f64 b)).run P w = .ok v w' ∧ Fine w w' ∧ AR cur g w N (floatAV op a b) v := by
  have h1 : (binOp op t (.float .f64 a) (.float .f64 b)) = Op.floatArith op .f64 a b := by
    rcases hop with rfl | rfl | rfl | rfl <;> simp [binOp]
  have h2 : Op.floatArith op .f64 a b = (match floatRes op a b with | some r => pure (.float .f64 r) | none => do pure (.float .f64 (← choose (.nanBits .f64 a b)))) := by
    rcases hop with rfl | rfl | rfl | rfl <;> (simp only [Op.floatArith, floatRes, pure_bind]; rfl)
  rw [h1, h2]
  unfold floatAV
  cases floatRes op a b with
  | some r => exact ⟨_, w, rfl, Fine.refl w, .r (.v _)⟩
  | none =>
    refine ⟨.float .f64 ((Question.nanBits .f64 a b).cut (w.tape w.drawn (.nanBits .f64 a b))), w.drew, ?_, ⟨rfl, rfl, rfl, rfl⟩, .r (.nan _ (cut_nan _ _ _))⟩
    simp [Question.forced]

theorem binI_ok {op : BinOp} {k : IntKind} {a b : Int} {K : AV → Prop} (h : binI op k a b K) : ∃ v, K (.r (.v v)) ∧ ∀ (t : Nat) (w : World), (binOp op t (.int k a) (.int k b)).run P w = .ok v w := by
  cases op <;> first | exact h.elim | (refine ⟨_, h, fun t w => ?_⟩; simp [binOp, Op.intArith, Op.intCmp]; done) | (refine ⟨_, h, fun t w => ?_⟩; simp [binOp, Op.intArith, Op.intCmp]; rfl) | (refine ⟨_, h.2, fun t w => ?_⟩; simp [binOp, Op.intDiv, h.1])

theorem binS_ok {op : BinOp} {a b : ByteArray} {K : AV → Prop} (h : binS op a b K) : ∃ v, K (.r (.v v)) ∧ ∀ (t : Nat) (w : World), (binOp op t (.string a) (.string b)).run P w = .ok v w := by
  cases op <;> first | exact h.elim | exact ⟨_, h, fun t w => by simp [binOp, Op.stringOp]⟩ | skip
  refine ⟨_, h.2, fun t w => ?_⟩
  have h1 := h.1
  simp only [binOp, Op.stringOp]
  rw [if_neg (by omega)]; rfl

theorem inv_agg {cur : Nat → Nat} {g : Gh} {w : World} {N : Nat → Prop} {cs : List AV} {v : Value} (h : AR cur g w N (.agg cs) v) : ∃ xs : Array Value, v = .agg xs ∧ xs.size = cs.length ∧ ∀ (j : Nat) (x : AV) (y : Value), cs[j]? = some x → xs[j]? = some y → AR cur g w N x y := by
  cases h with | agg _ xs hs h => exact ⟨xs, rfl, hs, h⟩

theorem inv_rp {cur : Nat → Nat} {g : Gh} {w : World} {N : Nat → Prop} {row : List RV} {v : Value} (h : AR cur g w N (.r (.rp row)) v) : ∃ a, v = .pointer (some a) := by
  cases h with | r h => cases h with | rp _ a => exact ⟨a, rfl⟩

theorem inv_rs_some {cur : Nat → Nat} {g : Gh} {w : World} {N : Nat → Prop} {sz : Nat} {rows : List (List RV)} {v : Value} (h : AR cur g w N (.r (.rs sz rows)) v) (hn : rows ≠ []) : ∃ a n c, v = .slice (some a) n c := by
  cases h with | r h => cases h with
    | nil => exact absurd rfl hn
    | rs _ _ a cap => exact ⟨a, _, cap, rfl⟩

theorem run_guard {op : BinOp} {t : Nat} {ox oy : Operand} {x y : Value} (w : World) (h : (∀ cs, x ≠ .agg cs) ∨ (∀ cs, y ≠ .agg cs)) (h2 : x ≠ .nilIface ∨ y ≠ .nilIface) :
    (do eqGuard op t ox oy x y; binOp op t x y).run P w = (binOp op t x y).run P w := by
  simp [run_eqGuard_plain (P := P) (op := op) (t := t) (x := ox) (y := oy) (w := w) h h2]

theorem equal_depth (t : Nat) (x y : Value) : Op.equal t x y = Op.equalIn (9999 + 1) t x y := rfl
theorem run_equal_slice {t e : Nat} (hu : P.underlying t = some (.slice e)) (w : World) (a : Addr) (n cp : Nat) : (Op.equal t (.slice (some a) n cp) (.slice none 0 0)).run P w = .ok false w := by
  rw [equal_depth]; generalize 9999 = d; simp [Op.equalIn, run_underlying hu]
theorem run_equal_nils {t e : Nat} (hu : P.underlying t = some (.slice e)) (w : World) : (Op.equal t (.slice none 0 0) (.slice none 0 0)).run P w = .ok true w := by
  rw [equal_depth]; generalize 9999 = d; simp [Op.equalIn, run_underlying hu]
theorem run_equal_ptr {t e : Nat} (hu : P.underlying t = some (.pointer e)) (w : World) (a : Addr) : (Op.equal t (.pointer (some a)) (.pointer none)).run P w = .ok false w := by
  rw [equal_depth]; generalize 9999 = d; simp [Op.equalIn, run_underlying hu]
theorem run_equal_nilp {t e : Nat} (hu : P.underlying t = some (.pointer e)) (w : World) : (Op.equal t (.pointer none) (.pointer none)).run P w = .ok true w := by
  rw [equal_depth]; generalize 9999 = d; simp [Op.equalIn, run_underlying hu]
theorem run_equal_bool {t : Nat} (hu : P.underlying t = some .bool) (w : World) (a b : Bool) : (Op.equal t (.bool a) (.bool b)).run P w = .ok (a == b) w := by
  rw [equal_depth]; generalize 9999 = d; exact run_equalIn_bool' w d t a b hu

/-- A binary operation. -/
theorem binAV_ok {op : BinOp} {t : Nat} {x y : AV} {K : AV → Prop} (h : binAV P op t x y K) : ∃ r, K r ∧ ∀ cur g w N vx vy (ox oy : Operand), AR cur g w N x vx → AR cur g w N y vy →
    ∃ v w', (do eqGuard op t ox oy vx vy; binOp op t vx vy).run P w = .ok v w' ∧ Fine w w' ∧ AR cur g w N r v := by
  unfold binAV at h
  split at h
  · obtain ⟨rfl, h⟩ := h
    obtain ⟨v, h1, h2⟩ := binI_ok (P := P) h
    refine ⟨_, h1, fun cur g w N vx vy ox oy e1 e2 => ?_⟩
    rw [inv_v e1, inv_v e2, run_guard w (.inl (by simp)) (.inl (by simp)), h2]
    exact ⟨v, w, rfl, Fine.refl w, .r (.v v)⟩
  · rename_i a b
    obtain ⟨ht, h⟩ := h
    obtain ⟨c, h1, h2⟩ := eqOr_ok (P := P) (t := t) (x := .bool a) (y := .bool b) h (by simp) (by simp) (by simp) (by simp) (fun w => run_equal_bool (boolT_of ht) w a b)
    refine ⟨_, h1, fun cur g w N vx vy ox oy e1 e2 => ?_⟩
    rw [inv_v e1, inv_v e2, run_guard w (.inl (by simp)) (.inl (by simp)), h2]
    exact ⟨_, w, rfl, Fine.refl w, .r (.v _)⟩
  · obtain ⟨v, h1, h2⟩ := binS_ok (P := P) h
    refine ⟨_, h1, fun cur g w N vx vy ox oy e1 e2 => ?_⟩
    rw [inv_v e1, inv_v e2, run_guard w (.inl (by simp)) (.inl (by simp)), h2]
    exact ⟨v, w, rfl, Fine.refl w, .r (.v v)⟩
  · rename_i a b
    have arith : (op = .add ∨ op = .sub ∨ op = .mul ∨ op = .quo) → K (floatAV op a b) → ∃ r, K r ∧ ∀ cur g w N vx vy (ox oy : Operand), AR cur g w N (.r (.v (.float .f64 a))) vx → AR cur g w N (.r (.v (.float .f64 b))) vy →
        ∃ v w', (do eqGuard op t ox oy vx vy; binOp op t vx vy).run P w = .ok v w' ∧ Fine w w' ∧ AR cur g w N r v := fun hop hK => by
      refine ⟨_, hK, fun cur g w N vx vy ox oy e1 e2 => ?_⟩
      rw [inv_v e1, inv_v e2, run_guard w (.inl (by simp)) (.inl (by simp))]
      exact floatAV_ok hop t a b cur g w N
    split at h
    · exact arith (.inl rfl) h
    · exact arith (.inr (.inl rfl)) h
    · exact arith (.inr (.inr (.inl rfl))) h
    · exact arith (.inr (.inr (.inr rfl))) h
    · obtain ⟨r, h1, h2⟩ := floatOrd_ok (P := P) h
      refine ⟨_, h1, fun cur g w N vx vy ox oy e1 e2 => ?_⟩
      obtain ⟨b', h3, rfl⟩ := h2 t a b w rfl
      rw [inv_v e1, inv_v e2, run_guard w (.inl (by simp)) (.inl (by simp)), h3]
      exact ⟨_, w, rfl, Fine.refl w, .r (.v _)⟩
  · obtain ⟨r, h1, h2⟩ := floatOrd_ok (P := P) h
    refine ⟨_, h1, fun cur g w N vx vy ox oy e1 e2 => ?_⟩
    obtain ⟨a, rfl, hn⟩ := inv_nan e1
    rw [inv_v e2, run_guard w (.inl (by simp)) (.inl (by simp))]
    obtain ⟨b', h3, rfl⟩ := h2 t a _ w (order_nan_left hn)
    rw [h3]; exact ⟨_, w, rfl, Fine.refl w, .r (.v _)⟩
  · obtain ⟨r, h1, h2⟩ := floatOrd_ok (P := P) h
    refine ⟨_, h1, fun cur g w N vx vy ox oy e1 e2 => ?_⟩
    obtain ⟨a, rfl, hn⟩ := inv_nan e2
    rw [inv_v e1, run_guard w (.inl (by simp)) (.inl (by simp))]
    obtain ⟨b', h3, rfl⟩ := h2 t _ a w (order_nan_right hn)
    rw [h3]; exact ⟨_, w, rfl, Fine.refl w, .r (.v _)⟩
  · obtain ⟨r, h1, h2⟩ := floatOrd_ok (P := P) h
    refine ⟨_, h1, fun cur g w N vx vy ox oy e1 e2 => ?_⟩
    obtain ⟨a, rfl, hn⟩ := inv_nan e1
    obtain ⟨b, rfl, hn2⟩ := inv_nan e2
    rw [run_guard w (.inl (by simp)) (.inl (by simp))]
    obtain ⟨b', h3, rfl⟩ := h2 t a b w (order_nan_left hn)
    rw [h3]; exact ⟨_, w, rfl, Fine.refl w, .r (.v _)⟩
  · rename_i xs ys
    obtain ⟨hs, hg, h⟩ := h
    split at h
    · rename_i ks hks
      obtain ⟨b, hb, l1, l2, h1⟩ := eqCells_ok h
      have key : ∃ c, K (Bv c) ∧ ∀ w (p q : Array Value), conf ks p.toList q.toList → b = eqL p.toList q.toList → (binOp op t (.agg p) (.agg q)).run P w = .ok (.bool c) w := by
        have hr : ∀ w (p q : Array Value), conf ks p.toList q.toList → b = eqL p.toList q.toList → (Op.equalIn 10000 t (.agg p) (.agg q)).run P w = .ok b w := fun w p q hc he => by
          obtain ⟨fs, hu⟩ := structT_of hs
          have ha : aggT P t = true := by simp [aggT, hu]
          have := run_equalIn_kinds (P := P) 8 hks p q hc 10000 w (by omega)
          simpa [valT, ha, he] using this
        cases op <;> first | exact hb.elim | skip
        · exact ⟨_, hb, fun w p q hc he => by rw [run_eql_struct, hr w p q hc he]; rfl⟩
        · exact ⟨_, hb, fun w p q hc he => by rw [run_neq_struct, hr w p q hc he]; rfl⟩
      obtain ⟨c, hc, h2⟩ := key
      refine ⟨_, hc, fun cur g w N vx vy ox oy e1 e2 => ?_⟩
      obtain ⟨p, rfl, p1, p2⟩ := inv_agg e1
      obtain ⟨q, rfl, q1, q2⟩ := inv_agg e2
      obtain ⟨h3, h4⟩ := h1 (cur := cur) (g := g) (w := w) (N := N) p.toList q.toList (by simpa using p1) (by simpa using q1) (fun j x y hx hy => p2 j x y hx (by simpa using hy)) (fun j x y hx hy => q2 j x y hx (by simpa using hy))
      refine ⟨.bool c, w, ?_, Fine.refl w, .r (.v _)⟩
      simp only [Sem.run_bind, run_eqGuard_agg w op t ox oy p q hg, Result.andThen_ok, h2 w p q h3 h4]
    · exact h.elim
  · obtain ⟨ht, hn, h⟩ := h
    obtain ⟨e, hu⟩ := sliceT_of ht
    have key : ∃ c, K (Bv c) ∧ ∀ w a n cp, (binOp op t (.slice (some a) n cp) (.slice none 0 0)).run P w = .ok (.bool c) w := by
      cases op <;> first | exact h.elim | skip
      · exact ⟨_, h, fun w a n cp => by simp [binOp, run_equal_slice hu]⟩
      · exact ⟨_, h, fun w a n cp => by simp [binOp, run_equal_slice hu]⟩
    obtain ⟨c, h1, h2⟩ := key
    refine ⟨_, h1, fun cur g w N vx vy ox oy e1 e2 => ?_⟩
    obtain ⟨a, n, cp, rfl⟩ := inv_rs_some e1 hn
    rw [inv_v e2, run_guard w (.inl (by simp)) (.inl (by simp)), h2]
    exact ⟨_, w, rfl, Fine.refl w, .r (.v _)⟩
  · obtain ⟨ht, h⟩ := h
    obtain ⟨e, hu⟩ := sliceT_of ht
    obtain ⟨c, h1, h2⟩ := eqOr_ok (P := P) (t := t) (x := .slice none 0 0) (y := .slice none 0 0) h (by simp) (by simp) (by simp) (by simp) (fun w => run_equal_nils hu w)
    refine ⟨_, h1, fun cur g w N vx vy ox oy e1 e2 => ?_⟩
    rw [inv_v e1, inv_v e2, run_guard w (.inl (by simp)) (.inl (by simp)), h2]
    exact ⟨_, w, rfl, Fine.refl w, .r (.v _)⟩
  · obtain ⟨ht, h⟩ := h
    obtain ⟨e, hu⟩ := ptrT_of ht
    have key : ∃ c, K (Bv c) ∧ ∀ w a, (binOp op t (.pointer (some a)) (.pointer none)).run P w = .ok (.bool c) w := by
      cases op <;> first | exact h.elim | skip
      · exact ⟨_, h, fun w a => by simp [binOp, run_equal_ptr hu]⟩
      · exact ⟨_, h, fun w a => by simp [binOp, run_equal_ptr hu]⟩
    obtain ⟨c, h1, h2⟩ := key
    refine ⟨_, h1, fun cur g w N vx vy ox oy e1 e2 => ?_⟩
    obtain ⟨a, rfl⟩ := inv_rp e1
    rw [inv_v e2, run_guard w (.inl (by simp)) (.inl (by simp)), h2]
    exact ⟨_, w, rfl, Fine.refl w, .r (.v _)⟩
  · obtain ⟨ht, h⟩ := h
    obtain ⟨e, hu⟩ := ptrT_of ht
    obtain ⟨c, h1, h2⟩ := eqOr_ok (P := P) (t := t) (x := .pointer none) (y := .pointer none) h (by simp) (by simp) (by simp) (by simp) (fun w => run_equal_nilp hu w)
    refine ⟨_, h1, fun cur g w N vx vy ox oy e1 e2 => ?_⟩
    rw [inv_v e1, inv_v e2, run_guard w (.inl (by simp)) (.inl (by simp)), h2]
    exact ⟨_, w, rfl, Fine.refl w, .r (.v _)⟩
  · exact h.elim

theorem unAV_ok {op : UnOp} {x : AV} {K : AV → Prop} (h : unAV op x K) : ∃ r, K r ∧ ∀ cur g w N vx, AR cur g w N x vx → ∃ v, (Op.unary op vx).run P w = .ok v w ∧ AR cur g w N r v := by
  unfold unAV at h
  split at h
  · exact ⟨_, h, fun cur g w N vx e => by rw [inv_v e]; exact ⟨_, rfl, .r (.v _)⟩⟩
  · exact ⟨_, h, fun cur g w N vx e => by rw [inv_v e]; exact ⟨_, rfl, .r (.v _)⟩⟩
  · exact ⟨_, h, fun cur g w N vx e => by rw [inv_v e]; exact ⟨_, rfl, .r (.v _)⟩⟩
  · exact h.elim

theorem knownT_of {t : Nat} (h : knownT P t = true) : ∃ d, P.underlying t = some d := by
  unfold knownT at h; exact Option.isSome_iff_exists.1 h

theorem convAV_ok {s t : Nat} {x : AV} {K : AV → Prop} (h : convAV P s t x K) : ∃ r, K r ∧ ∀ cur g w N vx, AR cur g w N x vx → ∃ v, (convert s t vx).run P w = .ok v w ∧ AR cur g w N r v := by
  unfold convAV at h
  split at h
  · split at h
    · rename_i k hk
      obtain ⟨hs, h⟩ := h
      obtain ⟨d, hd⟩ := knownT_of hs
      refine ⟨_, h, fun cur g w N vx e => ?_⟩
      rw [inv_v e]
      exact ⟨_, by simp [convert, run_underlying hd, run_underlying (intT_of hk), Conv.intToInt], .r (.v _)⟩
    · split at h
      · rename_i k hk
        obtain ⟨hs, h⟩ := h
        obtain ⟨d, hd⟩ := knownT_of hs
        refine ⟨_, h, fun cur g w N vx e => ?_⟩
        rw [inv_v e]
        exact ⟨_, by simp [convert, run_underlying hd, run_underlying (floatT_of hk), Conv.intToFloat], .r (.v _)⟩
      · exact h.elim
  · obtain ⟨ht, hs, h⟩ := h
    obtain ⟨d, hd⟩ := knownT_of hs
    refine ⟨_, h, fun cur g w N vx e => ?_⟩
    rw [inv_v e]
    refine ⟨_, ?_, .r (.v _)⟩
    simp only [convert, Sem.run_bind, run_underlying hd, run_underlying (stringT_of ht), Result.andThen_ok]
    cases d <;> rfl
  · exact h.elim

end

end Go.Proofs.YtjbhpoolghfhiaaDoor
