/- The operations that give a value do what is told of them: comparing, reckoning. No condition: plain lemmas. -/
import Derived.Test.YtjbhpoolghfhiaaDoorAvA
import Derived.Laws.Tables
namespace Go.Proofs.YtjbhpoolghfhiaaDoor
set_option linter.unusedVariables false
set_option linter.unusedSimpArgs false
set_option maxHeartbeats 10000000
open Go

/-- Two worlds that part in draws alone. -/
structure Fine (w w' : World) : Prop where
  heap : w'.heap = w.heap
  os : w'.os = w.os
  tape : w'.tape = w.tape
  output : w'.output = w.output

theorem Fine.refl (w : World) : Fine w w := ⟨rfl, rfl, rfl, rfl⟩

theorem inv_v {cur : Nat → Nat} {g : Gh} {w : World} {N : Nat → Prop} {v u : Value} (h : AR cur g w N (.r (.v u)) v) : v = u := AR_bool h

theorem inv_nan {cur : Nat → Nat} {g : Gh} {w : World} {N : Nat → Prop} {v : Value} (h : AR cur g w N (.r .nan) v) : ∃ b, v = .float .f64 b ∧ isNaN64 b := by
  cases h with | r h => cases h with | nan b h => exact ⟨b, rfl, h⟩

theorem order_nan_left {x y : Nat} (h : isNaN64 x) : FloatKind.f64.format.order x y = none := by
  unfold isNaN64 Ieee.Format.order at *
  generalize FloatKind.f64.format.read x = p at *
  generalize FloatKind.f64.format.read y = q at *
  cases p <;> simp [Ieee.Datum.order] at h ⊢

theorem order_nan_right {x y : Nat} (h : isNaN64 y) : FloatKind.f64.format.order x y = none := by
  unfold isNaN64 Ieee.Format.order at *
  generalize FloatKind.f64.format.read x = p at *
  generalize FloatKind.f64.format.read y = q at *
  cases q <;> cases p <;> simp [Ieee.Datum.order] at h ⊢

theorem cut_nan (t x y : Nat) : isNaN64 ((Question.nanBits .f64 x y).cut t) := by
  simp only [isNaN64, Ieee.Format.order, Question.cut]
  generalize hn : t / 2 % (2 ^ 52 - 1) = n
  have hlt : n < 2 ^ 52 - 1 := by rw [← hn]; exact Nat.mod_lt _ (by decide)
  have h2 : t % 2 < 2 := Nat.mod_lt _ (by decide)
  generalize t % 2 = b at *
  have hr : ∃ s f, FloatKind.f64.format.read (b * 2 ^ 63 + 9218868437227405312 + 1 + n) = .nan s f := by
    have h63 : FloatKind.f64.format.signWeight = 9223372036854775808 := by decide
    have hb : FloatKind.f64.format.binade = 4503599627370496 := by decide
    have hi : FloatKind.f64.format.infRung = 9218868437227405312 := by decide
    generalize FloatKind.f64.format = f at *
    refine ⟨(b * 2 ^ 63 + 9218868437227405312 + 1 + n) / f.signWeight % 2 == 1, (b * 2 ^ 63 + 9218868437227405312 + 1 + n) % f.signWeight - f.infRung, ?_⟩
    have e : (b * 2 ^ 63 + 9218868437227405312 + 1 + n) % f.signWeight = 9218868437227405312 + 1 + n := by rw [h63]; omega
    unfold Ieee.Format.read
    simp only [e, hb, hi]
    rw [if_neg (by omega), if_neg (by omega), if_neg (by omega)]
  obtain ⟨s, f, hr⟩ := hr
  rw [hr]; rfl

theorem run_eqGuard_plain {P : Program} {op : BinOp} {t : Nat} {x y : Operand} {a b : Value} {w : World} (h : (∀ cs, a ≠ .agg cs) ∨ (∀ cs, b ≠ .agg cs)) (h2 : a ≠ .nilIface ∨ b ≠ .nilIface) : (eqGuard op t x y a b).run P w = .ok () w := by
  unfold eqGuard
  cases op <;> simp only [Bool.not_false, Bool.not_true, if_true, Bool.false_eq_true, if_false, Sem.run_pure] <;> (split <;> first | rfl | simp_all)

theorem eqOr_ok {P : Program} {op : BinOp} {t : Nat} {K : AV → Prop} {b : Bool} {x y : Value} (h : eqOr op K b) (hx : ∀ k n, x ≠ .int k n) (hf : ∀ k n, x ≠ .float k n) (hs : ∀ s, x ≠ .string s) (hc : ∀ k a b, x ≠ .complex k a b)
    (he : ∀ w, (Op.equal t x y).run P w = .ok b w) : ∃ c, K (Bv c) ∧ ∀ w, (binOp op t x y).run P w = .ok (.bool c) w := by
  cases op <;> first | exact h.elim | skip
  · refine ⟨b, h, fun w => ?_⟩
    have : binOp .eql t x y = (do pure (.bool (← Op.equal t x y))) := by
      unfold binOp; split <;> first | rfl | simp_all
    rw [this]; simp [he]
  · refine ⟨!b, h, fun w => ?_⟩
    have : binOp .neq t x y = (do pure (.bool (!(← Op.equal t x y)))) := by
      unfold binOp; split <;> first | rfl | simp_all
    rw [this]; simp [he]

/-- Values that fit kinds, compared one by one. -/
def eqL : List Value → List Value → Bool
  | .int _ a :: xs, .int _ b :: ys => (a == b) && eqL xs ys
  | .bool a :: xs, .bool b :: ys => (a == b) && eqL xs ys
  | .string a :: xs, .string b :: ys => (a.toList == b.toList) && eqL xs ys
  | [], [] => true
  | _, _ => false

def conf : List Nat → List Value → List Value → Prop
  | [], [], [] => True
  | 0 :: ks, .int k _ :: xs, .int k' _ :: ys => k = k' ∧ conf ks xs ys
  | 1 :: ks, .bool _ :: xs, .bool _ :: ys => conf ks xs ys
  | 2 :: ks, .string _ :: xs, .string _ :: ys => conf ks xs ys
  | _, _, _ => False

theorem conf_app : ∀ {a b : List Nat} {xs ys : List Value}, conf (a ++ b) xs ys → conf a (xs.take a.length) (ys.take a.length) ∧ conf b (xs.drop a.length) (ys.drop a.length) ∧ eqL xs ys = (eqL (xs.take a.length) (ys.take a.length) && eqL (xs.drop a.length) (ys.drop a.length)) ∧ a.length ≤ xs.length ∧ a.length ≤ ys.length
  | [], b, xs, ys, h => by simpa [conf, eqL] using h
  | k :: a, b, xs, ys, h => by
    simp only [List.cons_append] at h
    unfold conf at h
    split at h <;> first | (exact h.elim) | skip
    all_goals simp_all only [List.cons.injEq, reduceCtorEq, false_and]
    all_goals (rename_i h0; obtain ⟨rfl, rfl⟩ := h0)
    · obtain ⟨h1, h2⟩ := h
      obtain ⟨i1, i2, i3, i4, i5⟩ := conf_app h2
      simp [conf, eqL, h1, i1, i2, i3, i4, i5, Bool.and_assoc]
    · obtain ⟨i1, i2, i3, i4, i5⟩ := conf_app h
      simp [conf, eqL, i1, i2, i3, i4, i5, Bool.and_assoc]
    · obtain ⟨i1, i2, i3, i4, i5⟩ := conf_app h
      simp [conf, eqL, i1, i2, i3, i4, i5, Bool.and_assoc]

theorem conf_len : ∀ {ks : List Nat} {xs ys : List Value}, conf ks xs ys → xs.length = ks.length ∧ ys.length = ks.length
  | [], xs, ys, h => by unfold conf at h; split at h <;> simp_all
  | k :: ks, xs, ys, h => by
    unfold conf at h
    split at h <;> first | (exact h.elim) | skip
    all_goals simp_all only [List.cons.injEq, reduceCtorEq, false_and]
    all_goals (rename_i h0; obtain ⟨rfl, rfl⟩ := h0)
    · have := conf_len h.2; simp [this]
    · have := conf_len h; simp [this]
    · have := conf_len h; simp [this]

section
variable {P : Program}

theorem kindsFs_len {k : Nat → Option (List Nat)} (hk : ∀ t a, k t = some a → a.length = sizeT P t) {n : Nat} : ∀ {fs : List Field} {off : Nat} {ks : List Nat}, kindsFs P k fs off n = some ks → off + ks.length = n
  | [], off, ks, h => by
    unfold kindsFs at h
    split at h
    · rename_i e; simp at h; subst h; simpa using e
    · cases h
  | f :: fs, off, ks, h => by
    unfold kindsFs at h
    split at h
    · cases h
    · split at h
      · rename_i a b h1 h2
        simp at h; subst h
        have := hk _ _ h1
        have := kindsFs_len hk h2
        simp; omega
      · cases h

theorem kindsT_len : ∀ {d t : Nat} {ks : List Nat}, kindsT P d t = some ks → ks.length = sizeT P t
  | 0, _, _, h => by simp [kindsT] at h
  | d + 1, t, ks, h => by
    unfold kindsT at h
    split at h
    · split at h <;> simp_all; subst h; rfl
    · split at h <;> simp_all; subst h; rfl
    · split at h <;> simp_all; subst h; rfl
    · split at h
      · cases h
      · have := kindsFs_len (fun t a => kindsT_len) h; omega
    · cases h

/-- A value out of its cells. -/
def valT (P : Program) (t : Nat) (xs : Array Value) : Value := match aggT P t with | true => .agg xs | false => xs.getD 0 undef

theorem run_part {t : Nat} (hk : knownT P t = true) (xs : Array Value) (off : Nat) (w : World) (h : aggT P t = true ∨ off < xs.size ∧ 0 < sizeT P t) :
    (part t xs off).run P w = .ok (valT P t (xs.extract off (off + sizeT P t))) w := by
  simp only [part, Sem.run_bind, run_isAgg' hk, Result.andThen_ok, valT]
  cases ha : aggT P t with
  | true => simp [run_sizeOf' hk]
  | false =>
    rcases h with h | ⟨h, h0⟩
    · simp [ha] at h
    · have : xs[off]? = some xs[off] := Array.getElem?_eq_getElem h
      simp only [Bool.false_eq_true, if_false, this, Sem.run_pure]
      congr 1
      have h1 : min (off + sizeT P t) xs.size - off > 0 := by omega
      simp [Array.getD_eq_getD_getElem?, Array.getElem?_extract, h1, h]

theorem kinds_known {d t : Nat} {ks : List Nat} (h : kindsT P d t = some ks) : knownT P t = true := by
  cases d with
  | zero => simp [kindsT] at h
  | succ d => unfold kindsT at h; unfold knownT; split at h <;> simp_all

theorem conf0 {xs ys : List Value} (h : conf [0] xs ys) : ∃ k a b, xs = [.int k a] ∧ ys = [.int k b] := by
  rcases xs with _ | ⟨x, _ | ⟨x2, xs⟩⟩ <;> rcases ys with _ | ⟨y, _ | ⟨y2, ys⟩⟩ <;> (try cases x) <;> (try cases y) <;> simp_all [conf]
theorem conf1 {xs ys : List Value} (h : conf [1] xs ys) : ∃ a b, xs = [.bool a] ∧ ys = [.bool b] := by
  rcases xs with _ | ⟨x, _ | ⟨x2, xs⟩⟩ <;> rcases ys with _ | ⟨y, _ | ⟨y2, ys⟩⟩ <;> (try cases x) <;> (try cases y) <;> simp_all [conf]
theorem conf2 {xs ys : List Value} (h : conf [2] xs ys) : ∃ a b, xs = [.string a] ∧ ys = [.string b] := by
  rcases xs with _ | ⟨x, _ | ⟨x2, xs⟩⟩ <;> rcases ys with _ | ⟨y, _ | ⟨y2, ys⟩⟩ <;> (try cases x) <;> (try cases y) <;> simp_all [conf]

theorem run_eqFields_kinds {d D : Nat} (ih : ∀ {t : Nat} {ks : List Nat}, kindsT P d t = some ks → ∀ (xs ys : Array Value), conf ks xs.toList ys.toList → ∀ (w : World), (Op.equalIn D t (valT P t xs) (valT P t ys)).run P w = .ok (eqL xs.toList ys.toList) w)
    {n : Nat} (xs ys : Array Value) (w : World) : ∀ {fs : List Field} {off : Nat} {ks : List Nat}, kindsFs P (kindsT P d) fs off n = some ks → conf ks (xs.toList.drop off) (ys.toList.drop off) →
    (Op.eqFields D xs ys fs).run P w = .ok (eqL (xs.toList.drop off) (ys.toList.drop off)) w
  | [], off, ks, h, hc => by
    unfold kindsFs at h
    split at h
    · simp at h; subst h
      obtain ⟨h1, h2⟩ := conf_len hc
      rw [List.length_eq_zero_iff.1 h1, List.length_eq_zero_iff.1 h2]
      rfl
    · cases h
  | f :: fs, off, ks, h, hc => by
    unfold kindsFs at h
    split at h
    · cases h
    · rename_i hn
      split at h
      · rename_i a b h1 h2
        simp at h; subst h
        obtain ⟨c1, c2, c3, c4, c5⟩ := conf_app hc
        have hk := kinds_known h1
        have hl := kindsT_len h1
        rw [hl] at c1 c2 c3 c4 c5
        have hname : f.name ≠ "_" := fun e => hn (.inl e)
        have hoff : f.offset = off := Classical.byContradiction fun e => hn (.inr e)
        have hpos : aggT P f.type = true ∨ off < xs.size ∧ 0 < sizeT P f.type := by
          cases ha : aggT P f.type with
          | true => exact .inl rfl
          | false =>
            right
            have hl1 : a.length = 1 := by
              cases d with
              | zero => simp [kindsT] at h1
              | succ d =>
                unfold kindsT at h1
                unfold aggT at ha
                split at h1 <;> simp_all
                all_goals (obtain ⟨_, rfl⟩ := h1; rfl)
            simp at c4
            omega
        have hpos' : aggT P f.type = true ∨ off < ys.size ∧ 0 < sizeT P f.type := by
          rcases hpos with h | ⟨h3, h4⟩
          · exact .inl h
          · right; simp at c5; omega
        have r1 := run_part hk xs off w hpos
        have r2 := run_part hk ys off w hpos'
        have e1 : (xs.extract off (off + sizeT P f.type)).toList = (xs.toList.drop off).take (sizeT P f.type) := by simp [List.extract_eq_drop_take']
        have e2 : (ys.extract off (off + sizeT P f.type)).toList = (ys.toList.drop off).take (sizeT P f.type) := by simp [List.extract_eq_drop_take']
        have r3 := ih h1 (xs.extract off (off + sizeT P f.type)) (ys.extract off (off + sizeT P f.type)) (by rw [e1, e2]; exact c1) w
        rw [e1, e2] at r3
        rw [List.drop_drop, List.drop_drop] at c2
        have r4 := run_eqFields_kinds ih xs ys w h2 c2
        rw [c3]
        simp only [Op.eqFields, hname, ne_eq, not_false_eq_true, if_true, Sem.run_bind, hoff, r1, r2, Result.andThen_ok, r3]
        cases eqL (List.take (sizeT P f.type) (List.drop off xs.toList)) (List.take (sizeT P f.type) (List.drop off ys.toList)) with
        | false => simp
        | true => simp only [Bool.not_true, Bool.false_eq_true, if_false, r4, Bool.true_and, List.drop_drop]
      · cases h

theorem run_equalIn_kinds : ∀ (d : Nat) {t : Nat} {ks : List Nat}, kindsT P d t = some ks → ∀ (xs ys : Array Value), conf ks xs.toList ys.toList → ∀ (D : Nat) (w : World), d ≤ D →
    (Op.equalIn D t (valT P t xs) (valT P t ys)).run P w = .ok (eqL xs.toList ys.toList) w
  | 0, _, _, h => by simp [kindsT] at h
  | d + 1, t, ks, h => by
    intro xs ys hc D w hD
    obtain ⟨D, rfl⟩ : ∃ E, D = E + 1 := ⟨D - 1, by omega⟩
    obtain ⟨xs⟩ := xs; obtain ⟨ys⟩ := ys
    unfold kindsT at h
    split at h
    · rename_i k hu
      split at h
      · simp at h; subst h
        obtain ⟨k, a, b, e1, e2⟩ := conf0 hc
        dsimp only at e1 e2; subst e1; subst e2
        simp [valT, aggT, hu, run_equalIn_int w D t k _ a b hu, eqL]
      · cases h
    · rename_i hu
      split at h
      · simp at h; subst h
        obtain ⟨a, b, e1, e2⟩ := conf1 hc
        dsimp only at e1 e2; subst e1; subst e2
        simp [valT, aggT, hu, run_equalIn_bool' w D t a b hu, eqL]
      · cases h
    · rename_i hu
      split at h
      · simp at h; subst h
        obtain ⟨a, b, e1, e2⟩ := conf2 hc
        dsimp only at e1 e2; subst e1; subst e2
        simp [valT, aggT, hu, run_equalIn_string w D t a b hu, eqL]
      · cases h
    · rename_i fs hu
      split at h
      · cases h
      · rename_i hp
        have ha : aggT P t = true := by simp [aggT, hu]
        have hf : P.fieldsOf t = fs := by simp [Program.fieldsOf, hu]
        simp only [valT, ha]
        rw [run_equalIn_agg w D t ⟨xs⟩ ⟨ys⟩ (by rw [hf]; exact hu) (by simpa using hp), hf]
        have := run_eqFields_kinds (P := P) (d := d) (D := D) (fun hk xs ys hc w => run_equalIn_kinds d hk xs ys hc D w (by omega)) ⟨xs⟩ ⟨ys⟩ w h (by simpa using hc)
        simpa using this
    · cases h
end

end Go.Proofs.YtjbhpoolghfhiaaDoor
namespace Go.Proofs.YtjbhpoolghfhiaaDoor
set_option linter.unusedVariables false
set_option linter.unusedSimpArgs false
set_option maxHeartbeats 10000000
open Go

theorem eq1_ok {k : Nat} {x y : AV} {K : Bool → Prop} (h : eq1 k x y K) : ∃ c, K c ∧ ∀ {cur : Nat → Nat} {g : Gh} {w : World} {N : Nat → Prop} (a1 a2 : Value), AR cur g w N x a1 → AR cur g w N y a2 → ∀ ks vs us, conf ks vs us → conf (k :: ks) (a1 :: vs) (a2 :: us) ∧ eqL (a1 :: vs) (a2 :: us) = (c && eqL vs us) := by
  unfold eq1 at h
  split at h
  · refine ⟨_, h.2, fun a1 a2 e1 e2 ks vs us hc => ?_⟩
    rw [inv_v e1, inv_v e2]; exact ⟨⟨h.1, hc⟩, rfl⟩
  · refine ⟨_, h, fun a1 a2 e1 e2 ks vs us hc => ?_⟩
    rw [inv_v e1, inv_v e2]; exact ⟨hc, rfl⟩
  · refine ⟨_, h, fun a1 a2 e1 e2 ks vs us hc => ?_⟩
    rw [inv_v e1, inv_v e2]; exact ⟨hc, rfl⟩
  · exact h.elim

theorem eqCells_ok : ∀ {ks : List Nat} {xs ys : List AV} {K : Bool → Prop}, eqCells ks xs ys K → ∃ b, K b ∧ xs.length = ks.length ∧ ys.length = ks.length ∧
    ∀ {cur : Nat → Nat} {g : Gh} {w : World} {N : Nat → Prop} (vs us : List Value), vs.length = xs.length → us.length = ys.length → (∀ (j : Nat) (x : AV) (y : Value), xs[j]? = some x → vs[j]? = some y → AR cur g w N x y) → (∀ (j : Nat) (x : AV) (y : Value), ys[j]? = some x → us[j]? = some y → AR cur g w N x y) →
      conf ks vs us ∧ b = eqL vs us
  | [], [], [], K, h => by
    refine ⟨true, h, rfl, rfl, fun vs us h1 h2 _ _ => ?_⟩
    rw [List.length_eq_zero_iff.1 h1, List.length_eq_zero_iff.1 h2]
    exact ⟨trivial, rfl⟩
  | k :: ks, x :: xs, y :: ys, K, h => by
    obtain ⟨c, hc, h1⟩ := eq1_ok h
    obtain ⟨b, hb, l1, l2, h2⟩ := eqCells_ok hc
    refine ⟨_, hb, by simp [l1], by simp [l2], fun {cur g w N} vs us hv hu hx hy => ?_⟩
    rcases vs with _ | ⟨v0, vs⟩
    · simp at hv
    rcases us with _ | ⟨u0, us⟩
    · simp at hu
    obtain ⟨i1, i2⟩ := h2 (cur := cur) (g := g) (w := w) (N := N) vs us (by simpa using hv) (by simpa using hu) (fun j z u hz hu' => hx (j + 1) z u (by simpa using hz) (by simpa using hu')) (fun j z u hz hu' => hy (j + 1) z u (by simpa using hz) (by simpa using hu'))
    obtain ⟨j1, j2⟩ := h1 v0 u0 (hx 0 x v0 rfl rfl) (hy 0 y u0 rfl rfl) ks vs us i1
    exact ⟨j1, by rw [j2, i2]⟩
  | [], [], _ :: _, K, h => h.elim
  | [], _ :: _, [], K, h => h.elim
  | [], _ :: _, _ :: _, K, h => h.elim
  | _ :: _, [], [], K, h => h.elim
  | _ :: _, [], _ :: _, K, h => h.elim
  | _ :: _, _ :: _, [], K, h => h.elim

/-- What an operation's value is, whatever the world. -/
def Gives (P : Program) (s : World → Sem Value) (A : (Nat → Nat) → Gh → World → (Nat → Prop) → Prop) (r : AV) : Prop :=
  ∀ cur g w N, A cur g w N → ∃ v w', (s w).run P w = .ok v w' ∧ Fine w w' ∧ AR cur g w N r v

section
variable {P : Program}

theorem floatOrd_ok {op : BinOp} {c : Option Ordering} {K : AV → Prop} (h : floatOrd op c K) : ∃ r, K r ∧ ∀ (t : Nat) (x y : Nat) (w : World), FloatKind.f64.format.order x y = c →
    ∃ b, (binOp op t (.float .f64 x) (.float .f64 y)).run P w = .ok (.bool b) w ∧ r = Bv b := by
  cases op <;> first | exact h.elim | exact ⟨_, h, fun t x y w hc => ⟨_, by simp [binOp, Op.floatCmp, hc], rfl⟩⟩

theorem floatAV_ok {op : BinOp} (hop : op = .add ∨ op = .sub ∨ op = .mul ∨ op = .quo) (t a b : Nat) (cur : Nat → Nat) (g : Gh) (w : World) (N : Nat → Prop) :
    ∃ v w', (binOp op t (.float .f64 a) (.float .f64 b)).run P w = .ok v w' ∧ Fine w w' ∧ AR cur g w N (floatAV op a b) v := by
  have h1 : (binOp op t (.float .f64 a) (.float .f64 b)) = Op.floatArith op .f64 a b := by
    rcases hop with rfl | rfl | rfl | rfl <;> simp [binOp]
  have h2 : Op.floatArith op .f64 a b = (match floatRes op a b with | some r => pure (.float .f64 r) | none => do pure (.float .f64 (← choose (.nanBits .f64 a b)))) := by
    rcases hop with rfl | rfl | rfl | rfl <;> (simp only [Op.floatArith, floatRes, pure_bind]; rfl)
  rw [h1, h2]
  unfold floatAV
  cases floatRes op a b with
  | some r => exact ⟨_, w, rfl, Fine.refl w, .r (.v _)⟩
  | none =>
    refine ⟨.float .f64 ((Question.nanBits .f64 a b).cut (w.tape w.drawn (.nanBits .f64 a b))), w.drew, ?_, ⟨rfl, rfl, rfl, rfl⟩, .r (.nan _ (cut_nan _ _ _))⟩
    simp [Question.forced]

theorem binI_ok {op : BinOp} {k : IntKind} {a b : Int} {K : AV → Prop} (h : binI op k a b K) : ∃ v, K (.r (.v v)) ∧ ∀ (t : Nat) (w : World), (binOp op t (.int k a) (.int k b)).run P w = .ok v w := by
  cases op <;> first | exact h.elim | (refine ⟨_, h, fun t w => ?_⟩; simp [binOp, Op.intArith, Op.intCmp]; done) | (refine ⟨_, h, fun t w => ?_⟩; simp [binOp, Op.intArith, Op.intCmp]; rfl) | (refine ⟨_, h.2, fun t w => ?_⟩; simp [binOp, Op.intDiv, h.1])

theorem binS_ok {op : BinOp} {a b : ByteArray} {K : AV → Prop} (h : binS op a b K) : ∃ v, K (.r (.v v)) ∧ ∀ (t : Nat) (w : World), (binOp op t (.string a) (.string b)).run P w = .ok v w := by
  cases op <;> first | exact h.elim | exact ⟨_, h, fun t w => by simp [binOp, Op.stringOp]⟩ | skip
  refine ⟨_, h.2, fun t w => ?_⟩
  have h1 := h.1
  simp only [binOp, Op.stringOp]
  rw [if_neg (by omega)]; rfl

theorem inv_agg {cur : Nat → Nat} {g : Gh} {w : World} {N : Nat → Prop} {cs : List AV} {v : Value} (h : AR cur g w N (.agg cs) v) : ∃ xs : Array Value, v = .agg xs ∧ xs.size = cs.length ∧ ∀ (j : Nat) (x : AV) (y : Value), cs[j]? = some x → xs[j]? = some y → AR cur g w N x y := by
  cases h with | agg _ xs hs h => exact ⟨xs, rfl, hs, h⟩

theorem inv_rp {cur : Nat → Nat} {g : Gh} {w : World} {N : Nat → Prop} {row : List RV} {v : Value} (h : AR cur g w N (.r (.rp row)) v) : ∃ a, v = .pointer (some a) := by
  cases h with | r h => cases h with | rp _ a => exact ⟨a, rfl⟩

theorem inv_rs_some {cur : Nat → Nat} {g : Gh} {w : World} {N : Nat → Prop} {sz : Nat} {rows : List (List RV)} {v : Value} (h : AR cur g w N (.r (.rs sz rows)) v) (hn : rows ≠ []) : ∃ a n c, v = .slice (some a) n c := by
  cases h with | r h => cases h with
    | nil => exact absurd rfl hn
    | rs _ _ a cap => exact ⟨a, _, cap, rfl⟩

theorem run_guard {op : BinOp} {t : Nat} {ox oy : Operand} {x y : Value} (w : World) (h : (∀ cs, x ≠ .agg cs) ∨ (∀ cs, y ≠ .agg cs)) (h2 : x ≠ .nilIface ∨ y ≠ .nilIface) :
    (do eqGuard op t ox oy x y; binOp op t x y).run P w = (binOp op t x y).run P w := by
  simp [run_eqGuard_plain (P := P) (op := op) (t := t) (x := ox) (y := oy) (w := w) h h2]

theorem equal_depth (t : Nat) (x y : Value) : Op.equal t x y = Op.equalIn (9999 + 1) t x y := rfl
theorem run_equal_slice {t e : Nat} (hu : P.underlying t = some (.slice e)) (w : World) (a : Addr) (n cp : Nat) : (Op.equal t (.slice (some a) n cp) (.slice none 0 0)).run P w = .ok false w := by
  rw [equal_depth]; generalize 9999 = d; simp [Op.equalIn, run_underlying hu]
theorem run_equal_nils {t e : Nat} (hu : P.underlying t = some (.slice e)) (w : World) : (Op.equal t (.slice none 0 0) (.slice none 0 0)).run P w = .ok true w := by
  rw [equal_depth]; generalize 9999 = d; simp [Op.equalIn, run_underlying hu]
theorem run_equal_ptr {t e : Nat} (hu : P.underlying t = some (.pointer e)) (w : World) (a : Addr) : (Op.equal t (.pointer (some a)) (.pointer none)).run P w = .ok false w := by
  rw [equal_depth]; generalize 9999 = d; simp [Op.equalIn, run_underlying hu]
theorem run_equal_nilp {t e : Nat} (hu : P.underlying t = some (.pointer e)) (w : World) : (Op.equal t (.pointer none) (.pointer none)).run P w = .ok true w := by
  rw [equal_depth]; generalize 9999 = d; simp [Op.equalIn, run_underlying hu]
theorem run_equal_bool {t : Nat} (hu : P.underlying t = some .bool) (w : World) (a b : Bool) : (Op.equal t (.bool a) (.bool b)).run P w = .ok (a == b) w := by
  rw [equal_depth]; generalize 9999 = d; exact run_equalIn_bool' w d t a b hu

/-- A binary operation. -/
theorem binAV_ok {op : BinOp} {t : Nat} {x y : AV} {K : AV → Prop} (h : binAV P op t x y K) : ∃ r, K r ∧ ∀ cur g w N vx vy (ox oy : Operand), AR cur g w N x vx → AR cur g w N y vy →
    ∃ v w', (do eqGuard op t ox oy vx vy; binOp op t vx vy).run P w = .ok v w' ∧ Fine w w' ∧ AR cur g w N r v := by
  unfold binAV at h
  split at h
  · obtain ⟨rfl, h⟩ := h
    obtain ⟨v, h1, h2⟩ := binI_ok (P := P) h
    refine ⟨_, h1, fun cur g w N vx vy ox oy e1 e2 => ?_⟩
    rw [inv_v e1, inv_v e2, run_guard w (.inl (by simp)) (.inl (by simp)), h2]
    exact ⟨v, w, rfl, Fine.refl w, .r (.v v)⟩
  · rename_i a b
    obtain ⟨ht, h⟩ := h
    obtain ⟨c, h1, h2⟩ := eqOr_ok (P := P) (t := t) (x := .bool a) (y := .bool b) h (by simp) (by simp) (by simp) (by simp) (fun w => run_equal_bool (boolT_of ht) w a b)
    refine ⟨_, h1, fun cur g w N vx vy ox oy e1 e2 => ?_⟩
    rw [inv_v e1, inv_v e2, run_guard w (.inl (by simp)) (.inl (by simp)), h2]
    exact ⟨_, w, rfl, Fine.refl w, .r (.v _)⟩
  · obtain ⟨v, h1, h2⟩ := binS_ok (P := P) h
    refine ⟨_, h1, fun cur g w N vx vy ox oy e1 e2 => ?_⟩
    rw [inv_v e1, inv_v e2, run_guard w (.inl (by simp)) (.inl (by simp)), h2]
    exact ⟨v, w, rfl, Fine.refl w, .r (.v v)⟩
  · rename_i a b
    have arith : (op = .add ∨ op = .sub ∨ op = .mul ∨ op = .quo) → K (floatAV op a b) → ∃ r, K r ∧ ∀ cur g w N vx vy (ox oy : Operand), AR cur g w N (.r (.v (.float .f64 a))) vx → AR cur g w N (.r (.v (.float .f64 b))) vy →
        ∃ v w', (do eqGuard op t ox oy vx vy; binOp op t vx vy).run P w = .ok v w' ∧ Fine w w' ∧ AR cur g w N r v := fun hop hK => by
      refine ⟨_, hK, fun cur g w N vx vy ox oy e1 e2 => ?_⟩
      rw [inv_v e1, inv_v e2, run_guard w (.inl (by simp)) (.inl (by simp))]
      exact floatAV_ok hop t a b cur g w N
    split at h
    · exact arith (.inl rfl) h
    · exact arith (.inr (.inl rfl)) h
    · exact arith (.inr (.inr (.inl rfl))) h
    · exact arith (.inr (.inr (.inr rfl))) h
    · obtain ⟨r, h1, h2⟩ := floatOrd_ok (P := P) h
      refine ⟨_, h1, fun cur g w N vx vy ox oy e1 e2 => ?_⟩
      obtain ⟨b', h3, rfl⟩ := h2 t a b w rfl
      rw [inv_v e1, inv_v e2, run_guard w (.inl (by simp)) (.inl (by simp)), h3]
      exact ⟨_, w, rfl, Fine.refl w, .r (.v _)⟩
  · obtain ⟨r, h1, h2⟩ := floatOrd_ok (P := P) h
    refine ⟨_, h1, fun cur g w N vx vy ox oy e1 e2 => ?_⟩
    obtain ⟨a, rfl, hn⟩ := inv_nan e1
    rw [inv_v e2, run_guard w (.inl (by simp)) (.inl (by simp))]
    obtain ⟨b', h3, rfl⟩ := h2 t a _ w (order_nan_left hn)
    rw [h3]; exact ⟨_, w, rfl, Fine.refl w, .r (.v _)⟩
  · obtain ⟨r, h1, h2⟩ := floatOrd_ok (P := P) h
    refine ⟨_, h1, fun cur g w N vx vy ox oy e1 e2 => ?_⟩
    obtain ⟨a, rfl, hn⟩ := inv_nan e2
    rw [inv_v e1, run_guard w (.inl (by simp)) (.inl (by simp))]
    obtain ⟨b', h3, rfl⟩ := h2 t _ a w (order_nan_right hn)
    rw [h3]; exact ⟨_, w, rfl, Fine.refl w, .r (.v _)⟩
  · obtain ⟨r, h1, h2⟩ := floatOrd_ok (P := P) h
    refine ⟨_, h1, fun cur g w N vx vy ox oy e1 e2 => ?_⟩
    obtain ⟨a, rfl, hn⟩ := inv_nan e1
    obtain ⟨b, rfl, hn2⟩ := inv_nan e2
    rw [run_guard w (.inl (by simp)) (.inl (by simp))]
    obtain ⟨b', h3, rfl⟩ := h2 t a b w (order_nan_left hn)
    rw [h3]; exact ⟨_, w, rfl, Fine.refl w, .r (.v _)⟩
  · rename_i xs ys
    obtain ⟨hs, hg, h⟩ := h
    split at h
    · rename_i ks hks
      obtain ⟨b, hb, l1, l2, h1⟩ := eqCells_ok h
      have key : ∃ c, K (Bv c) ∧ ∀ w (p q : Array Value), conf ks p.toList q.toList → b = eqL p.toList q.toList → (binOp op t (.agg p) (.agg q)).run P w = .ok (.bool c) w := by
        have hr : ∀ w (p q : Array Value), conf ks p.toList q.toList → b = eqL p.toList q.toList → (Op.equalIn 10000 t (.agg p) (.agg q)).run P w = .ok b w := fun w p q hc he => by
          obtain ⟨fs, hu⟩ := structT_of hs
          have ha : aggT P t = true := by simp [aggT, hu]
          have := run_equalIn_kinds (P := P) 8 hks p q hc 10000 w (by omega)
          simpa [valT, ha, he] using this
        cases op <;> first | exact hb.elim | skip
        · exact ⟨_, hb, fun w p q hc he => by rw [run_eql_struct, hr w p q hc he]; rfl⟩
        · exact ⟨_, hb, fun w p q hc he => by rw [run_neq_struct, hr w p q hc he]; rfl⟩
      obtain ⟨c, hc, h2⟩ := key
      refine ⟨_, hc, fun cur g w N vx vy ox oy e1 e2 => ?_⟩
      obtain ⟨p, rfl, p1, p2⟩ := inv_agg e1
      obtain ⟨q, rfl, q1, q2⟩ := inv_agg e2
      obtain ⟨h3, h4⟩ := h1 (cur := cur) (g := g) (w := w) (N := N) p.toList q.toList (by simpa using p1) (by simpa using q1) (fun j x y hx hy => p2 j x y hx (by simpa using hy)) (fun j x y hx hy => q2 j x y hx (by simpa using hy))
      refine ⟨.bool c, w, ?_, Fine.refl w, .r (.v _)⟩
      simp only [Sem.run_bind, run_eqGuard_agg w op t ox oy p q hg, Result.andThen_ok, h2 w p q h3 h4]
    · exact h.elim
  · obtain ⟨ht, hn, h⟩ := h
    obtain ⟨e, hu⟩ := sliceT_of ht
    have key : ∃ c, K (Bv c) ∧ ∀ w a n cp, (binOp op t (.slice (some a) n cp) (.slice none 0 0)).run P w = .ok (.bool c) w := by
      cases op <;> first | exact h.elim | skip
      · exact ⟨_, h, fun w a n cp => by simp [binOp, run_equal_slice hu]⟩
      · exact ⟨_, h, fun w a n cp => by simp [binOp, run_equal_slice hu]⟩
    obtain ⟨c, h1, h2⟩ := key
    refine ⟨_, h1, fun cur g w N vx vy ox oy e1 e2 => ?_⟩
    obtain ⟨a, n, cp, rfl⟩ := inv_rs_some e1 hn
    rw [inv_v e2, run_guard w (.inl (by simp)) (.inl (by simp)), h2]
    exact ⟨_, w, rfl, Fine.refl w, .r (.v _)⟩
  · obtain ⟨ht, h⟩ := h
    obtain ⟨e, hu⟩ := sliceT_of ht
    obtain ⟨c, h1, h2⟩ := eqOr_ok (P := P) (t := t) (x := .slice none 0 0) (y := .slice none 0 0) h (by simp) (by simp) (by simp) (by simp) (fun w => run_equal_nils hu w)
    refine ⟨_, h1, fun cur g w N vx vy ox oy e1 e2 => ?_⟩
    rw [inv_v e1, inv_v e2, run_guard w (.inl (by simp)) (.inl (by simp)), h2]
    exact ⟨_, w, rfl, Fine.refl w, .r (.v _)⟩
  · obtain ⟨ht, h⟩ := h
    obtain ⟨e, hu⟩ := ptrT_of ht
    have key : ∃ c, K (Bv c) ∧ ∀ w a, (binOp op t (.pointer (some a)) (.pointer none)).run P w = .ok (.bool c) w := by
      cases op <;> first | exact h.elim | skip
      · exact ⟨_, h, fun w a => by simp [binOp, run_equal_ptr hu]⟩
      · exact ⟨_, h, fun w a => by simp [binOp, run_equal_ptr hu]⟩
    obtain ⟨c, h1, h2⟩ := key
    refine ⟨_, h1, fun cur g w N vx vy ox oy e1 e2 => ?_⟩
    obtain ⟨a, rfl⟩ := inv_rp e1
    rw [inv_v e2, run_guard w (.inl (by simp)) (.inl (by simp)), h2]
    exact ⟨_, w, rfl, Fine.refl w, .r (.v _)⟩
  · obtain ⟨ht, h⟩ := h
    obtain ⟨e, hu⟩ := ptrT_of ht
    obtain ⟨c, h1, h2⟩ := eqOr_ok (P := P) (t := t) (x := .pointer none) (y := .pointer none) h (by simp) (by simp) (by simp) (by simp) (fun w => run_equal_nilp hu w)
    refine ⟨_, h1, fun cur g w N vx vy ox oy e1 e2 => ?_⟩
    rw [inv_v e1, inv_v e2, run_guard w (.inl (by simp)) (.inl (by simp)), h2]
    exact ⟨_, w, rfl, Fine.refl w, .r (.v _)⟩
  · exact h.elim

theorem unAV_ok {op : UnOp} {x : AV} {K : AV → Prop} (h : unAV op x K) : ∃ r, K r ∧ ∀ cur g w N vx, AR cur g w N x vx → ∃ v, (Op.unary op vx).run P w = .ok v w ∧ AR cur g w N r v := by
  unfold unAV at h
  split at h
  · exact ⟨_, h, fun cur g w N vx e => by rw [inv_v e]; exact ⟨_, rfl, .r (.v _)⟩⟩
  · exact ⟨_, h, fun cur g w N vx e => by rw [inv_v e]; exact ⟨_, rfl, .r (.v _)⟩⟩
  · exact ⟨_, h, fun cur g w N vx e => by rw [inv_v e]; exact ⟨_, rfl, .r (.v _)⟩⟩
  · exact h.elim

theorem knownT_of {t : Nat} (h : knownT P t = true) : ∃ d, P.underlying t = some d := by
  unfold knownT at h; exact Option.isSome_iff_exists.1 h

theorem convAV_ok {s t : Nat} {x : AV} {K : AV → Prop} (h : convAV P s t x K) : ∃ r, K r ∧ ∀ cur g w N vx, AR cur g w N x vx → ∃ v, (convert s t vx).run P w = .ok v w ∧ AR cur g w N r v := by
  unfold convAV at h
  split at h
  · split at h
    · rename_i k hk
      obtain ⟨hs, h⟩ := h
      obtain ⟨d, hd⟩ := knownT_of hs
      refine ⟨_, h, fun cur g w N vx e => ?_⟩
      rw [inv_v e]
      exact ⟨_, by simp [convert, run_underlying hd, run_underlying (intT_of hk), Conv.intToInt], .r (.v _)⟩
    · split at h
      · rename_i k hk
        obtain ⟨hs, h⟩ := h
        obtain ⟨d, hd⟩ := knownT_of hs
        refine ⟨_, h, fun cur g w N vx e => ?_⟩
        rw [inv_v e]
        exact ⟨_, by simp [convert, run_underlying hd, run_underlying (floatT_of hk), Conv.intToFloat], .r (.v _)⟩
      · exact h.elim
  · obtain ⟨ht, hs, h⟩ := h
    obtain ⟨d, hd⟩ := knownT_of hs
    refine ⟨_, h, fun cur g w N vx e => ?_⟩
    rw [inv_v e]
    refine ⟨_, ?_, .r (.v _)⟩
    simp only [convert, Sem.run_bind, run_underlying hd, run_underlying (stringT_of ht), Result.andThen_ok]
    cases d <;> rfl
  · exact h.elim

end

end Go.Proofs.YtjbhpoolghfhiaaDoor
namespace Go.Proofs.YtjbhpoolghfhiaaDoor
set_option linter.unusedVariables false
set_option linter.unusedSimpArgs false
set_option maxHeartbeats 10000000
open Go

/-- Two states agree on some places. -/
def Ag (l : List Loc) (st st' : St) : Prop := ∀ x ∈ l, st'.get x = st.get x

theorem Ag.left {l m : List Loc} {st st' : St} (h : Ag (l ++ m) st st') : Ag l st st' := fun x hx => h x (List.mem_append_left _ hx)
theorem Ag.right {l m : List Loc} {st st' : St} (h : Ag (l ++ m) st st') : Ag m st st' := fun x hx => h x (List.mem_append_right _ hx)

theorem Ag.R {l : List Loc} {st st' : St} (h : Ag l st st') {k : Nat} (hk : .R k ∈ l) : lookR k st'.rs = lookR k st.rs := by
  have := h _ hk
  simp only [St.get, Cont.s.injEq] at this
  exact Prod.ext this.1 this.2

theorem Ag.T {l : List Loc} {st st' : St} (h : Ag l st st') {d : Nat} (hk : .T d ∈ l) : lookT d st'.t = lookT d st.t := by
  have := h _ hk
  simpa [St.get] using this

theorem mem_rd {d : Nat} : ∀ {l : List Operand}, .tmp d ∈ l → Loc.T d ∈ rd l
  | x :: l, h => by
    rcases List.mem_cons.1 h with rfl | h
    · exact List.mem_cons_self
    · have := mem_rd h
      cases x <;> first | exact this | exact List.mem_cons_of_mem _ this

theorem Ag.ev {l : List Operand} {st st' : St} (h : Ag (rd l) st st') {x : Operand} (hx : x ∈ l) : ev st' x = ev st x := by
  cases x with
  | tmp d => exact h.T (mem_rd hx)
  | _ => rfl

/-- An operand of a state that agrees. -/
theorem arg {C : Ctx} {e : Env} {st st' : St} {g : Gh} {a : Act} {w : World} (h : SR C e st' g a w) {l : List Operand} (hl : Ag (rd l) st st') {x : Operand} (hx : x ∈ l) : AR st'.cur g w (e.N st' g) (ev st x) (a.eval x) := by
  rw [← hl.ev hx]; exact ev_ok h x

theorem held_rp {cur : Nat → Nat} {g : Gh} {w : World} {N : Nat → Prop} {row : List RV} {v : Value} (h : AR cur g w N (.r (.rp row)) v) : Held cur g w N v (row.map .r) := by
  cases h with | r h => cases h with
    | rp _ a c hb hc hr =>
      refine ⟨a, c, rfl, fun hne => (hb (by simpa using hne)).2.2, fun j x hx => ?_⟩
      rw [List.getElem?_map] at hx
      cases hj : row[j]? with
      | none => simp [hj] at hx
      | some y =>
        simp [hj] at hx; subst hx
        exact ⟨hc j (List.getElem?_eq_some_iff.1 hj).1, .r (hr j y hj)⟩

theorem Held.drop {cur : Nat → Nat} {g : Gh} {w : World} {N : Nat → Prop} {cs : List AV} {a : Addr} (h : Held cur g w N (.pointer (some a)) cs) (off : Nat) : Held cur g w N (.pointer (some ⟨a.block, a.off + off, none⟩)) (cs.drop off) := by
  obtain ⟨a', c, e, hs, hc⟩ := h
  simp only [Value.pointer.injEq, Option.some.injEq] at e
  subst e
  refine ⟨_, fun j => c (off + j), rfl, fun _ => rfl, fun j x hx => ?_⟩
  rw [List.getElem?_drop] at hx
  have := hc _ x hx
  simpa [Nat.add_assoc] using this

section
variable {C : Ctx} {e : Env} {st' : St} {g : Gh} {a : Act} {w : World}

theorem held_bx (h : SR C e st' g a w) {k ver : Nat} {cells : List AV} (hk : lookR k st'.rs = (ver, .bx cells)) : ∃ b, g k = .pointer (some ⟨b, 0, none⟩) ∧ Held st'.cur g w (e.N st' g) (.pointer (some ⟨b, 0, none⟩)) cells := by
  have := h.res k
  rw [hk] at this
  obtain ⟨b, C', el, h1, h2, h3, h4⟩ := this
  refine ⟨b, h1, ⟨b, 0, none⟩, fun j => C'.getD j undef, rfl, fun _ => rfl, fun j x hx => ?_⟩
  have hj : j < C'.size := by rw [h3]; exact (List.getElem?_eq_some_iff.1 hx).1
  have hcj : C'[j]? = some C'[j] := Array.getElem?_eq_getElem hj
  refine ⟨?_, ?_⟩
  · simp [World.cell?, h2, hj]
  · have : C'.getD j undef = C'[j] := by simp [hj]
    show AR _ _ _ _ x (C'.getD j undef)
    rw [this]; exact h4 j x _ hx hcj

theorem inv_os {cur : Nat → Nat} {N : Nat → Prop} {k ver : Nat} {v : Value} (h : AR cur g w N (.os k ver) v) (hv : ver = cur k) : v = g k := by
  cases h with | os _ _ _ _ h => rcases h with h | h
                                 · omega
                                 · exact h.2

theorem inv_rf {cur : Nat → Nat} {N : Nat → Prop} {k ver off : Nat} {v : Value} (h : AR cur g w N (.rf k ver off) v) (hv : ver = cur k) : ∃ b, g k = .pointer (some ⟨b, 0, none⟩) ∧ v = .pointer (some ⟨b, off, none⟩) := by
  cases h with | rf _ _ _ _ _ h => rcases h with h | h
                                   · omega
                                   · exact h.2

theorem inv_re {cur : Nat → Nat} {N : Nat → Prop} {k ver sz i off : Nat} {v : Value} (h : AR cur g w N (.re k ver sz i off) v) (hv : ver = cur k) : ∃ b n c, g k = .slice (some ⟨b, 0, none⟩) n c ∧ v = .pointer (some ⟨b, i * sz + off, none⟩) := by
  cases h with | re _ _ _ _ _ _ _ h => rcases h with h | h
                                       · omega
                                       · exact h.2

theorem curk (k : Nat) {ver : Nat} {r : Res} (hk : lookR k st'.rs = (ver, r)) : st'.cur k = ver := by simp [St.cur, hk]

/-- An owned slice's cells, row by row. -/
theorem sl_cells (h : SR C e st' g a w) {k ver el sz : Nat} {rows : List (List AV)} (hk : lookR k st'.rs = (ver, .sl el sz rows)) :
    ∃ xs, w.ownsRow 0 el sz (g k) rows.length xs ∧ (∀ row ∈ rows, row.length = sz) ∧ ∀ (i j : Nat) (row : List AV) (x : AV) (y : Value), rows[i]? = some row → row[j]? = some x → xs[i * sz + j]? = some y → AR st'.cur g w (e.N st' g) x y := by
  have := h.res k
  rwa [hk] at this

theorem held_sl (h : SR C e st' g a w) {k ver el sz : Nat} {rows : List (List AV)} (hk : lookR k st'.rs = (ver, .sl el sz rows)) {i : Nat} (hi : i < rows.length) :
    ∃ b c, g k = .slice (some ⟨b, 0, none⟩) rows.length c ∧ Held st'.cur g w (e.N st' g) (.pointer (some ⟨b, i * sz, none⟩)) (rows.getD i []) := by
  obtain ⟨xs, h1, h2, h3⟩ := sl_cells h hk
  rcases h1.2 with ⟨_, h4⟩ | ⟨b, cap, cur, hv, hb, hh, hn, hm, hcs, ht⟩
  · omega
  · refine ⟨b, cap, hv, ⟨b, i * sz, none⟩, fun j => xs.getD (i * sz + j) undef, rfl, fun _ => rfl, fun j x hx => ?_⟩
    have hrow : rows[i]? = some (rows.getD i []) := by simp [hi]
    have hlen : (rows.getD i []).length = sz := h2 _ (List.mem_of_getElem? hrow)
    have hj : j < sz := by rw [← hlen]; exact (List.getElem?_eq_some_iff.1 hx).1
    have hlt : i * sz + j < xs.length := by
      rw [h1.1]
      have : (i + 1) * sz ≤ rows.length * sz := Nat.mul_le_mul_right _ hi
      have : (i + 1) * sz = i * sz + sz := Nat.succ_mul i sz
      omega
    have hx' : xs[i * sz + j]? = some xs[i * sz + j] := List.getElem?_eq_getElem hlt
    have hd : xs.getD (i * sz + j) undef = xs[i * sz + j] := by simp [hlt]
    show _ = some (xs.getD (i * sz + j) undef) ∧ AR _ _ _ _ x (xs.getD (i * sz + j) undef)
    rw [hd]
    refine ⟨?_, h3 i j _ x _ hrow hx hx'⟩
    have hc := h1.cells (g := b) (by rw [hv]; rfl) (i * sz + j) _ hx'
    rw [addr_add] at hc
    simpa using hc

theorem derefK_ok {st : St} {t : Nat} {x : AV} {K : List Loc → AV → Prop} (h : derefK C.P st t x K) : ∃ l r, K l r ∧
    ∀ (e : Env) (st' : St) (g : Gh) (a : Act) (w : World) (vx : Value), SR C e st' g a w → Ag l st st' → AR st'.cur g w (e.N st' g) x vx → ∃ u, (Instr.loadAt t vx).run C.P w = .ok u w ∧ AR st'.cur g w (e.N st' g) r u := by
  unfold derefK at h
  split at h
  · obtain ⟨r, h1, h2⟩ := loadK_ok h
    exact ⟨_, r, h1, fun e st' g a w vx _ _ hx => run_load_of h2 (held_rp hx)⟩
  · rename_i k ver
    split at h
    · rename_i cv cells hk
      obtain ⟨rfl, h⟩ := h
      obtain ⟨r, h1, h2⟩ := loadK_ok h
      refine ⟨_, r, h1, fun e st' g a w vx hs ha hx => ?_⟩
      have hk' := (ha.R (k := k) (by simp)).trans hk
      obtain ⟨b, hb, hh⟩ := held_bx hs hk'
      rw [inv_os hx (curk k hk').symm, hb]
      exact run_load_of h2 hh
    · exact h.elim
  · rename_i k ver off
    split at h
    · rename_i cv cells hk
      obtain ⟨rfl, h⟩ := h
      obtain ⟨r, h1, h2⟩ := loadK_ok h
      refine ⟨_, r, h1, fun e st' g a w vx hs ha hx => ?_⟩
      have hk' := (ha.R (k := k) (by simp)).trans hk
      obtain ⟨b, hb, hh⟩ := held_bx hs hk'
      obtain ⟨b', hb', rfl⟩ := inv_rf hx (curk k hk').symm
      have : b' = b := by rw [hb] at hb'; simp at hb'; exact hb'.symm
      subst this
      have := hh.drop off
      simp only [Nat.zero_add] at this
      exact run_load_of h2 this
    · exact h.elim
  · rename_i k ver sz i off
    split at h
    · rename_i cv el sz' rows hk
      obtain ⟨rfl, rfl, hi, h⟩ := h
      obtain ⟨r, h1, h2⟩ := loadK_ok h
      refine ⟨_, r, h1, fun e st' g a w vx hs ha hx => ?_⟩
      have hk' := (ha.R (k := k) (by simp)).trans hk
      obtain ⟨b, c, hb, hh⟩ := held_sl hs hk' hi
      obtain ⟨b', n, c', hb', rfl⟩ := inv_re hx (curk k hk').symm
      have : b' = b := by rw [hb] at hb'; simp at hb'; exact hb'.1.symm
      subst this
      exact run_load_of h2 (hh.drop off)
    · exact h.elim
  · exact h.elim

theorem run_fieldAt {P : Program} {s f off n : Nat} (hf : fieldT P s f = some (off, n)) (hn : n ≠ 0) (w : World) (a : Addr) (ha : a.spot = none) : (Instr.fieldAt s (.pointer (some a)) f).run P w = .ok (.pointer (some ⟨a.block, a.off + off, none⟩)) w := by
  obtain ⟨fs, x, hu, hx, ho, hs⟩ := field_of hf
  obtain ⟨i, hi, his⟩ := known_of_size hs hn
  have h1 : (sizeOf x.type).run P w = .ok n w := by simp [sizeOf, typeInfo, hi, his]
  simp only [Instr.fieldAt, Sem.run_bind, run_underlying hu, Result.andThen_ok, hx, Instr.sureAddr, Sem.run_pure, fieldPlace, h1, hn, if_false]
  rw [addr_eta ha, addr_add, ho]

theorem row_spot {row : List RV} {cur : Nat → Nat} {N : Nat → Prop} {a : Addr} (h : AR cur g w N (.r (.rp row)) (.pointer (some a))) (hr : row ≠ []) : a.spot = none := by
  cases h with | r h => cases h with | rp _ _ _ hb _ _ => exact (hb hr).2.2

theorem rp_drop {row : List RV} {cur : Nat → Nat} {N : Nat → Prop} {a : Addr} (h : AR cur g w N (.r (.rp row)) (.pointer (some a))) (off : Nat) : AR cur g w N (.r (.rp (row.drop off))) (.pointer (some ⟨a.block, a.off + off, none⟩)) := by
  cases h with | r h => cases h with | rp _ _ c hb hc hr =>
    refine .r (.rp _ _ (fun j => c (off + j)) (fun hne => ?_) (fun j hj => ?_) (fun j x hx => ?_))
    · have : row ≠ [] := by intro e; simp [e] at hne
      exact ⟨(hb this).1, (hb this).2.1, rfl⟩
    · have := hc (off + j) (by simp at hj; omega)
      simpa [Nat.add_assoc] using this
    · rw [List.getElem?_drop] at hx; exact hr _ x hx

theorem fieldAddrK_ok {st : St} {s f : Nat} {x : AV} {K : List Loc → AV → Prop} (h : fieldAddrK C.P st s f x K) : ∃ l r, K l r ∧
    ∀ (e : Env) (st' : St) (g : Gh) (a : Act) (w : World) (vx : Value), SR C e st' g a w → Ag l st st' → AR st'.cur g w (e.N st' g) x vx → ∃ u, (Instr.fieldAt s vx f).run C.P w = .ok u w ∧ AR st'.cur g w (e.N st' g) r u := by
  unfold fieldAddrK at h
  split at h
  · exact h.elim
  · rename_i off n hf
    obtain ⟨hn, h⟩ := h
    split at h
    · rename_i row
      refine ⟨_, _, h.2, fun e st' g a w vx _ _ hx => ?_⟩
      obtain ⟨ad, rfl⟩ := inv_rp hx
      have hne : row ≠ [] := by intro e; simp [e] at h
      exact ⟨_, run_fieldAt hf hn w ad (row_spot hx hne), rp_drop hx off⟩
    · rename_i k ver
      split at h
      · rename_i cv cells hk
        obtain ⟨rfl, h⟩ := h
        refine ⟨_, _, h, fun e st' g a w vx hs ha hx => ?_⟩
        have hk' := (ha.R (k := k) (by simp)).trans hk
        obtain ⟨b, hb, hh⟩ := held_bx hs hk'
        rw [inv_os hx (curk k hk').symm, hb]
        refine ⟨_, run_fieldAt hf hn w ⟨b, 0, none⟩ rfl, .rf _ _ _ _ rfl (.inr ⟨(curk k hk').symm, b, hb, by simp⟩)⟩
      · exact h.elim
    · rename_i k ver o
      obtain ⟨hv, h⟩ := h
      refine ⟨_, _, h, fun e st' g a w vx hs ha hx => ?_⟩
      have hc : st'.cur k = st.cur k := by simp [St.cur, ha.R (k := k) (by simp)]
      obtain ⟨b, hb, rfl⟩ := inv_rf hx (by omega)
      exact ⟨_, run_fieldAt hf hn w ⟨b, o, none⟩ rfl, .rf _ _ _ _ rfl (.inr ⟨by omega, b, hb, rfl⟩)⟩
    · rename_i k ver sz i o
      obtain ⟨hv, h⟩ := h
      refine ⟨_, _, h, fun e st' g a w vx hs ha hx => ?_⟩
      have hc : st'.cur k = st.cur k := by simp [St.cur, ha.R (k := k) (by simp)]
      obtain ⟨b, n', c', hb, rfl⟩ := inv_re hx (by omega)
      exact ⟨_, run_fieldAt hf hn w ⟨b, i * sz + o, none⟩ rfl, .re _ _ _ _ _ _ rfl (.inr ⟨by omega, b, n', c', hb, by simp [Nat.add_assoc]⟩)⟩
    · exact h.elim

theorem rs_index {sz : Nat} {rows : List (List RV)} {cur : Nat → Nat} {N : Nat → Prop} {v : Value} (h : AR cur g w N (.r (.rs sz rows)) v) {i : Nat} (hi : i < rows.length) :
    ∃ a cap, v = .slice (some a) rows.length cap ∧ a.spot = none ∧ AR cur g w N (.r (.rp (rows.getD i []))) (.pointer (some ⟨a.block, a.off + i * sz, none⟩)) := by
  cases h with | r h => cases h with
    | nil => simp at hi
    | rs _ _ a cap c hb hcap hw hc hr =>
      have hne : rows ≠ [] := by intro e; simp [e] at hi
      have hrow : rows[i]? = some (rows.getD i []) := by simp [hi]
      have hlen : (rows.getD i []).length = sz := hw _ (List.mem_of_getElem? hrow)
      refine ⟨a, cap, rfl, (hb hne).2.2, .r (.rp _ _ (c i) (fun _ => ⟨(hb hne).1, (hb hne).2.1, rfl⟩) (fun j hj => ?_) (fun j x hx => hr i j _ x hrow hx))⟩
      have := hc i j hi (by omega)
      simpa [Nat.add_assoc] using this

theorem indexAddrK_ok {st : St} {t : Nat} {x : AV} {i : Int} {k0 : IntKind} {K : List Loc → AV → Prop} (h : indexAddrK C.P st t x i K) : ∃ l r, K l r ∧
    ∀ (e : Env) (st' : St) (g : Gh) (a : Act) (w : World) (vx : Value), SR C e st' g a w → Ag l st st' → AR st'.cur g w (e.N st' g) x vx → ∃ u, (Instr.indexAt t vx (.int k0 i)).run C.P w = .ok u w ∧ AR st'.cur g w (e.N st' g) r u := by
  unfold indexAddrK at h
  split at h
  · rename_i sz rows
    split at h
    · rename_i el hel
      obtain ⟨rfl, hk, h0, hi, h⟩ := h
      refine ⟨_, _, h, fun e st' g a w vx _ _ hx => ?_⟩
      obtain ⟨ad, cap, rfl, hsp, h2⟩ := rs_index hx (i := i.toNat) (by omega)
      refine ⟨_, ?_, h2⟩
      have hu := elem_of hel
      simp only [Instr.indexAt, asIntOf, Sem.run_bind, Sem.run_pure, Result.andThen_ok, run_underlying hu, Nat.le_refl]
      simp [h0, hi, run_sizeOf' hk, run_underlying hu]
      rw [addr_eta hsp, addr_add]
    · exact h.elim
  · rename_i k ver
    split at h
    · rename_i cv el0 sz rows el hk hel
      obtain ⟨rfl, rfl, hkn, h0, hi, h⟩ := h
      refine ⟨_, _, h, fun e st' g a w vx hs ha hx => ?_⟩
      have hk' := (ha.R (k := k) (by simp)).trans hk
      obtain ⟨b, c, hb, hh⟩ := held_sl hs hk' (i := i.toNat) (by omega)
      rw [inv_os hx (curk k hk').symm, hb]
      have hu := elem_of hel
      refine ⟨_, ?_, .re _ _ _ _ _ _ rfl (.inr ⟨(curk k hk').symm, b, _, c, hb, rfl⟩)⟩
      simp only [Instr.indexAt, asIntOf, Sem.run_bind, Sem.run_pure, Result.andThen_ok, run_underlying hu]
      simp [h0, hi, run_sizeOf' hkn, run_underlying hu, addr_add]
    · exact h.elim
  · rename_i row
    split at h
    · rename_i n el hel
      obtain ⟨h0, hi, hkn, hlt, h⟩ := h
      refine ⟨_, _, h, fun e st' g a w vx _ _ hx => ?_⟩
      obtain ⟨ad, rfl⟩ := inv_rp hx
      have hne : row ≠ [] := by intro e; simp [e] at hlt
      refine ⟨_, ?_, rp_drop hx _⟩
      have hu := arr_of hel
      simp only [Instr.indexAt, asIntOf, Sem.run_bind, Sem.run_pure, Result.andThen_ok, run_underlying hu, Instr.sureAddr]
      simp [h0, hi, run_sizeOf' hkn, run_underlying hu]
      rw [addr_eta (row_spot hx hne), addr_add]
    · exact h.elim
  · exact h.elim

theorem sl_len {k ver el sz : Nat} {rows : List (List AV)} (h : SR C e st' g a w) (hk : lookR k st'.rs = (ver, .sl el sz rows)) : ∃ o c, g k = .slice o rows.length c ∧ (o = none → rows = [] ∧ c = 0) ∧ rows.length ≤ c := by
  obtain ⟨xs, h1, _, _⟩ := sl_cells h hk
  rcases h1.2 with ⟨h4, h5⟩ | ⟨b, cap, cur, hv, _, _, hn, _⟩
  · have h5' : rows = [] := List.length_eq_zero_iff.1 h5
    refine ⟨none, 0, ?_, fun _ => ⟨h5', rfl⟩, by simp [h5']⟩
    rw [h4, h5']; rfl
  · exact ⟨_, cap, hv, (by simp), hn⟩

theorem rs_len {sz : Nat} {rows : List (List RV)} {cur : Nat → Nat} {N : Nat → Prop} {v : Value} (h : AR cur g w N (.r (.rs sz rows)) v) : ∃ o c, v = .slice o rows.length c := by
  cases h with | r h => cases h with
    | nil => exact ⟨none, 0, rfl⟩
    | rs _ _ a cap => exact ⟨some a, cap, rfl⟩

theorem lenAV_ok {st : St} {t : Nat} {x : AV} {K : List Loc → AV → Prop} (h : lenAV st C.P t x K) : ∃ l r, K l r ∧
    ∀ (e : Env) (st' : St) (g : Gh) (a : Act) (w : World) (vx : Value) (ty : Nat), SR C e st' g a w → Ag l st st' → AR st'.cur g w (e.N st' g) x vx → ∃ u, (Builtin.len_ #[t] ty #[vx]).run C.P w = .ok u w ∧ AR st'.cur g w (e.N st' g) r u := by
  unfold lenAV at h
  split at h
  · obtain ⟨ht, h⟩ := h
    obtain ⟨el, hu⟩ := sliceT_of ht
    refine ⟨_, _, h, fun e st' g a w vx ty _ _ hx => ?_⟩
    obtain ⟨o, c, rfl⟩ := rs_len hx
    exact ⟨_, by simp [Builtin.len_, run_underlying hu, goInt], .r (.v _)⟩
  · obtain ⟨ht, h⟩ := h
    obtain ⟨el, hu⟩ := sliceT_of ht
    refine ⟨_, _, h, fun e st' g a w vx ty _ _ hx => ?_⟩
    rw [inv_v hx]
    exact ⟨_, by simp [Builtin.len_, run_underlying hu, goInt], .r (.v _)⟩
  · obtain ⟨ht, h⟩ := h
    obtain ⟨el, hu⟩ := sliceT_of ht
    refine ⟨_, _, h, fun e st' g a w vx ty _ _ hx => ?_⟩
    obtain ⟨o, c, rfl⟩ : ∃ o c, vx = .slice o _ c := by
      cases hx with | r hx => cases hx; exact ⟨_, _, rfl⟩
    exact ⟨_, by simp [Builtin.len_, run_underlying hu, goInt], .r (.v _)⟩
  · obtain ⟨ht, h⟩ := h
    refine ⟨_, _, h, fun e st' g a w vx ty _ _ hx => ?_⟩
    rw [inv_v hx]
    exact ⟨_, by simp [Builtin.len_, run_underlying (stringT_of ht), goInt], .r (.v _)⟩
  · rename_i k ver
    split at h
    · rename_i cv el sz rows hk
      obtain ⟨rfl, ht, h⟩ := h
      obtain ⟨el, hu⟩ := sliceT_of ht
      refine ⟨_, _, h, fun e st' g a w vx ty hs ha hx => ?_⟩
      have hk' := (ha.R (k := k) (by simp)).trans hk
      obtain ⟨o, c, hg, _, _⟩ := sl_len hs hk'
      rw [inv_os hx (curk k hk').symm, hg]
      exact ⟨_, by simp [Builtin.len_, run_underlying hu, goInt], .r (.v _)⟩
    · exact h.elim
  · exact h.elim

theorem nilCheckK_ok {st : St} {x : AV} {K : List Loc → AV → Prop} (h : nilCheckK st x K) : ∃ l r, K l r ∧
    ∀ (e : Env) (st' : St) (g : Gh) (a : Act) (w : World) (vx : Value), SR C e st' g a w → Ag l st st' → AR st'.cur g w (e.N st' g) x vx → ((∃ ad, vx = .pointer (some ad)) ∨ ∃ f vs, vx = .func (.func f) #[] vs) ∧ AR st'.cur g w (e.N st' g) r vx := by
  unfold nilCheckK at h
  split at h
  · exact ⟨_, _, h, fun e st' g a w vx _ _ hx => ⟨.inl (inv_rp hx), hx⟩⟩
  · refine ⟨_, _, h, fun e st' g a w vx _ _ hx => ⟨.inr ?_, hx⟩⟩
    cases hx with | r h => cases h with | fn _ _ vs => exact ⟨_, vs, rfl⟩
  · rename_i k ver
    split at h
    · rename_i cv cells hk
      obtain ⟨rfl, h⟩ := h
      refine ⟨_, _, h, fun e st' g a w vx hs ha hx => ?_⟩
      have hk' := (ha.R (k := k) (by simp)).trans hk
      obtain ⟨b, hb, hh⟩ := held_bx hs hk'
      have := inv_os hx (curk k hk').symm
      exact ⟨.inl ⟨_, by rw [this, hb]⟩, hx⟩
    · exact h.elim
  · rename_i k ver off
    obtain ⟨hv, h⟩ := h
    refine ⟨_, _, h, fun e st' g a w vx hs ha hx => ?_⟩
    have hc : st'.cur k = st.cur k := by simp [St.cur, ha.R (k := k) (by simp)]
    obtain ⟨b, hb, rfl⟩ := inv_rf hx (by omega)
    exact ⟨.inl ⟨_, rfl⟩, hx⟩
  · rename_i k ver sz i o
    obtain ⟨hv, h⟩ := h
    refine ⟨_, _, h, fun e st' g a w vx hs ha hx => ?_⟩
    have hc : st'.cur k = st.cur k := by simp [St.cur, ha.R (k := k) (by simp)]
    obtain ⟨b, n', c', hb, rfl⟩ := inv_re hx (by omega)
    exact ⟨.inl ⟨_, rfl⟩, hx⟩
  · exact h.elim

end

end Go.Proofs.YtjbhpoolghfhiaaDoor
namespace Go.Proofs.YtjbhpoolghfhiaaDoor
set_option linter.unusedVariables false
set_option linter.unusedSimpArgs false
set_option maxHeartbeats 10000000
open Go

section
variable {C : Ctx} {e : Env} {st' : St} {g : Gh} {a : Act} {w : World}

theorem splice_len : ∀ (cs : List AV) (n : Nat) (vs : List AV), n + vs.length ≤ cs.length → (splice cs n vs).length = cs.length
  | cs, n, [], _ => by unfold splice; cases cs <;> rfl
  | [], n, v :: vs, h => by simp at h
  | c :: cs, 0, v :: vs, h => by simp only [splice, List.length_cons]; rw [splice_len cs 0 vs (by simp at h ⊢; omega)]
  | c :: cs, n + 1, v :: vs, h => by simp only [splice, List.length_cons]; rw [splice_len cs n (v :: vs) (by simp at h ⊢; omega)]

theorem splice_get : ∀ (cs : List AV) (n : Nat) (vs : List AV), n + vs.length ≤ cs.length → ∀ j, (splice cs n vs)[j]? = if n ≤ j ∧ j < n + vs.length then vs[j - n]? else cs[j]?
  | cs, n, [], _, j => by
    have : splice cs n [] = cs := by unfold splice; cases cs <;> rfl
    rw [this, if_neg (by simp only [List.length_nil]; omega)]
  | [], n, v :: vs, h, j => by simp at h
  | c :: cs, 0, v :: vs, h, j => by
    simp only [splice]
    cases j with
    | zero => simp
    | succ j =>
      rw [List.getElem?_cons_succ, splice_get cs 0 vs (by simp at h ⊢; omega) j]
      simp
  | c :: cs, n + 1, v :: vs, h, j => by
    simp only [splice]
    cases j with
    | zero => simp
    | succ j =>
      rw [List.getElem?_cons_succ, splice_get cs n (v :: vs) (by simp at h ⊢; omega) j]
      simp only [List.getElem?_cons_succ, List.length_cons]
      by_cases h1 : n ≤ j ∧ j < n + (vs.length + 1)
      · rw [if_pos h1, if_pos (by omega)]; congr 1; omega
      · rw [if_neg h1, if_neg (by omega)]

/-- Values in the places of cells. -/
def PW (cur : Nat → Nat) (g : Gh) (w : World) (N : Nat → Prop) (cs : List AV) (xs : Array Value) : Prop :=
  xs.size = cs.length ∧ ∀ (j : Nat) (x : AV) (y : Value), cs[j]? = some x → xs[j]? = some y → AR cur g w N x y

theorem fold_set (vs : Array Value) (off : Nat) (xs : Array Value) (h : off + vs.size ≤ xs.size) :
    (vs.zipIdx.foldl (fun cs (c, j) => cs.setIfInBounds (off + j) c) xs).size = xs.size ∧
    ∀ k, (vs.zipIdx.foldl (fun cs (c, j) => cs.setIfInBounds (off + j) c) xs)[k]? = if off ≤ k ∧ k < off + vs.size then vs[k - off]? else xs[k]? := by
  obtain ⟨vs⟩ := vs
  rw [← Array.foldl_toList, Array.toList_zipIdx]
  simp only [List.size_toArray, List.getElem?_toArray] at *
  suffices hh : ∀ (vs : List Value) (i : Nat) (xs : Array Value), off + i + vs.length ≤ xs.size →
      (List.foldl (fun cs (p : Value × Nat) => cs.setIfInBounds (off + p.2) p.1) xs (vs.zipIdx i)).size = xs.size ∧
      ∀ k, (List.foldl (fun cs (p : Value × Nat) => cs.setIfInBounds (off + p.2) p.1) xs (vs.zipIdx i))[k]? = if off + i ≤ k ∧ k < off + i + vs.length then vs[k - (off + i)]? else xs[k]? by
    have := hh vs 0 xs (by simpa using h)
    simpa using this
  intro vs
  induction vs with
  | nil => intro i xs h; exact ⟨rfl, fun k => by simp; omega⟩
  | cons v vs ih =>
    intro i xs h
    simp only [List.zipIdx_cons, List.foldl_cons]
    obtain ⟨h1, h2⟩ := ih (i + 1) (xs.setIfInBounds (off + i) v) (by simp at h ⊢; omega)
    refine ⟨by rw [h1]; simp, fun k => ?_⟩
    rw [h2 k]
    by_cases hk : off + i = k
    · subst hk
      rw [if_neg (by omega), if_pos (by simp)]
      simp at h
      simp [Array.getElem?_setIfInBounds]; omega
    · by_cases h3 : off + i ≤ k ∧ k < off + i + (vs.length + 1)
      · rw [if_pos (by omega), if_pos (by simpa using h3)]
        have : k - (off + i) = (k - (off + (i + 1))) + 1 := by omega
        rw [this, List.getElem?_cons_succ]
      · rw [if_neg (by omega), if_neg (by simpa using h3), Array.getElem?_setIfInBounds_ne hk]

theorem fillK_ok {P : Program} {t : Nat} (places : Nat → Option (Nat × Nat)) (hp : ∀ i off n, partT P t i = some (off, n) → places i = some (off, n)) :
    ∀ {l : List (Nat × AV)} {cs : List AV} {K : List AV → Prop}, fillK P t l cs K → ∃ r, K r ∧ ∀ cur g w N (vs : List (Nat × Value)) (xs : Array Value),
      vs.length = l.length → (∀ (j : Nat) (p : Nat × AV) (q : Nat × Value), l[j]? = some p → vs[j]? = some q → q.1 = p.1 ∧ AR cur g w N p.2 q.2) → PW cur g w N cs xs →
      ∃ ys, Instr.fill places xs vs = some ys ∧ PW cur g w N r ys
  | [], cs, K, h => ⟨cs, h, fun cur g w N vs xs hl _ hx => by
      rw [List.length_eq_zero_iff.1 hl]
      exact ⟨xs, rfl, hx⟩⟩
  | (i, x) :: l, cs, K, h => by
    unfold fillK at h
    split at h
    · rename_i off n hf
      obtain ⟨hok, hn, hle, h⟩ := h
      obtain ⟨r, hr, h1⟩ := fillK_ok places hp h
      refine ⟨r, hr, fun cur g w N vs xs hl hv hx => ?_⟩
      rcases vs with _ | ⟨⟨i', v⟩, vs⟩
      · simp at hl
      obtain ⟨e1, e2⟩ := hv 0 _ _ rfl rfl
      dsimp only at e1 e2
      subst e1
      obtain ⟨c1, c2, _⟩ := AR_cells e2 hok
      obtain ⟨z1, z2⟩ := fold_set v.cells off xs (by rw [c1, hn, hx.1]; exact hle)
      obtain ⟨ys, y1, y2⟩ := h1 cur g w N vs (v.cells.zipIdx.foldl (fun cs (c, j) => cs.setIfInBounds (off + j) c) xs) (by simpa using hl) (fun j p q hp' hq => hv (j + 1) p q (by simpa using hp') (by simpa using hq))
        (by
          refine ⟨by rw [z1, hx.1, splice_len _ _ _ (by omega)], fun j x' y hj hy => ?_⟩
          rw [splice_get _ _ _ (by omega)] at hj
          rw [z2, c1] at hy
          by_cases hb : off ≤ j ∧ j < off + (avCells x).length
          · rw [if_pos hb] at hj hy; exact c2 _ _ _ hj hy
          · rw [if_neg hb] at hj hy; exact hx.2 _ _ _ hj hy)
      refine ⟨ys, ?_, y2⟩
      simp only [Instr.fill, hp i' off n hf]
      rw [if_neg (by rw [c1, hn, hx.1]; simp; omega)]
      exact y1
    · exact h.elim

theorem zeroK_ok {P : Program} {t : Nat} {K : List AV → Prop} (h : zeroCellsT P t K) : ∃ z, zeroT P t = some z ∧ K (z.cells.toList.map fun v => .r (.v v)) ∧ ∀ w, (zeroValue t).run P w = .ok z w := by
  unfold zeroCellsT at h
  split at h
  · rename_i z hz
    refine ⟨z, hz, h, fun w => ?_⟩
    unfold zeroT at hz
    split at hz
    · rename_i i hi; simp [zeroValue, typeInfo, hi, hz]
    · cases hz
  · exact h.elim

theorem PW_zero (cur : Nat → Nat) (g : Gh) (w : World) (N : Nat → Prop) (xs : Array Value) : PW cur g w N (xs.toList.map fun v => .r (.v v)) xs := by
  refine ⟨by simp, fun j x y hx hy => ?_⟩
  rw [List.getElem?_map] at hx
  simp [hy] at hx
  subst hx; exact .r (.v y)

theorem mapM_get {α β : Type} {f : α → Option β} : ∀ {l : List α} {r : List β}, l.mapM f = some r → ∀ (i : Nat) (x : α), l[i]? = some x → ∃ y, f x = some y ∧ r[i]? = some y
  | [], r, _, i, x, hx => by simp at hx
  | a :: l, r, h, i, x, hx => by
    rw [List.mapM_cons] at h
    cases hf : f a with
    | none => simp [hf] at h
    | some y =>
      cases hm : l.mapM f with
      | none => simp [hf, hm] at h
      | some ys =>
        simp [hf, hm] at h
        subst h
        cases i with
        | zero => simp at hx; subst hx; exact ⟨y, hf, rfl⟩
        | succ i => exact mapM_get hm i x (by simpa using hx)

theorem run_build' {P : Program} {t : Nat} {parts : List (Nat × AV)} {K : AV → Prop} (hs : buildT P t = true) (h : zeroCellsT P t fun z => fillK P t parts z fun cs => K (.agg cs)) :
    ∃ r, K r ∧ ∀ cur g w N (vs : List (Nat × Value)), vs.length = parts.length → (∀ (j : Nat) (p : Nat × AV) (q : Nat × Value), parts[j]? = some p → vs[j]? = some q → q.1 = p.1 ∧ AR cur g w N p.2 q.2) →
      ∃ u, (Instr.build t vs.toArray).run P w = .ok u w ∧ AR cur g w N r u := by
  unfold buildT at hs
  split at hs
  · rename_i fs hu
    obtain ⟨pl, hpl⟩ := Option.isSome_iff_exists.1 hs
    unfold placesT at hpl
    rw [hu] at hpl
    obtain ⟨z, hz, hf, hzr⟩ := zeroK_ok h
    obtain ⟨r, hr, h1⟩ := fillK_ok (fun x => pl.toArray[x]?) (fun i off n hfi => by
      unfold partT at hfi
      rw [hu] at hfi
      cases hx : fs[i]? with
      | none => simp [hx] at hfi
      | some x =>
        simp [hx] at hfi
        obtain ⟨ho, hn⟩ := hfi
        obtain ⟨y, hy, hy2⟩ := mapM_get hpl i x (by simpa using hx)
        cases hi : P.info? x.type with
        | none => simp [hi] at hy
        | some ii =>
          simp [hi] at hy
          have : sizeT P x.type = ii.size := by simp [sizeT, hi]
          simp [hy2, ← hy, ho, ← hn, this]) hf
    refine ⟨_, hr, fun cur g w N vs hl hv => ?_⟩
    obtain ⟨ys, y1, y2⟩ := h1 cur g w N vs z.cells hl hv (PW_zero cur g w N z.cells)
    refine ⟨.agg ys, ?_, .agg _ _ y2.1 y2.2⟩
    simp only [Instr.build, Sem.run_bind, hzr, Result.andThen_ok, run_underlying hu]
    have := run_places (P := P) w fs.toList pl hpl
    have y1' : Instr.fill (fun x => pl[x]?) z.cells vs = some ys := by simpa using y1
    simp [Array.mapM_eq_mapM_toList, this, y1']
  · rename_i n el hu
    obtain ⟨z, hz, hf, hzr⟩ := zeroK_ok h
    obtain ⟨r, hr, h1⟩ := fillK_ok (fun i => some (i * sizeT P el, sizeT P el)) (fun i off n hfi => by
      unfold partT at hfi
      rw [hu] at hfi
      exact hfi) hf
    refine ⟨_, hr, fun cur g w N vs hl hv => ?_⟩
    obtain ⟨ys, y1, y2⟩ := h1 cur g w N vs z.cells hl hv (PW_zero cur g w N z.cells)
    refine ⟨.agg ys, ?_, .agg _ _ y2.1 y2.2⟩
    simp only [Instr.build, Sem.run_bind, hzr, Result.andThen_ok, run_underlying hu, run_sizeOf' hs]
    simp [y1]
  · cases hs

theorem arr1 {α : Type} {xs : Array α} {l : List α} (h : xs.toList = l) : xs = l.toArray := by rw [← h]

theorem pick_ok {cur : Nat → Nat} {g : Gh} {w : World} {N : Nat → Prop} {q : Bool} {x y : AV} {vx vy : Value} (hx : AR cur g w N x vx) (hy : AR cur g w N y vy) : AR cur g w N (pickAV q x y) (if q then vx else vy) := by
  unfold pickAV
  split
  · have e1 := inv_v hx
    have e2 := inv_v hy
    subst e1; subst e2
    cases q <;> exact .r (.v _)
  · cases q
    · exact hy
    · exact hx

theorem inv_int {cur : Nat → Nat} {g : Gh} {w : World} {N : Nat → Prop} {k : IntKind} {n : Int} {v : Value} (h : AR cur g w N (.r (.v (.int k n))) v) : v = .int k n := inv_v h

theorem inv_tup {cur : Nat → Nat} {g : Gh} {w : World} {N : Nat → Prop} {cs : List AV} {v : Value} (h : AR cur g w N (.tup cs) v) : ∃ xs : Array Value, v = .tuple xs ∧ xs.size = cs.length ∧ ∀ (j : Nat) (x : AV) (y : Value), cs[j]? = some x → xs[j]? = some y → AR cur g w N x y := by
  cases h with | tup _ xs hs h => exact ⟨xs, rfl, hs, h⟩

theorem part_load {P : Program} {t : Nat} {cs : List AV} {off : Nat} {r : AV} {cur : Nat → Nat} {g : Gh} {w : World} {N : Nat → Prop} {xs : Array Value} (hl : LoadR P t (cs.drop off) r) (hx : PW cur g w N cs xs) :
    ∃ u, (part t xs off).run P w = .ok u w ∧ AR cur g w N r u := by
  obtain ⟨hk, hl⟩ := hl
  simp only [part, Sem.run_bind, run_isAgg' hk, Result.andThen_ok]
  rcases hl with ⟨ha, hn, rfl⟩ | ⟨ha, rest, hr⟩
  · refine ⟨.agg (xs.extract off (off + sizeT P t)), by simp [ha, run_sizeOf' hk], .agg _ _ (by rw [List.length_take, List.length_drop, Array.size_extract, hx.1]; rw [List.length_drop] at hn; omega) (fun j x y hj hy => ?_)⟩
    rw [List.getElem?_take] at hj
    split at hj
    · rw [List.getElem?_drop] at hj
      rw [Array.getElem?_extract] at hy
      split at hy
      · exact hx.2 _ _ _ hj hy
      · cases hy
    · cases hj
  · have h0 : cs[off]? = some r := by
      have : (cs.drop off)[0]? = some r := by rw [hr]; rfl
      simpa using this
    have hlt : off < xs.size := by rw [hx.1]; exact (List.getElem?_eq_some_iff.1 h0).1
    have hx0 : xs[off]? = some xs[off] := Array.getElem?_eq_getElem hlt
    exact ⟨xs[off], by simp [ha, hx0], hx.2 _ _ _ h0 hx0⟩

/-- Operations that give a value do so. -/
theorem valK_ok {o : Oper} {st : St} {K : List Loc → AV → Prop} (h : valK C o.op st K) : ∃ l r, K l r ∧
    ∀ (e : Env) (st' : St) (g : Gh) (a : Act) (w : World), SR C e st' g a w → Ag l st st' → ∃ v w', (execOp a.eval o).run C.P w = .ok (.value v) w' ∧ Fine w w' ∧ AR st'.cur g w (e.N st' g) r v := by
  obtain ⟨dst, op, type, pos, after, guard⟩ := o
  dsimp only at h
  unfold valK at h
  split at h
  · exact ⟨_, _, h, fun e st' g a w hs ha => ⟨_, w, rfl, Fine.refl w, arg hs ha (by simp)⟩⟩
  · exact ⟨_, _, h, fun e st' g a w hs ha => ⟨_, w, rfl, Fine.refl w, arg hs ha (by simp)⟩⟩
  · rename_i c x y
    split at h
    · rename_i q hc
      refine ⟨_, _, h, fun e st' g a w hs ha => ?_⟩
      have h1 := arg hs ha (x := c) (by simp)
      rw [hc] at h1
      have h2 := inv_v h1
      refine ⟨_, w, ?_, Fine.refl w, pick_ok (q := q) (arg hs ha (x := x) (by simp)) (arg hs ha (x := y) (by simp))⟩
      simp [execOp, h2, asBool]
    · exact h.elim
  · rename_i op t x y yt
    obtain ⟨r, h1, h2⟩ := binAV_ok (P := C.P) h
    refine ⟨_, r, h1, fun e st' g a w hs ha => ?_⟩
    obtain ⟨v, w', h3, h4, h5⟩ := h2 st'.cur g w (e.N st' g) _ _ x y (arg hs ha (x := x) (by simp)) (arg hs ha (x := y) (by simp))
    exact ⟨v, w', by simp only [execOp, Sem.run_bind] at h3 ⊢; rw [h3]; rfl, h4, h5⟩
  · rename_i op t x
    obtain ⟨r, h1, h2⟩ := unAV_ok (P := C.P) h
    refine ⟨_, r, h1, fun e st' g a w hs ha => ?_⟩
    obtain ⟨v, h3, h5⟩ := h2 st'.cur g w (e.N st' g) _ (arg hs ha (x := x) (by simp))
    exact ⟨v, w, by simp only [execOp, Sem.run_bind]; rw [h3]; rfl, Fine.refl w, h5⟩
  · rename_i s t x
    obtain ⟨r, h1, h2⟩ := convAV_ok (P := C.P) h
    refine ⟨_, r, h1, fun e st' g a w hs ha => ?_⟩
    obtain ⟨v, h3, h5⟩ := h2 st'.cur g w (e.N st' g) _ (arg hs ha (x := x) (by simp))
    exact ⟨v, w, by simp only [execOp, Sem.run_bind]; rw [h3]; rfl, Fine.refl w, h5⟩
  · rename_i t x
    obtain ⟨l, r, h1, h2⟩ := derefK_ok h
    refine ⟨_, r, h1, fun e st' g a w hs ha => ?_⟩
    obtain ⟨v, h3, h5⟩ := h2 e st' g a w _ hs ha.left (arg hs ha.right (x := x) (by simp))
    exact ⟨v, w, by simp only [execOp, Sem.run_bind]; rw [h3]; rfl, Fine.refl w, h5⟩
  · rename_i s x f
    obtain ⟨l, r, h1, h2⟩ := fieldAddrK_ok h
    refine ⟨_, r, h1, fun e st' g a w hs ha => ?_⟩
    obtain ⟨v, h3, h5⟩ := h2 e st' g a w _ hs ha.left (arg hs ha.right (x := x) (by simp))
    exact ⟨v, w, by simp only [execOp, Sem.run_bind]; rw [h3]; rfl, Fine.refl w, h5⟩
  · rename_i t x i
    split at h
    · rename_i k0 n hi
      obtain ⟨l, r, h1, h2⟩ := indexAddrK_ok (k0 := k0) h
      refine ⟨_, r, h1, fun e st' g a w hs ha => ?_⟩
      obtain ⟨v, h3, h5⟩ := h2 e st' g a w _ hs ha.left (arg hs ha.right (x := x) (by simp))
      have h6 := arg hs ha.right (x := i) (by simp)
      rw [hi] at h6
      exact ⟨v, w, by simp only [execOp, Sem.run_bind]; rw [inv_v h6, h3]; rfl, Fine.refl w, h5⟩
    · exact h.elim
  · rename_i t x i
    split at h
    · rename_i s k0 n hx hi
      obtain ⟨ht, h0, hlt, h⟩ := h
      refine ⟨_, _, h, fun e st' g a w hs ha => ?_⟩
      have h5 := arg hs ha (x := x) (by simp)
      have h6 := arg hs ha (x := i) (by simp)
      rw [hx] at h5; rw [hi] at h6
      refine ⟨_, w, ?_, Fine.refl w, .r (.v _)⟩
      simp only [execOp, Sem.run_bind, inv_v h5, inv_v h6, Instr.index, asIntOf, Sem.run_pure, Result.andThen_ok, run_underlying (stringT_of ht), h0, if_true]
      have hn : n.toNat < s.size := by omega
      have : s[n.toNat]? = some s[n.toNat] := by simp [hn]
      rw [this]
      have e2 : s.data.toList.getD n.toNat 0 = s[n.toNat] := by
        have : n.toNat < s.data.toList.length := by simpa using hn
        simp only [List.getD, List.getElem?_eq_getElem this, Option.getD_some]; rfl
      rw [e2]; rfl
    · rename_i cs k0 n hx hi
      split at h
      · rename_i len el hl
        obtain ⟨h0, hlt, hk, h⟩ := h
        obtain ⟨r, h1, h2⟩ := loadK_ok h
        refine ⟨_, r, h1, fun e st' g a w hs ha => ?_⟩
        have h5 := arg hs ha (x := x) (by simp)
        have h6 := arg hs ha (x := i) (by simp)
        rw [hx] at h5; rw [hi] at h6
        obtain ⟨xs, hv, p1, p2⟩ := inv_agg h5
        obtain ⟨u, h3, h4⟩ := part_load h2 (⟨p1, p2⟩ : PW st'.cur g w (e.N st' g) cs xs)
        refine ⟨u, w, ?_, Fine.refl w, h4⟩
        simp only [execOp, Sem.run_bind, hv, inv_v h6, Instr.index, asIntOf, Sem.run_pure, Result.andThen_ok, run_underlying (arr_of hl)]
        simp [h0, hlt, run_sizeOf' hk, h3]
      · exact h.elim
    · exact h.elim
  · rename_i t i
    split at h
    · rename_i xs hx
      split at h
      · rename_i x hxi
        refine ⟨_, _, h, fun e st' g a w hs ha => ?_⟩
        have h5 := arg hs ha (x := t) (by simp)
        rw [hx] at h5
        obtain ⟨vs, hv, p1, p2⟩ := inv_tup h5
        have hlt : i < vs.size := by rw [p1]; exact (List.getElem?_eq_some_iff.1 hxi).1
        have hvi : vs[i]? = some vs[i] := Array.getElem?_eq_getElem hlt
        refine ⟨vs[i], w, ?_, Fine.refl w, p2 _ _ _ hxi hvi⟩
        simp [execOp, hv, Instr.extract, hvi]
      · exact h.elim
    · exact h.elim
  · rename_i x
    obtain ⟨l, r, h1, h2⟩ := nilCheckK_ok (C := C) h
    refine ⟨_, r, h1, fun e st' g a w hs ha => ?_⟩
    obtain ⟨h3, h5⟩ := h2 e st' g a w _ hs ha.left (arg hs ha.right (x := x) (by simp))
    refine ⟨a.eval x, w, ?_, Fine.refl w, h5⟩
    rcases h3 with ⟨ad, h3⟩ | ⟨f, vs, h3⟩ <;> simp [execOp, h3]
  · rename_i t parts
    obtain ⟨hp, h⟩ := h
    obtain ⟨r, h1, h2⟩ := run_build' (P := C.P) hp h
    refine ⟨_, r, h1, fun e st' g a w hs ha => ?_⟩
    obtain ⟨u, h3, h4⟩ := h2 st'.cur g w (e.N st' g) (parts.toList.map fun p => (p.1, a.eval p.2)) (by simp) (fun j p q hp hq => by
      rw [List.getElem?_map] at hp hq
      cases hj : parts.toList[j]? with
      | none => simp [hj] at hp
      | some z =>
        simp only [hj, Option.map_some, Option.some.injEq] at hp hq
        subst hp; subst hq
        exact ⟨rfl, arg hs ha (List.mem_map.2 ⟨z, List.mem_of_getElem? hj, rfl⟩)⟩)
    refine ⟨u, w, ?_, Fine.refl w, h4⟩
    simp only [execOp, Sem.run_bind]
    have : (Array.map (fun x => (x.1, a.eval x.2)) parts) = (parts.toList.map fun p => (p.1, a.eval p.2)).toArray := by apply Array.ext'; simp
    rw [show (parts.map fun (i, x) => (i, a.eval x)) = (parts.toList.map fun p => (p.1, a.eval p.2)).toArray from this, h3]; rfl
  · rename_i c
    split at h
    · rename_i x t hc hargs hat
      replace hargs := arr1 hargs
      replace hat := arr1 hat
      obtain ⟨l, r, h1, h2⟩ := lenAV_ok h
      refine ⟨_, r, h1, fun e st' g a w hs ha => ?_⟩
      obtain ⟨u, h3, h4⟩ := h2 e st' g a w _ type hs ha.left (arg hs ha.right (x := x) (by simp))
      refine ⟨u, w, ?_, Fine.refl w, h4⟩
      simp [execOp, resolve, hc, hargs, hat, invoke, builtin, h3]
    · rename_i x y hc hargs
      replace hargs := arr1 hargs
      split at h
      · rename_i k n k' m hx hy
        obtain ⟨rfl, h⟩ := h
        refine ⟨_, _, h, fun e st' g a w hs ha => ?_⟩
        have h5 := arg hs ha (x := x) (by simp)
        have h6 := arg hs ha (x := y) (by simp)
        rw [hx] at h5; rw [hy] at h6
        refine ⟨_, w, ?_, Fine.refl w, .r (.v _)⟩
        simp [execOp, resolve, hc, hargs, invoke, builtin, Builtin.min_, inv_v h5, inv_v h6, Builtin.min2]
      · exact h.elim
    · rename_i x y hc hargs
      replace hargs := arr1 hargs
      split at h
      · rename_i k n k' m hx hy
        obtain ⟨rfl, h⟩ := h
        refine ⟨_, _, h, fun e st' g a w hs ha => ?_⟩
        have h5 := arg hs ha (x := x) (by simp)
        have h6 := arg hs ha (x := y) (by simp)
        rw [hx] at h5; rw [hy] at h6
        refine ⟨_, w, ?_, Fine.refl w, .r (.v _)⟩
        simp [execOp, resolve, hc, hargs, invoke, builtin, Builtin.max_, inv_v h5, inv_v h6, Builtin.max2]
      · exact h.elim
    · exact h.elim
  · exact h.elim

end

end Go.Proofs.YtjbhpoolghfhiaaDoor
namespace Go.Proofs.YtjbhpoolghfhiaaDoor
set_option linter.unusedVariables false
set_option linter.unusedSimpArgs false
set_option maxHeartbeats 10000000
open Go

theorem Agree_of {l : List Loc} {st st' : St} : Agree st' (l.map fun x => (x, st.get x)) ↔ Ag l st st' := by
  constructor
  · intro h x hx
    exact h x _ (List.mem_map.2 ⟨x, hx, rfl⟩)
  · intro h x c hc
    obtain ⟨y, hy, he⟩ := List.mem_map.1 hc
    simp only [Prod.mk.injEq] at he
    obtain ⟨rfl, rfl⟩ := he
    exact h y hy

section
variable {C : Ctx}

/-- A new resource in a slot of its own, its handle in the slot. -/
theorem SR.fresh {e : Env} {st : St} {g : Gh} {a : Act} {w : World} (h : SR C e st g a w) (hok : e.ok C) {d : Nat} (hd : d < st.n) (o : Obj) (res : Res) (v : Value) (hv : hblock v = some w.heap.size) (hv1 : v.oneCell' = true)
    (hres : ∀ (cur : Nat → Nat) (g' : Gh) (N : Nat → Prop), g' d = v → (∀ x y, AR st.cur g w (e.N st g) x y → AR cur g' (w.alloc o) N x y) → ResR cur g' (w.alloc o) N d res) :
    SR C e (st.upd [(.R d, .s (st.cur d + 1) res), (.T d, .a (.os d (st.cur d + 1)))]) (gput g d v) (a.put (some d) v) (w.alloc o) := by
  have h1 := (h.turn (w' := w.alloc o) d (st.cur d + 1) res v rfl rfl rfl (by simp) (fun b hb _ => RowKit.Below.heap_alloc w o b hb) (.inl (by omega)) (fun b _ hb => by
    rw [hv] at hb; simp at hb; subst hb; exact ⟨by simp, .inr (Nat.le_refl _)⟩) hok (fun st' g' hst hg hl => hres st'.cur g' (e.N st' g') (by rw [hg]; simp [gput]) hl)).1
  exact h1.put (d := d) (v := v) hd (.os d (st.cur d + 1) v hv1 (.inr ⟨by simp [St.cur, lookR_put], by simp [gput]⟩))

theorem heap_new (w : World) (o : Obj) : (w.alloc o).heap[w.heap.size]? = some o := by
  show (w.heap.push o)[w.heap.size]? = some o
  simp

theorem wp_val {P : Program} {o : Oper} {d : Nat} {a : Act} {w w' : World} {v : Value} {next : Act → World → Prop} {Q : Exit → Act → World → Prop} (hd : o.dst = some d) (hr : (execOp a.eval o).run P w = .ok (.value v) w') (h : next (a.put (some d) v) w') : o.wp P a w next Q := by
  unfold Oper.wp
  rw [hr]
  show next (a.put o.dst v) w'
  rw [hd]; exact h

theorem alloc_ok {st : St} {d t : Nat} {o : Oper} {K : List Loc → List (Loc × Cont) → Prop} (hdst : o.dst = some d) (ho : o.op = .alloc t) (hd : d < st.n)
    (h : zeroCellsT C.P t fun z => okCells z = true ∧ K [.R d] [(.R d, .s (st.cur d + 1) (.bx z)), (.T d, .a (.os d (st.cur d + 1)))]) :
    ∃ l outs, K l outs ∧ LStep C o st.n (l.map fun x => (x, st.get x)) outs := by
  obtain ⟨z, hz, ⟨hok, hK⟩, hzr⟩ := zeroK_ok h
  refine ⟨_, _, hK, fun e st' a w next Q hn ⟨heok, g, hs⟩ ha hnext => ?_⟩
  replace ha := Agree_of.1 ha
  have hcur : st'.cur d = st.cur d := by simp [St.cur, ha.R (k := d) (by simp)]
  have hr : (execOp a.eval o).run C.P w = .ok (.value (.pointer (some ⟨w.heap.size, 0, none⟩))) (w.alloc (.cells z.cells t)) := by
    simp [execOp, ho, Instr.alloc, hzr, newVar, newRow]
  have key := hs.fresh heok (d := d) (by omega) (.cells z.cells t) (.bx (z.cells.toList.map fun v => .r (.v v))) (.pointer (some ⟨w.heap.size, 0, none⟩)) rfl rfl (fun cur g' N hg hl => by
    obtain ⟨p1, p2⟩ := PW_zero cur g' (w.alloc (.cells z.cells t)) N z.cells
    exact ⟨w.heap.size, z.cells, t, hg, heap_new w _, p1, p2⟩)
  rw [hcur] at key
  exact wp_val hdst hr (hnext _ _ ⟨heok, _, key⟩)

theorem box_ok {st : St} {d t : Nat} {x : Operand} {o : Oper} {K : List Loc → List (Loc × Cont) → Prop} (hdst : o.dst = some d) (ho : o.op = .box t x) (hd : d < st.n)
    (h : okCells (avCells (ev st x)) = true ∧ K (.R d :: rd [x]) [(.R d, .s (st.cur d + 1) (.bx (avCells (ev st x)))), (.T d, .a (.os d (st.cur d + 1)))]) :
    ∃ l outs, K l outs ∧ LStep C o st.n (l.map fun x => (x, st.get x)) outs := by
  refine ⟨_, _, h.2, fun e st' a w next Q hn ⟨heok, g, hs⟩ ha hnext => ?_⟩
  replace ha := Agree_of.1 ha
  have hcur : st'.cur d = st.cur d := by simp [St.cur, ha.R (k := d) (by simp)]
  have hx := arg hs (l := [x]) (fun y hy => ha y (List.mem_cons_of_mem _ hy)) (x := x) (by simp)
  obtain ⟨c1, c2, c3⟩ := AR_cells hx h.1
  have hr : (execOp a.eval o).run C.P w = .ok (.value (.pointer (some ⟨w.heap.size, 0, none⟩))) (w.alloc (.cells (a.eval x).cells t)) := by
    simp [execOp, ho, Instr.box, newVar, newRow]
  have key := hs.fresh heok (d := d) (by omega) (.cells (a.eval x).cells t) (.bx (avCells (ev st x))) (.pointer (some ⟨w.heap.size, 0, none⟩)) rfl rfl (fun cur g' N hg hl =>
    ⟨w.heap.size, (a.eval x).cells, t, hg, heap_new w _, c1, fun j x y hj hy => hl _ _ (c2 j x y hj hy)⟩)
  rw [hcur] at key
  exact wp_val hdst hr (hnext _ _ ⟨heok, _, key⟩)

/-- Values written over. -/
def over (xs : List Value) (p : Nat) (vs : List Value) : List Value := xs.take p ++ vs ++ xs.drop (p + vs.length)

theorem over_len {xs : List Value} {p : Nat} {vs : List Value} (h : p + vs.length ≤ xs.length) : (over xs p vs).length = xs.length := by
  simp [over]; omega

theorem over_get {xs : List Value} {p : Nat} {vs : List Value} (h : p + vs.length ≤ xs.length) (k : Nat) : (over xs p vs)[k]? = if p ≤ k ∧ k < p + vs.length then vs[k - p]? else xs[k]? := by
  have hp : (xs.take p).length = p := by simp; omega
  unfold over
  rw [List.append_assoc]
  by_cases h1 : k < p
  · rw [List.getElem?_append_left (by omega), if_neg (by omega), List.getElem?_take_of_lt h1]
  · rw [List.getElem?_append_right (by omega), hp]
    by_cases h2 : k < p + vs.length
    · rw [List.getElem?_append_left (by omega), if_pos (by omega)]
    · rw [List.getElem?_append_right (by omega), if_neg (by omega), List.getElem?_drop]
      congr 1; omega

theorem run_storeAt' {P : Program} {t : Nat} (hk : knownT P t = true) (w : World) (b off el : Nat) (cur : Array Value) (hh : w.heap[b]? = some (.cells cur el (0, 0))) (v : Value) (hsz : v.cells.size = sizeT P t) (hfit : off + v.cells.size ≤ cur.size) (h1 : ∀ u ∈ v.cells.toList, u.oneCell' = true) :
    (Instr.storeAt t (.pointer (some ⟨b, off, none⟩)) v).run P w = .ok () (w.setRow b (over cur.toList off v.cells.toList).toArray) := by
  have := run_storeCells_at P b off el v.cells.toList 0 cur w hh (by simpa using hfit) h1
  simp only [Instr.storeAt, Instr.sureAddr, storeVar, Sem.run_bind, Sem.run_pure, Result.andThen_ok, run_sizeOf' hk]
  rw [if_neg (by simpa using hsz)]
  simpa [over] using this

theorem blk_bx {st : St} {g : Gh} {k ver b : Nat} {cells : List AV} (hk : lookR k st.rs = (ver, .bx cells)) (hb : g k = .pointer (some ⟨b, 0, none⟩)) : blk st g k = some b := by
  simp [blk, hk, hb, hblock]

theorem putR_same {st : St} {g : Gh} (k : Nat) : gput g k (g k) = g := by
  funext j; unfold gput; split
  · rename_i h; rw [h]
  · rfl

/-- A store into a box. -/
theorem store_bx {e : Env} {st : St} {g : Gh} {a : Act} {w : World} (h : SR C e st g a w) (hok : e.ok C) {k ver b off t : Nat} {cells : List AV} (hk : lookR k st.rs = (ver, .bx cells)) (hb : g k = .pointer (some ⟨b, 0, none⟩))
    {x : AV} {v : Value} (hx : AR st.cur g w (e.N st g) x v) (hxo : okCells (avCells x) = true) (hl : (avCells x).length = sizeT C.P t) (hkn : knownT C.P t = true) (hfit : off + sizeT C.P t ≤ cells.length) :
    ∃ w', (Instr.storeAt t (.pointer (some ⟨b, off, none⟩)) v).run C.P w = .ok () w' ∧ SR C e { st with rs := putR k (ver, .bx (splice cells off (avCells x))) st.rs } g a w' := by
  have hres := h.res k
  rw [hk] at hres
  obtain ⟨b', cu, el, h1, h2, h3, h4⟩ := hres
  have : b' = b := by rw [hb] at h1; simp at h1; exact h1.symm
  subst this
  obtain ⟨c1, c2, c3⟩ := AR_cells hx hxo
  refine ⟨_, run_storeAt' hkn w b' off el cu h2 v (by omega) (by omega) c3, ?_⟩
  have hover : off + v.cells.toList.length ≤ cu.toList.length := by simp; omega
  have := (h.turn (w' := w.setRow b' (over cu.toList off v.cells.toList).toArray) k ver (.bx (splice cells off (avCells x))) (g k) rfl rfl rfl (by simp)
    (fun c hc hne => setRow_other w b' c _ (fun e => hne (by rw [e]; exact blk_bx hk hb))) (.inr ⟨by simp [St.cur, hk], rfl⟩)
    (fun c _ hc => by rw [hb] at hc; simp [hblock] at hc; subst hc; exact ⟨by simpa using (h.low k _ (blk_bx hk hb)).2.1, .inl (blk_bx hk hb)⟩) hok
    (fun st' g' hst hg hlift => by
      refine ⟨b', _, el, by rw [hg]; simp [gput, hb], setRow_heap w b' cu _ el _ h2, by simp only [List.size_toArray]; rw [over_len hover, splice_len _ _ _ (by omega)]; simpa using h3, fun j y u hj hu => ?_⟩
      rw [splice_get _ _ _ (by omega)] at hj
      rw [List.getElem?_toArray, over_get hover] at hu
      by_cases hin : off ≤ j ∧ j < off + (avCells x).length
      · rw [if_pos hin] at hj
        rw [if_pos (by simpa [c1] using hin)] at hu
        exact hlift _ _ (c2 _ _ _ hj (by simpa using hu))
      · rw [if_neg hin] at hj
        rw [if_neg (by simpa [c1] using hin)] at hu
        exact hlift _ _ (h4 _ _ _ hj (by simpa using hu)))).1
  rwa [putR_same (st := st)] at this

/-- A store into an element of an owned slice. -/
theorem store_sl {e : Env} {st : St} {g : Gh} {a : Act} {w : World} (h : SR C e st g a w) (hok : e.ok C) {k ver b el sz n c i off t : Nat} {rows : List (List AV)} (hk : lookR k st.rs = (ver, .sl el sz rows)) (hb : g k = .slice (some ⟨b, 0, none⟩) n c)
    {x : AV} {v : Value} (hx : AR st.cur g w (e.N st g) x v) (hxo : okCells (avCells x) = true) (hl : (avCells x).length = sizeT C.P t) (hkn : knownT C.P t = true) (hi : i < rows.length) (hfit : off + sizeT C.P t ≤ sz) :
    ∃ w', (Instr.storeAt t (.pointer (some ⟨b, i * sz + off, none⟩)) v).run C.P w = .ok () w' ∧ SR C e { st with rs := putR k (ver, .sl el sz (rows.set i (splice (rows.getD i []) off (avCells x)))) st.rs } g a w' := by
  obtain ⟨xs, h1, h2, h3⟩ := sl_cells h hk
  obtain ⟨hxs, h1'⟩ := h1
  rcases h1' with ⟨h4, _⟩ | ⟨b', cap, cu, hv, hb0, hh, hn, hm, hcs, ht⟩
  · rw [hb] at h4; simp at h4
  have : b' = b ∧ n = rows.length := by rw [hb] at hv; simp at hv; exact ⟨hv.1.symm, hv.2.1⟩
  obtain ⟨rfl, rfl⟩ := this
  obtain ⟨c1, c2, c3⟩ := AR_cells hx hxo
  have hblk : blk st g k = some b' := by simp [blk, hk, hb, hblock]
  have hmul : (i + 1) * sz ≤ rows.length * sz := Nat.mul_le_mul_right _ hi
  rw [Nat.succ_mul] at hmul
  have hmul2 : rows.length * sz ≤ cap * sz := Nat.mul_le_mul_right _ hn
  have hlen : i * sz + off + v.cells.size ≤ rows.length * sz := by omega
  refine ⟨_, run_storeAt' hkn w b' (i * sz + off) el cu hh v (by omega) (by omega) c3, ?_⟩
  have hover : i * sz + off + v.cells.toList.length ≤ cu.toList.length := by simp; omega
  have hoverx : i * sz + off + v.cells.toList.length ≤ xs.length := by simp; omega
  have hrow : rows[i]? = some (rows.getD i []) := by simp [hi]
  have hrl : (rows.getD i []).length = sz := h2 _ (List.mem_of_getElem? hrow)
  have := (h.turn (w' := w.setRow b' (over cu.toList (i * sz + off) v.cells.toList).toArray) k ver (.sl el sz (rows.set i (splice (rows.getD i []) off (avCells x)))) (g k) rfl rfl rfl (by simp)
    (fun c hc hne => setRow_other w b' c _ (fun e => hne (by rw [e]; exact hblk))) (.inr ⟨by simp [St.cur, hk], rfl⟩)
    (fun c _ hc => by rw [hb] at hc; simp [hblock] at hc; subst hc; exact ⟨by simpa using (h.low k _ hblk).2.1, .inl hblk⟩) hok
    (fun st' g' hst hg hlift => by
      refine ⟨over xs (i * sz + off) v.cells.toList, ⟨by rw [over_len hoverx, hxs, List.length_set], .inr ⟨b', cap, _, by rw [hg]; simp only [gput, if_true, List.length_set]; exact hv, hb0, setRow_heap w b' cu _ el _ hh, by simpa using hn, hm, by simp only [List.size_toArray]; rw [over_len hover]; simpa using hcs, ?_⟩⟩, ?_, ?_⟩
      · apply List.ext_getElem?
        intro q
        simp only [List.length_set]
        rw [List.getElem?_take, over_get hoverx]
        by_cases hq : q < rows.length * sz
        · rw [if_pos hq, over_get hover, ← ht, List.getElem?_take_of_lt hq]
        · rw [if_neg hq, if_neg (by simp at hoverx ⊢; omega), List.getElem?_eq_none (by omega)]
      · intro row hr
        rcases List.mem_or_eq_of_mem_set hr with hr | rfl
        · exact h2 row hr
        · rw [splice_len _ _ _ (by omega), hrl]
      · intro i2 j row y u hi2 hj hu
        rw [over_get hoverx] at hu
        rw [List.getElem?_set] at hi2
        by_cases hii : i = i2
        · subst hii
          simp only [if_true, hi] at hi2
          simp at hi2
          subst hi2
          rw [← List.getD_eq_getElem?_getD] at hj
          rw [splice_get _ _ _ (by omega)] at hj
          by_cases hin : off ≤ j ∧ j < off + (avCells x).length
          · rw [if_pos hin] at hj
            rw [if_pos (by simp [c1]; omega)] at hu
            refine hlift _ _ (c2 _ _ _ hj ?_)
            rw [← Array.getElem?_toList, ← hu]; congr 1; omega
          · rw [if_neg hin] at hj
            rw [if_neg (by simp [c1]; omega)] at hu
            exact hlift _ _ (h3 _ _ _ _ _ hrow hj hu)
        · rw [if_neg hii] at hi2
          have hjs : j < sz := by
            rw [← h2 row (List.mem_of_getElem? hi2)]; exact (List.getElem?_eq_some_iff.1 hj).1
          have hne : ¬ (i * sz + off ≤ i2 * sz + j ∧ i2 * sz + j < i * sz + off + v.cells.toList.length) := by
            rintro ⟨p1, p2⟩
            simp at p2
            rcases Nat.lt_or_gt_of_ne hii with hlt | hgt
            · have := Nat.mul_le_mul_right sz hlt
              rw [Nat.succ_mul] at this; omega
            · have := Nat.mul_le_mul_right sz hgt
              rw [Nat.succ_mul] at this; omega
          rw [if_neg hne] at hu
          exact hlift _ _ (h3 _ _ _ _ _ hi2 hj hu))).1
  rwa [putR_same (st := st)] at this

theorem wp_skip' {P : Program} {o : Oper} {a : Act} {w w' : World} {next : Act → World → Prop} {Q : Exit → Act → World → Prop} (hd : o.dst = none) (hr : (execOp a.eval o).run P w = .ok .skip w') (h : next a w') : o.wp P a w next Q := by
  unfold Oper.wp
  rw [hr]
  show next (a.put o.dst undef) w'
  rw [hd]; exact h

theorem storeK_ok {st : St} {t : Nat} {x v : Operand} {o : Oper} {K : List Loc → List (Loc × Cont) → Prop} (hdst : o.dst = none) (ho : o.op = .store t x v)
    (h : storeK C.P st t (ev st x) (ev st v) fun l outs => K (l ++ rd [x, v]) outs) :
    ∃ l outs, K l outs ∧ LStep C o st.n (l.map fun x => (x, st.get x)) outs := by
  unfold storeK at h
  obtain ⟨hxo, hl, hkn, h⟩ := h
  have run : ∀ (a : Act) (w w' : World), (Instr.storeAt t (a.eval x) (a.eval v)).run C.P w = .ok () w' → (execOp a.eval o).run C.P w = .ok .skip w' := fun a w w' hr => by
    simp [execOp, ho, hr]
  split at h
  · rename_i k ver hxe
    split at h
    · rename_i cv cells hk
      obtain ⟨rfl, hle, h⟩ := h
      refine ⟨_, _, h, fun e st' a w next Q hn ⟨heok, g, hs⟩ ha hnext => ?_⟩
      replace ha := Agree_of.1 ha
      have hk' := (ha.R (k := k) (by simp)).trans hk
      obtain ⟨b, hb, _⟩ := held_bx hs hk'
      have h1 := arg hs ha.right (x := x) (by simp)
      have h2 := arg hs ha.right (x := v) (by simp)
      rw [hxe] at h1
      have h3 := inv_os h1 (curk k hk').symm
      obtain ⟨w', h4, h5⟩ := store_bx hs heok (off := 0) hk' hb h2 hxo hl hkn (by omega)
      exact wp_skip' hdst (run a w w' (by rw [h3, hb]; exact h4)) (hnext a w' ⟨heok, g, h5⟩)
    · exact h.elim
  · rename_i k ver off hxe
    split at h
    · rename_i cv cells hk
      obtain ⟨rfl, hle, h⟩ := h
      refine ⟨_, _, h, fun e st' a w next Q hn ⟨heok, g, hs⟩ ha hnext => ?_⟩
      replace ha := Agree_of.1 ha
      have hk' := (ha.R (k := k) (by simp)).trans hk
      have h1 := arg hs ha.right (x := x) (by simp)
      have h2 := arg hs ha.right (x := v) (by simp)
      rw [hxe] at h1
      obtain ⟨b, hb, h3⟩ := inv_rf h1 (curk k hk').symm
      obtain ⟨w', h4, h5⟩ := store_bx hs heok (off := off) hk' hb h2 hxo hl hkn (by omega)
      exact wp_skip' hdst (run a w w' (by rw [h3]; exact h4)) (hnext a w' ⟨heok, g, h5⟩)
    · exact h.elim
  · rename_i k ver sz i off hxe
    split at h
    · rename_i cv el sz' rows hk
      obtain ⟨rfl, rfl, hi, hle, h⟩ := h
      refine ⟨_, _, h, fun e st' a w next Q hn ⟨heok, g, hs⟩ ha hnext => ?_⟩
      replace ha := Agree_of.1 ha
      have hk' := (ha.R (k := k) (by simp)).trans hk
      have h1 := arg hs ha.right (x := x) (by simp)
      have h2 := arg hs ha.right (x := v) (by simp)
      rw [hxe] at h1
      obtain ⟨b, n', c', hb, h3⟩ := inv_re h1 (curk k hk').symm
      obtain ⟨w', h4, h5⟩ := store_sl hs heok (off := off) hk' hb h2 hxo hl hkn hi (by omega)
      exact wp_skip' hdst (run a w w' (by rw [h3]; exact h4)) (hnext a w' ⟨heok, g, h5⟩)
    · exact h.elim
  · exact h.elim

end

end Go.Proofs.YtjbhpoolghfhiaaDoor
