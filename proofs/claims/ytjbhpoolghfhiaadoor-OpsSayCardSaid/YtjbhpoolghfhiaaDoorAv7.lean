/- The operations that give a value do what is told of them: comparing, reckoning. No condition: plain lemmas. -/
import Derived.Test.YtjbhpoolghfhiaaDoorAv6
namespace Go.Proofs.YtjbhpoolghfhiaaDoor
set_option linter.unusedVariables false
set_option linter.unusedSimpArgs false
set_option maxHeartbeats 10000000
open Go

/-- Two worlds that part in draws alone. -/
structure Fine (w w' : World) : Prop where
  heap : w'.heap = w.heap
  os : w'.os = w.os
  tape : w'.tape = w.tape
  output : w'.output = w.output

theorem Fine.refl (w : World) : Fine w w := ⟨rfl, rfl, rfl, rfl⟩

theorem inv_v {cur : Nat → Nat} {g : Gh} {w : World} {N : Nat → Prop} {v u : Value} (h : AR cur g w N (.r (.v u)) v) : v = u := AR_bool h

theorem inv_nan {cur : Nat → Nat} {g : Gh} {w : World} {N : Nat → Prop} {v : Value} (h : AR cur g w N (.r .nan) v) : ∃ b, v = .float .f64 b ∧ isNaN64 b := by
  cases h with | r h => cases h with | nan b h => exact ⟨b, rfl, h⟩

theorem order_nan_left {x y : Nat} (h : isNaN64 x) : FloatKind.f64.format.order x y = none := by
  unfold isNaN64 Ieee.Format.order at *
  generalize FloatKind.f64.format.read x = p at *
  generalize FloatKind.f64.format.read y = q at *
  cases p <;> simp [Ieee.Datum.order] at h ⊢

theorem order_nan_right {x y : Nat} (h : isNaN64 y) : FloatKind.f64.format.order x y = none := by
  unfold isNaN64 Ieee.Format.order at *
  generalize FloatKind.f64.format.read x = p at *
  generalize FloatKind.f64.format.read y = q at *
  cases q <;> cases p <;> simp [Ieee.Datum.order] at h ⊢

theorem cut_nan (t x y : Nat) : isNaN64 ((Question.nanBits .f64 x y).cut t) := by
  simp only [isNaN64, Ieee.Format.order, Question.cut]
  generalize hn : t / 2 % (2 ^ 52 - 1) = n
  have hlt : n < 2 ^ 52 - 1 := by rw [← hn]; exact Nat.mod_lt _ (by decide)
  have h2 : t % 2 < 2 := Nat.mod_lt _ (by decide)
  generalize t % 2 = b at *
  have hr : ∃ s f, FloatKind.f64.format.read (b * 2 ^ 63 + 9218868437227405312 + 1 + n) = .nan s f := by
    have h63 : FloatKind.f64.format.signWeight = 9223372036854775808 := by decide
    have hb : FloatKind.f64.format.binade = 4503599627370496 := by decide
    have hi : FloatKind.f64.format.infRung = 9218868437227405312 := by decide
    generalize FloatKind.f64.format = f at *
    refine ⟨(b * 2 ^ 63 + 9218868437227405312 + 1 + n) / f.signWeight % 2 == 1, (b * 2 ^ 63 + 9218868437227405312 + 1 + n) % f.signWeight - f.infRung, ?_⟩
    have e : (b * 2 ^ 63 + 9218868437227405312 + 1 + n) % f.signWeight = 9218868437227405312 + 1 + n := by rw [h63]; omega
    unfold Ieee.Format.read
    simp only [e, hb, hi]
    rw [if_neg (by omega), if_neg (by omega), if_neg (by omega)]
  obtain ⟨s, f, hr⟩ := hr
  rw [hr]; rfl

theorem run_eqGuard_plain {P : Program} {op : BinOp} {t : Nat} {x y : Operand} {a b : Value} {w : World} (h : (∀ cs, a ≠ .agg cs) ∨ (∀ cs, b ≠ .agg cs)) (h2 : a ≠ .nilIface ∨ b ≠ .nilIface) : (eqGuard op t x y a b).run P w = .ok () w := by
  unfold eqGuard
  cases op <;> simp only [Bool.not_false, Bool.not_true, if_true, Bool.false_eq_true, if_false, Sem.run_pure] <;> (split <;> first | rfl | simp_all)

theorem eqOr_ok {P : Program} {op : BinOp} {t : Nat} {K : AV → Prop} {b : Bool} {x y : Value} (h : eqOr op K b) (hx : ∀ k n, x ≠ .int k n) (hf : ∀ k n, x ≠ .float k n) (hs : ∀ s, x ≠ .string s) (hc : ∀ k a b, x ≠ .complex k a b)
    (he : ∀ w, (Op.equal t x y).run P w = .ok b w) : ∃ c, K (Bv c) ∧ ∀ w, (binOp op t x y).run P w = .ok (.bool c) w := by
  cases op <;> first | exact h.elim | skip
  · refine ⟨b, h, fun w => ?_⟩
    have : binOp .eql t x y = (do pure (.bool (← Op.equal t x y))) := by
      unfold binOp; split <;> first | rfl | simp_all
    rw [this]; simp [he]
  · refine ⟨!b, h, fun w => ?_⟩
    have : binOp .neq t x y = (do pure (.bool (!(← Op.equal t x y)))) := by
      unfold binOp; split <;> first | rfl | simp_all
    rw [this]; simp [he]

/-- Values that fit kinds, compared one by one. -/
def eqL : List Value → List Value → Bool
  | .int _ a :: xs, .int _ b :: ys => (a == b) && eqL xs ys
  | .bool a :: xs, .bool b :: ys => (a == b) && eqL xs ys
  | .string a :: xs, .string b :: ys => (a.toList == b.toList) && eqL xs ys
  | [], [] => true
  | _, _ => false

def conf : List Nat → List Value → List Value → Prop
  | [], [], [] => True
  | 0 :: ks, .int k _ :: xs, .int k' _ :: ys => k = k' ∧ conf ks xs ys
  | 1 :: ks, .bool _ :: xs, .bool _ :: ys => conf ks xs ys
  | 2 :: ks, .string _ :: xs, .string _ :: ys => conf ks xs ys
  | _, _, _ => False

theorem conf_app : ∀ {a b : List Nat} {xs ys : List Value}, conf (a ++ b) xs ys → conf a (xs.take a.length) (ys.take a.length) ∧ conf b (xs.drop a.length) (ys.drop a.length) ∧ eqL xs ys = (eqL (xs.take a.length) (ys.take a.length) && eqL (xs.drop a.length) (ys.drop a.length)) ∧ a.length ≤ xs.length ∧ a.length ≤ ys.length
  | [], b, xs, ys, h => by simpa [conf, eqL] using h
  | k :: a, b, xs, ys, h => by
    simp only [List.cons_append] at h
    unfold conf at h
    split at h <;> first | (exact h.elim) | skip
    all_goals simp_all only [List.cons.injEq, reduceCtorEq, false_and]
    all_goals (rename_i h0; obtain ⟨rfl, rfl⟩ := h0)
    · obtain ⟨h1, h2⟩ := h
      obtain ⟨i1, i2, i3, i4, i5⟩ := conf_app h2
      simp [conf, eqL, h1, i1, i2, i3, i4, i5, Bool.and_assoc]
    · obtain ⟨i1, i2, i3, i4, i5⟩ := conf_app h
      simp [conf, eqL, i1, i2, i3, i4, i5, Bool.and_assoc]
    · obtain ⟨i1, i2, i3, i4, i5⟩ := conf_app h
      simp [conf, eqL, i1, i2, i3, i4, i5, Bool.and_assoc]

theorem conf_len : ∀ {ks : List Nat} {xs ys : List Value}, conf ks xs ys → xs.length = ks.length ∧ ys.length = ks.length
  | [], xs, ys, h => by unfold conf at h; split at h <;> simp_all
  | k :: ks, xs, ys, h => by
    unfold conf at h
    split at h <;> first | (exact h.elim) | skip
    all_goals simp_all only [List.cons.injEq, reduceCtorEq, false_and]
    all_goals (rename_i h0; obtain ⟨rfl, rfl⟩ := h0)
    · have := conf_len h.2; simp [this]
    · have := conf_len h; simp [this]
    · have := conf_len h; simp [this]

section
variable {P : Program}

theorem kindsFs_len {k : Nat → Option (List Nat)} (hk : ∀ t a, k t = some a → a.length = sizeT P t) {n : Nat} : ∀ {fs : List Field} {off : Nat} {ks : List Nat}, kindsFs P k fs off n = some ks → off + ks.length = n
  | [], off, ks, h => by
    unfold kindsFs at h
    split at h
    · rename_i e; simp at h; subst h; simpa using e
    · cases h
  | f :: fs, off, ks, h => by
    unfold kindsFs at h
    split at h
    · cases h
    · split at h
      · rename_i a b h1 h2
        simp at h; subst h
        have := hk _ _ h1
        have := kindsFs_len hk h2
        simp; omega
      · cases h

theorem kindsT_len : ∀ {d t : Nat} {ks : List Nat}, kindsT P d t = some ks → ks.length = sizeT P t
  | 0, _, _, h => by simp [kindsT] at h
  | d + 1, t, ks, h => by
    unfold kindsT at h
    split at h
    · split at h <;> simp_all; subst h; rfl
    · split at h <;> simp_all; subst h; rfl
    · split at h <;> simp_all; subst h; rfl
    · split at h
      · cases h
      · have := kindsFs_len (fun t a => kindsT_len) h; omega
    · cases h

/-- A value out of its cells. -/
def valT (P : Program) (t : Nat) (xs : Array Value) : Value := match aggT P t with | true => .agg xs | false => xs.getD 0 undef

theorem run_part {t : Nat} (hk : knownT P t = true) (xs : Array Value) (off : Nat) (w : World) (h : aggT P t = true ∨ off < xs.size ∧ 0 < sizeT P t) :
    (part t xs off).run P w = .ok (valT P t (xs.extract off (off + sizeT P t))) w := by
  simp only [part, Sem.run_bind, run_isAgg' hk, Result.andThen_ok, valT]
  cases ha : aggT P t with
  | true => simp [run_sizeOf' hk]
  | false =>
    rcases h with h | ⟨h, h0⟩
    · simp [ha] at h
    · have : xs[off]? = some xs[off] := Array.getElem?_eq_getElem h
      simp only [Bool.false_eq_true, if_false, this, Sem.run_pure]
      congr 1
      have h1 : min (off + sizeT P t) xs.size - off > 0 := by omega
      simp [Array.getD_eq_getD_getElem?, Array.getElem?_extract, h1, h]

theorem kinds_known {d t : Nat} {ks : List Nat} (h : kindsT P d t = some ks) : knownT P t = true := by
  cases d with
  | zero => simp [kindsT] at h
  | succ d => unfold kindsT at h; unfold knownT; split at h <;> simp_all

theorem conf0 {xs ys : List Value} (h : conf [0] xs ys) : ∃ k a b, xs = [.int k a] ∧ ys = [.int k b] := by
  rcases xs with _ | ⟨x, _ | ⟨x2, xs⟩⟩ <;> rcases ys with _ | ⟨y, _ | ⟨y2, ys⟩⟩ <;> (try cases x) <;> (try cases y) <;> simp_all [conf]
theorem conf1 {xs ys : List Value} (h : conf [1] xs ys) : ∃ a b, xs = [.bool a] ∧ ys = [.bool b] := by
  rcases xs with _ | ⟨x, _ | ⟨x2, xs⟩⟩ <;> rcases ys with _ | ⟨y, _ | ⟨y2, ys⟩⟩ <;> (try cases x) <;> (try cases y) <;> simp_all [conf]
theorem conf2 {xs ys : List Value} (h : conf [2] xs ys) : ∃ a b, xs = [.string a] ∧ ys = [.string b] := by
  rcases xs with _ | ⟨x, _ | ⟨x2, xs⟩⟩ <;> rcases ys with _ | ⟨y, _ | ⟨y2, ys⟩⟩ <;> (try cases x) <;> (try cases y) <;> simp_all [conf]

theorem run_eqFields_kinds {d D : Nat} (ih : ∀ {t : Nat} {ks : List Nat}, kindsT P d t = some ks → ∀ (xs ys : Array Value), conf ks xs.toList ys.toList → ∀ (w : World), (Op.equalIn D t (valT P t xs) (valT P t ys)).run P w = .ok (eqL xs.toList ys.toList) w)
    {n : Nat} (xs ys : Array Value) (w : World) : ∀ {fs : List Field} {off : Nat} {ks : List Nat}, kindsFs P (kindsT P d) fs off n = some ks → conf ks (xs.toList.drop off) (ys.toList.drop off) →
    (Op.eqFields D xs ys fs).run P w = .ok (eqL (xs.toList.drop off) (ys.toList.drop off)) w
  | [], off, ks, h, hc => by
    unfold kindsFs at h
    split at h
    · simp at h; subst h
      obtain ⟨h1, h2⟩ := conf_len hc
      rw [List.length_eq_zero_iff.1 h1, List.length_eq_zero_iff.1 h2]
      rfl
    · cases h
  | f :: fs, off, ks, h, hc => by
    unfold kindsFs at h
    split at h
    · cases h
    · rename_i hn
      split at h
      · rename_i a b h1 h2
        simp at h; subst h
        obtain ⟨c1, c2, c3, c4, c5⟩ := conf_app hc
        have hk := kinds_known h1
        have hl := kindsT_len h1
        rw [hl] at c1 c2 c3 c4 c5
        have hname : f.name ≠ "_" := fun e => hn (.inl e)
        have hoff : f.offset = off := Classical.byContradiction fun e => hn (.inr e)
        have hpos : aggT P f.type = true ∨ off < xs.size ∧ 0 < sizeT P f.type := by
          cases ha : aggT P f.type with
          | true => exact .inl rfl
          | false =>
            right
            have hl1 : a.length = 1 := by
              cases d with
              | zero => simp [kindsT] at h1
              | succ d =>
                unfold kindsT at h1
                unfold aggT at ha
                split at h1 <;> simp_all
                all_goals (obtain ⟨_, rfl⟩ := h1; rfl)
            simp at c4
            omega
        have hpos' : aggT P f.type = true ∨ off < ys.size ∧ 0 < sizeT P f.type := by
          rcases hpos with h | ⟨h3, h4⟩
          · exact .inl h
          · right; simp at c5; omega
        have r1 := run_part hk xs off w hpos
        have r2 := run_part hk ys off w hpos'
        have e1 : (xs.extract off (off + sizeT P f.type)).toList = (xs.toList.drop off).take (sizeT P f.type) := by simp [List.extract_eq_drop_take']
        have e2 : (ys.extract off (off + sizeT P f.type)).toList = (ys.toList.drop off).take (sizeT P f.type) := by simp [List.extract_eq_drop_take']
        have r3 := ih h1 (xs.extract off (off + sizeT P f.type)) (ys.extract off (off + sizeT P f.type)) (by rw [e1, e2]; exact c1) w
        rw [e1, e2] at r3
        rw [List.drop_drop, List.drop_drop] at c2
        have r4 := run_eqFields_kinds ih xs ys w h2 c2
        rw [c3]
        simp only [Op.eqFields, hname, ne_eq, not_false_eq_true, if_true, Sem.run_bind, hoff, r1, r2, Result.andThen_ok, r3]
        cases eqL (List.take (sizeT P f.type) (List.drop off xs.toList)) (List.take (sizeT P f.type) (List.drop off ys.toList)) with
        | false => simp
        | true => simp only [Bool.not_true, Bool.false_eq_true, if_false, r4, Bool.true_and, List.drop_drop]
      · cases h

theorem run_equalIn_kinds : ∀ (d : Nat) {t : Nat} {ks : List Nat}, kindsT P d t = some ks → ∀ (xs ys : Array Value), conf ks xs.toList ys.toList → ∀ (D : Nat) (w : World), d ≤ D →
    (Op.equalIn D t (valT P t xs) (valT P t ys)).run P w = .ok (eqL xs.toList ys.toList) w
  | 0, _, _, h => by simp [kindsT] at h
  | d + 1, t, ks, h => by
    intro xs ys hc D w hD
    obtain ⟨D, rfl⟩ : ∃ E, D = E + 1 := ⟨D - 1, by omega⟩
    obtain ⟨xs⟩ := xs; obtain ⟨ys⟩ := ys
    unfold kindsT at h
    split at h
    · rename_i k hu
      split at h
      · simp at h; subst h
        obtain ⟨k, a, b, e1, e2⟩ := conf0 hc
        dsimp only at e1 e2; subst e1; subst e2
        simp [valT, aggT, hu, run_equalIn_int w D t k _ a b hu, eqL]
      · cases h
    · rename_i hu
      split at h
      · simp at h; subst h
        obtain ⟨a, b, e1, e2⟩ := conf1 hc
        dsimp only at e1 e2; subst e1; subst e2
        simp [valT, aggT, hu, run_equalIn_bool' w D t a b hu, eqL]
      · cases h
    · rename_i hu
      split at h
      · simp at h; subst h
        obtain ⟨a, b, e1, e2⟩ := conf2 hc
        dsimp only at e1 e2; subst e1; subst e2
        simp [valT, aggT, hu, run_equalIn_string w D t a b hu, eqL]
      · cases h
    · rename_i fs hu
      split at h
      · cases h
      · rename_i hp
        have ha : aggT P t = true := by simp [aggT, hu]
        have hf : P.fieldsOf t = fs := by simp [Program.fieldsOf, hu]
        simp only [valT, ha]
        rw [run_equalIn_agg w D t ⟨xs⟩ ⟨ys⟩ (by rw [hf]; exact hu) (by simpa using hp), hf]
        have := run_eqFields_kinds (P := P) (d := d) (D := D) (fun hk xs ys hc w => run_equalIn_kinds d hk xs ys hc D w (by omega)) ⟨xs⟩ ⟨ys⟩ w h (by simpa using hc)
        simpa using this
    · cases h
end

end Go.Proofs.YtjbhpoolghfhiaaDoor
