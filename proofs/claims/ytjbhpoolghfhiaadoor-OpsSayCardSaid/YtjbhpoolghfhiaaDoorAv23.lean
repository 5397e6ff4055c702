/- Ends of functions that hand back what they made; slices that are owned from nil on, or that nobody turns any more. No condition: plain lemmas. -/
import Derived.Test.YtjbhpoolghfhiaaDoorAv22
namespace Go.Proofs.YtjbhpoolghfhiaaDoor
set_option linter.unusedVariables false
set_option linter.unusedSimpArgs false
set_option maxHeartbeats 10000000
open Go

/-- The end of a function, whatever it hands back. -/
structure FinX (C : Ctx) (fn : Func) (rs0 : List (Nat × Nat × Res)) (r : AV) (rs1 : List (Nat × Nat × Res)) (x : Exit) (st : St) : Prop where
  exit : x = .normal ∨ x = .ret
  res : ∃ l, resK st C.P fn.results.toList l ∧ ∀ (e : Env) (g : Gh) (a : Act) (w : World), e.cur0 = (stR rs0).cur → SR C e st g a w → ∃ g', SR C (e.re (stR rs1) g') (stR rs1) g' act0 w ∧
    (∀ v, AR st.cur g w (e.N st g) (resV l) v → AR (stR rs1).cur g' w (e.N (stR rs1) g') r v) ∧ ∀ k, domR rs1 k = true → e.cur0 k < (stR rs1).cur k ∨ e.cur0 k = (stR rs1).cur k ∧ g' k = e.g0 k

theorem SR.cur0 {C : Ctx} {e : Env} {st : St} {g : Gh} {a : Act} {w : World} (h : SR C e st g a w) {c : Nat → Nat} {g0 : Gh} (hh : ∀ k, c k < st.cur k ∨ c k = st.cur k ∧ g k = g0 k) : SR C { e with cur0 := c, g0 := g0 } st g a w :=
  ⟨h.defers, h.size, h.temps, h.res, h.uniq, h.low, h.ext, hh⟩

/-- A contract out of a function's body, whatever it hands back. -/
theorem FC_bodyX {C : Ctx} {f : Nat} {fn : Func} {body : Code} {args : List AV} {rs0 rs1 : List (Nat × Nat × Res)} {r : AV} (hf : C.P.funcs[f]? = some fn) (hb : fn.body = some body) (hn : args.length ≤ fn.ntmps)
    (h : lwp C body ⟨fn.ntmps, argT 0 args, rs0⟩ (FinX C fn rs0 r rs1)) : FC C f args rs0 r rs1 := by
  refine ⟨?_⟩
  intro e0 g w vs hok0 hs0 hvs
  have hs := hs0.re
  generalize he : e0.re (stR rs0) g = e at hs
  have hok : e.ok C := by subst he; exact ⟨hok0.G, hok0.gs, hok0.own, hok0.av⟩
  have hN : e0.N (stR rs0) g = e.N (stR rs0) g := by subst he; rfl
  refine calls_of_wp hf hb ?_
  have h0 : S C e ⟨fn.ntmps, argT 0 args, rs0⟩ { tmps := vs ++ Array.replicate (fn.ntmps - vs.size) undef, defers := [] } w := by
    refine ⟨hok, g, ⟨rfl, ?_, fun d => ?_, hs.res, hs.uniq, hs.low, hs.ext, hs.hist⟩⟩
    · have := hvs.1; simp; omega
    · show AR (stR rs0).cur g w (e.N (stR rs0) g) (lookT d (argT 0 args)) _
      rw [lookT_arg]
      simp only [Nat.zero_le, if_true, Nat.sub_zero]
      cases hd : args[d]? with
      | none => simp [List.getD, hd]; exact .any _
      | some x =>
        have hlt : d < vs.size := by rw [hvs.1]; exact (List.getElem?_eq_some_iff.1 hd).1
        have hv : vs[d]? = some vs[d] := Array.getElem?_eq_getElem hlt
        have : (vs ++ Array.replicate (fn.ntmps - vs.size) undef).getD d undef = vs[d] := by
          simp [Array.getD_eq_getD_getElem?, Array.getElem?_append_left hlt, hv]
        rw [this]
        simp only [List.getD, hd, Option.getD_some]
        rw [← hN]
        exact hvs.2 d x _ hd hv
  refine wp_mono (h e _ w h0) ?_
  rintro x a' w' ⟨st', ⟨_, g1, hs'⟩, hfin⟩
  obtain ⟨l, hl, hfx⟩ := hfin.res
  obtain ⟨us, r1, r2, r3⟩ := resK_run hs' hl
  obtain ⟨g', f1, f2, f3⟩ := hfx e g1 a' w' (by subst he; rfl) hs'
  have key : ∃ v, (results fn a'.tmps).run C.P w' = .ok v w' ∧ AR st'.cur g1 w' (e.N st' g1) (resV l) v := by
    have hm : (fn.results.mapM (rvS a')).run C.P w' = .ok us.toArray w' := by
      rw [Array.mapM_eq_mapM_toList]
      simp only [Sem.run_map, r1, Result.andThen_ok]
    refine ⟨if h : us.toArray.size = 1 then us.toArray[0] else .tuple us.toArray, ?_, ?_⟩
    · rw [results_eq, Sem.run_bind, hm]; rfl
    · by_cases h1 : us.toArray.size = 1
      · rw [dif_pos h1]
        have hl1 : l.length = 1 := by rw [← r2]; simpa using h1
        match l, hl1 with
        | [x], _ =>
          refine r3 0 x _ rfl ?_
          rw [List.getElem?_eq_getElem (by simpa using (by simpa using h1 : us.length = 1) ▸ Nat.one_pos)]
          rfl
      · rw [dif_neg h1]
        have hne : l.length ≠ 1 := by rw [← r2]; simpa using h1
        have : resV l = .tup l := by
          match l, hne with
          | [], _ => rfl
          | [_], h => simp at h
          | _ :: _ :: _, _ => rfl
        rw [this]
        exact .tup _ _ (by simpa using r2) (fun j x y hx hy => r3 j x y hx (by simpa using hy))
  obtain ⟨v, k1, k2⟩ := key
  have hh : ∀ k, domR rs1 k = true → e0.cur0 k < (stR rs1).cur k ∨ e0.cur0 k = (stR rs1).cur k ∧ g' k = e0.g0 k := fun k hk => by
    have h1 := f3 k hk
    have h2 := hs0.hist k
    subst he
    have h1' : (stR rs0).cur k < (stR rs1).cur k ∨ (stR rs0).cur k = (stR rs1).cur k ∧ g' k = g k := h1
    rcases h2 with h2 | ⟨h2, h3⟩ <;> rcases h1' with h4 | ⟨h4, h5⟩
    · left; omega
    · left; omega
    · left; omega
    · right; exact ⟨by omega, by rw [h5, h3]⟩
  have fin : a'.defers = [] ∧ ∃ v, (results fn a'.tmps).run C.P w' = .ok v w' ∧ ∃ v' g', Ending.returned v = .returned v' ∧ SR C (e0.re (stR rs1) g') (stR rs1) g' act0 w' ∧ AR (stR rs1).cur g' w' (e0.N (stR rs1) g') r v' ∧ ∀ k, domR rs1 k = true → e0.cur0 k < (stR rs1).cur k ∨ e0.cur0 k = (stR rs1).cur k ∧ g' k = e0.g0 k :=
    ⟨hs'.defers, v, k1, v, g', rfl, by subst he; exact f1, by have := f2 v k2; subst he; exact this, hh⟩
  rcases hfin.exit with rfl | rfl
  · exact fin
  · exact fin

/-- A value as it is, or nil for no rows. -/
def nil1 : AV → AV → Prop
  | .r (.v (.slice none 0 0)), .r (.rs _ rows) => rows = []
  | x, y => x = y

theorem nil1_ok {cur : Nat → Nat} {g : Gh} {w : World} {N : Nat → Prop} {x y : AV} {v : Value} (h : nil1 x y) (hv : AR cur g w N x v) : AR cur g w N y v := by
  unfold nil1 at h
  split at h
  · subst h
    cases hv with | r hv => cases hv; exact .r (.nil _)
  · rw [← h]; exact hv

def nilL : List AV → List AV → Prop
  | [], [] => True
  | x :: xs, y :: ys => nil1 x y ∧ nilL xs ys
  | _, _ => False

theorem nilL_ok {cur : Nat → Nat} {g : Gh} {w : World} {N : Nat → Prop} : ∀ {xs ys : List AV}, nilL xs ys → ys.length = xs.length ∧ ∀ (j : Nat) (x y : AV) (v : Value), xs[j]? = some x → ys[j]? = some y → AR cur g w N x v → AR cur g w N y v
  | [], [], _ => ⟨rfl, fun j x y v hx => by simp at hx⟩
  | x :: xs, y :: ys, h => by
    obtain ⟨h1, h2⟩ := h
    obtain ⟨h3, h4⟩ := nilL_ok (cur := cur) (g := g) (w := w) (N := N) h2
    refine ⟨by simp [h3], fun j x' y' v hx hy hv => ?_⟩
    cases j with
    | zero => simp at hx hy; subst hx; subst hy; exact nil1_ok h1 hv
    | succ j => exact h4 j x' y' v (by simpa using hx) (by simpa using hy) hv
  | [], _ :: _, h => h.elim
  | _ :: _, [], h => h.elim

/-- What is handed back, told by one value. -/
def nilR (xs : List AV) (r : AV) : Prop :=
  match xs with
  | [x] => nil1 x r
  | l => match r with
    | .tup ys => nilL l ys
    | _ => False

/-- The end of a function whose results nobody turns any more. -/
def FinF (C : Ctx) (rl : List ResultVar) (r : AV) (x : Exit) (st : St) : Prop :=
  match x with
  | .normal | .ret => resG st C.P rl fun xs => lendAs st xs fun _ ys => nilR ys r
  | _ => False

theorem FinF_X {C : Ctx} {fn : Func} {rl : List ResultVar} {rs0 : List (Nat × Nat × Res)} {r : AV} {x : Exit} {st : St} (hr : fn.results = rl.toArray) (hw : within none0 r = true) (h : FinF C rl r x st) : FinX C fn rs0 r [] x st := by
  have key : ∀ (hq : resG st C.P rl fun xs => lendAs st xs fun _ ys => nilR ys r), ∃ l, resK st C.P fn.results.toList l ∧ ∀ (e : Env) (g : Gh) (a : Act) (w : World), e.cur0 = (stR rs0).cur → SR C e st g a w → ∃ g', SR C (e.re (stR []) g') (stR []) g' act0 w ∧
      (∀ v, AR st.cur g w (e.N st g) (resV l) v → AR (stR []).cur g' w (e.N (stR []) g') r v) ∧ ∀ k, domR [] k = true → e.cur0 k < (stR []).cur k ∨ e.cur0 k = (stR []).cur k ∧ g' k = e.g0 k := by
    intro hq
    obtain ⟨xs, h1, h2⟩ := resG_ok hq
    obtain ⟨l, ys, h3, h4, h5⟩ := lendAs_ok h2
    refine ⟨xs, by rw [hr]; exact h1, fun e g a w _ hs => ?_⟩
    have hno : ∀ b, ¬ own (stR []) g b := fun b ⟨k, hk⟩ => by simp [blk, lookR] at hk
    obtain ⟨f1, _⟩ := hs.final (rs1 := []) (fun k hk => by simp [domR, lookR] at hk) (fun k => trivial)
    have hb : ∀ (j : Nat) (x y : AV) (v : Value), xs[j]? = some x → ys[j]? = some y → AR st.cur g w (e.N st g) x v → AR (stR []).cur g w (e.N (stR []) g) y v := fun j x y v hx hy hv =>
      Bor_ok' (h5 j x y hx hy) hs (Agree_of.1 (Agree_of.2 fun _ _ => rfl)) (fun k b _ hk hN => hN.elim (hs.low k b hk).2.2 (hno b)) (fun b hN => hN.elim .inl fun h => absurd h (hno b)) hv _ _
    refine ⟨g, f1, fun v hv => ?_, fun k hk => by simp [domR, lookR] at hk⟩
    unfold nilR at h3
    split at h3
    · rename_i y
      match xs, h4, hb, hv with
      | [x], _, hb, hv => exact nil1_ok h3 (hb 0 x y v rfl rfl hv)
    · rename_i hne
      split at h3
      · rename_i zs
        obtain ⟨q1, q2⟩ := nilL_ok (cur := (stR []).cur) (g := g) (w := w) (N := e.N (stR []) g) h3
        have hx : resV xs = .tup xs := by
          match xs, h4 with
          | [], _ => rfl
          | [x], h4 =>
            match ys, h4 with
            | [y], _ => exact absurd rfl (hne y)
          | _ :: _ :: _, _ => rfl
        rw [hx] at hv
        cases hv with
        | tup _ vs hsz hvs =>
          refine .tup _ vs (by rw [q1, h4]; exact hsz) fun j z u hz hu => ?_
          have hj := (List.getElem?_eq_some_iff.1 hz).1
          have hy : ys[j]? = some ys[j] := List.getElem?_eq_getElem (by omega)
          have hx' : xs[j]? = some xs[j] := List.getElem?_eq_getElem (by omega)
          exact q2 j _ z u hy hz (hb j _ _ u hx' hy (hvs j _ u hx' hu))
      · exact h3.elim
  cases x with
  | normal => exact ⟨.inl rfl, key h⟩
  | ret => exact ⟨.inr rfl, key h⟩
  | _ => exact h.elim

/-- The contract of a function whose results nobody turns any more. -/
theorem FCf_of {C : Ctx} (T : List (Ct C)) {f : Nat} {fn : Func} {body : Code} {args : List AV} {r : AV} (hf : C.P.funcs[f]? = some fn) (hb : fn.body = some body) {nt : Nat} (hnt : fn.ntmps = nt) (hn : args.length ≤ nt) {rl : List ResultVar} (hr : fn.results = rl.toArray) (hw : within none0 r = true)
    (h : Rn C T [.c body] ⟨nt, argT 0 args, []⟩ (FinF C rl r)) : FC C f args [] r [] := by
  subst hnt
  unfold Rn at h
  refine FC_bodyX hf hb hn (lwp_mono (h : lwp C body _ (ck C [] (FinF C rl r))) fun x s hx => ?_)
  have hx' : FinF C rl r x s := by cases x <;> exact hx
  exact FinF_X hr hw hx'

end Go.Proofs.YtjbhpoolghfhiaaDoor
