/- The operations that give a value do what is told of them: all together. No condition: plain lemmas. -/
import Derived.Test.YtjbhpoolghfhiaaDoorAv9
import Derived.Laws.Tables
namespace Go.Proofs.YtjbhpoolghfhiaaDoor
set_option linter.unusedVariables false
set_option linter.unusedSimpArgs false
set_option maxHeartbeats 10000000
open Go

section
variable {C : Ctx} {e : Env} {st' : St} {g : Gh} {a : Act} {w : World}

theorem splice_len : ∀ (cs : List AV) (n : Nat) (vs : List AV), n + vs.length ≤ cs.length → (splice cs n vs).length = cs.length
  | cs, n, [], _ => by unfold splice; cases cs <;> rfl
  | [], n, v :: vs, h => by simp at h
  | c :: cs, 0, v :: vs, h => by simp only [splice, List.length_cons]; rw [splice_len cs 0 vs (by simp at h ⊢; omega)]
  | c :: cs, n + 1, v :: vs, h => by simp only [splice, List.length_cons]; rw [splice_len cs n (v :: vs) (by simp at h ⊢; omega)]

theorem splice_get : ∀ (cs : List AV) (n : Nat) (vs : List AV), n + vs.length ≤ cs.length → ∀ j, (splice cs n vs)[j]? = if n ≤ j ∧ j < n + vs.length then vs[j - n]? else cs[j]?
  | cs, n, [], _, j => by
    have : splice cs n [] = cs := by unfold splice; cases cs <;> rfl
    rw [this, if_neg (by simp only [List.length_nil]; omega)]
  | [], n, v :: vs, h, j => by simp at h
  | c :: cs, 0, v :: vs, h, j => by
    simp only [splice]
    cases j with
    | zero => simp
    | succ j =>
      rw [List.getElem?_cons_succ, splice_get cs 0 vs (by simp at h ⊢; omega) j]
      simp
  | c :: cs, n + 1, v :: vs, h, j => by
    simp only [splice]
    cases j with
    | zero => simp
    | succ j =>
      rw [List.getElem?_cons_succ, splice_get cs n (v :: vs) (by simp at h ⊢; omega) j]
      simp only [List.getElem?_cons_succ, List.length_cons]
      by_cases h1 : n ≤ j ∧ j < n + (vs.length + 1)
      · rw [if_pos h1, if_pos (by omega)]; congr 1; omega
      · rw [if_neg h1, if_neg (by omega)]

/-- Values in the places of cells. -/
def PW (cur : Nat → Nat) (g : Gh) (w : World) (N : Nat → Prop) (cs : List AV) (xs : Array Value) : Prop :=
  xs.size = cs.length ∧ ∀ (j : Nat) (x : AV) (y : Value), cs[j]? = some x → xs[j]? = some y → AR cur g w N x y

theorem fold_set (vs : Array Value) (off : Nat) (xs : Array Value) (h : off + vs.size ≤ xs.size) :
    (vs.zipIdx.foldl (fun cs (c, j) => cs.setIfInBounds (off + j) c) xs).size = xs.size ∧
    ∀ k, (vs.zipIdx.foldl (fun cs (c, j) => cs.setIfInBounds (off + j) c) xs)[k]? = if off ≤ k ∧ k < off + vs.size then vs[k - off]? else xs[k]? := by
  obtain ⟨vs⟩ := vs
  rw [← Array.foldl_toList, Array.toList_zipIdx]
  simp only [List.size_toArray, List.getElem?_toArray] at *
  suffices hh : ∀ (vs : List Value) (i : Nat) (xs : Array Value), off + i + vs.length ≤ xs.size →
      (List.foldl (fun cs (p : Value × Nat) => cs.setIfInBounds (off + p.2) p.1) xs (vs.zipIdx i)).size = xs.size ∧
      ∀ k, (List.foldl (fun cs (p : Value × Nat) => cs.setIfInBounds (off + p.2) p.1) xs (vs.zipIdx i))[k]? = if off + i ≤ k ∧ k < off + i + vs.length then vs[k - (off + i)]? else xs[k]? by
    have := hh vs 0 xs (by simpa using h)
    simpa using this
  intro vs
  induction vs with
  | nil => intro i xs h; exact ⟨rfl, fun k => by simp; omega⟩
  | cons v vs ih =>
    intro i xs h
    simp only [List.zipIdx_cons, List.foldl_cons]
    obtain ⟨h1, h2⟩ := ih (i + 1) (xs.setIfInBounds (off + i) v) (by simp at h ⊢; omega)
    refine ⟨by rw [h1]; simp, fun k => ?_⟩
    rw [h2 k]
    by_cases hk : off + i = k
    · subst hk
      rw [if_neg (by omega), if_pos (by simp)]
      simp at h
      simp [Array.getElem?_setIfInBounds]; omega
    · by_cases h3 : off + i ≤ k ∧ k < off + i + (vs.length + 1)
      · rw [if_pos (by omega), if_pos (by simpa using h3)]
        have : k - (off + i) = (k - (off + (i + 1))) + 1 := by omega
        rw [this, List.getElem?_cons_succ]
      · rw [if_neg (by omega), if_neg (by simpa using h3), Array.getElem?_setIfInBounds_ne hk]

theorem fillK_ok {P : Program} {t : Nat} (places : Nat → Option (Nat × Nat)) (hp : ∀ i off n, partT P t i = some (off, n) → places i = some (off, n)) :
    ∀ {l : List (Nat × AV)} {cs : List AV} {K : List AV → Prop}, fillK P t l cs K → ∃ r, K r ∧ ∀ cur g w N (vs : List (Nat × Value)) (xs : Array Value),
      vs.length = l.length → (∀ (j : Nat) (p : Nat × AV) (q : Nat × Value), l[j]? = some p → vs[j]? = some q → q.1 = p.1 ∧ AR cur g w N p.2 q.2) → PW cur g w N cs xs →
      ∃ ys, Instr.fill places xs vs = some ys ∧ PW cur g w N r ys
  | [], cs, K, h => ⟨cs, h, fun cur g w N vs xs hl _ hx => by
      rw [List.length_eq_zero_iff.1 hl]
      exact ⟨xs, rfl, hx⟩⟩
  | (i, x) :: l, cs, K, h => by
    unfold fillK at h
    split at h
    · rename_i off n hf
      obtain ⟨hok, hn, hle, h⟩ := h
      obtain ⟨r, hr, h1⟩ := fillK_ok places hp h
      refine ⟨r, hr, fun cur g w N vs xs hl hv hx => ?_⟩
      rcases vs with _ | ⟨⟨i', v⟩, vs⟩
      · simp at hl
      obtain ⟨e1, e2⟩ := hv 0 _ _ rfl rfl
      dsimp only at e1 e2
      subst e1
      obtain ⟨c1, c2, _⟩ := AR_cells e2 hok
      obtain ⟨z1, z2⟩ := fold_set v.cells off xs (by rw [c1, hn, hx.1]; exact hle)
      obtain ⟨ys, y1, y2⟩ := h1 cur g w N vs (v.cells.zipIdx.foldl (fun cs (c, j) => cs.setIfInBounds (off + j) c) xs) (by simpa using hl) (fun j p q hp' hq => hv (j + 1) p q (by simpa using hp') (by simpa using hq))
        (by
          refine ⟨by rw [z1, hx.1, splice_len _ _ _ (by omega)], fun j x' y hj hy => ?_⟩
          rw [splice_get _ _ _ (by omega)] at hj
          rw [z2, c1] at hy
          by_cases hb : off ≤ j ∧ j < off + (avCells x).length
          · rw [if_pos hb] at hj hy; exact c2 _ _ _ hj hy
          · rw [if_neg hb] at hj hy; exact hx.2 _ _ _ hj hy)
      refine ⟨ys, ?_, y2⟩
      simp only [Instr.fill, hp i' off n hf]
      rw [if_neg (by rw [c1, hn, hx.1]; simp; omega)]
      exact y1
    · exact h.elim

theorem zeroK_ok {P : Program} {t : Nat} {K : List AV → Prop} (h : zeroCellsT P t K) : ∃ z, zeroT P t = some z ∧ K (z.cells.toList.map fun v => .r (.v v)) ∧ ∀ w, (zeroValue t).run P w = .ok z w := by
  unfold zeroCellsT at h
  split at h
  · rename_i z hz
    refine ⟨z, hz, h, fun w => ?_⟩
    unfold zeroT at hz
    split at hz
    · rename_i i hi; simp [zeroValue, typeInfo, hi, hz]
    · cases hz
  · exact h.elim

theorem PW_zero (cur : Nat → Nat) (g : Gh) (w : World) (N : Nat → Prop) (xs : Array Value) : PW cur g w N (xs.toList.map fun v => .r (.v v)) xs := by
  refine ⟨by simp, fun j x y hx hy => ?_⟩
  rw [List.getElem?_map] at hx
  simp [hy] at hx
  subst hx; exact .r (.v y)

theorem mapM_get {α β : Type} {f : α → Option β} : ∀ {l : List α} {r : List β}, l.mapM f = some r → ∀ (i : Nat) (x : α), l[i]? = some x → ∃ y, f x = some y ∧ r[i]? = some y
  | [], r, _, i, x, hx => by simp at hx
  | a :: l, r, h, i, x, hx => by
    rw [List.mapM_cons] at h
    cases hf : f a with
    | none => simp [hf] at h
    | some y =>
      cases hm : l.mapM f with
      | none => simp [hf, hm] at h
      | some ys =>
        simp [hf, hm] at h
        subst h
        cases i with
        | zero => simp at hx; subst hx; exact ⟨y, hf, rfl⟩
        | succ i => exact mapM_get hm i x (by simpa using hx)

theorem run_build' {P : Program} {t : Nat} {parts : List (Nat × AV)} {K : AV → Prop} (hs : buildT P t = true) (h : zeroCellsT P t fun z => fillK P t parts z fun cs => K (.agg cs)) :
    ∃ r, K r ∧ ∀ cur g w N (vs : List (Nat × Value)), vs.length = parts.length → (∀ (j : Nat) (p : Nat × AV) (q : Nat × Value), parts[j]? = some p → vs[j]? = some q → q.1 = p.1 ∧ AR cur g w N p.2 q.2) →
      ∃ u, (Instr.build t vs.toArray).run P w = .ok u w ∧ AR cur g w N r u := by
  unfold buildT at hs
  split at hs
  · rename_i fs hu
    obtain ⟨pl, hpl⟩ := Option.isSome_iff_exists.1 hs
    unfold placesT at hpl
    rw [hu] at hpl
    obtain ⟨z, hz, hf, hzr⟩ := zeroK_ok h
    obtain ⟨r, hr, h1⟩ := fillK_ok (fun x => pl.toArray[x]?) (fun i off n hfi => by
      unfold partT at hfi
      rw [hu] at hfi
      cases hx : fs[i]? with
      | none => simp [hx] at hfi
      | some x =>
        simp [hx] at hfi
        obtain ⟨ho, hn⟩ := hfi
        obtain ⟨y, hy, hy2⟩ := mapM_get hpl i x (by simpa using hx)
        cases hi : P.info? x.type with
        | none => simp [hi] at hy
        | some ii =>
          simp [hi] at hy
          have : sizeT P x.type = ii.size := by simp [sizeT, hi]
          simp [hy2, ← hy, ho, ← hn, this]) hf
    refine ⟨_, hr, fun cur g w N vs hl hv => ?_⟩
    obtain ⟨ys, y1, y2⟩ := h1 cur g w N vs z.cells hl hv (PW_zero cur g w N z.cells)
    refine ⟨.agg ys, ?_, .agg _ _ y2.1 y2.2⟩
    simp only [Instr.build, Sem.run_bind, hzr, Result.andThen_ok, run_underlying hu]
    have := run_places (P := P) w fs.toList pl hpl
    have y1' : Instr.fill (fun x => pl[x]?) z.cells vs = some ys := by simpa using y1
    simp [Array.mapM_eq_mapM_toList, this, y1']
  · rename_i n el hu
    obtain ⟨z, hz, hf, hzr⟩ := zeroK_ok h
    obtain ⟨r, hr, h1⟩ := fillK_ok (fun i => some (i * sizeT P el, sizeT P el)) (fun i off n hfi => by
      unfold partT at hfi
      rw [hu] at hfi
      exact hfi) hf
    refine ⟨_, hr, fun cur g w N vs hl hv => ?_⟩
    obtain ⟨ys, y1, y2⟩ := h1 cur g w N vs z.cells hl hv (PW_zero cur g w N z.cells)
    refine ⟨.agg ys, ?_, .agg _ _ y2.1 y2.2⟩
    simp only [Instr.build, Sem.run_bind, hzr, Result.andThen_ok, run_underlying hu, run_sizeOf' hs]
    simp [y1]
  · cases hs

theorem arr1 {α : Type} {xs : Array α} {l : List α} (h : xs.toList = l) : xs = l.toArray := by rw [← h]

theorem pick_ok {cur : Nat → Nat} {g : Gh} {w : World} {N : Nat → Prop} {q : Bool} {x y : AV} {vx vy : Value} (hx : AR cur g w N x vx) (hy : AR cur g w N y vy) : AR cur g w N (pickAV q x y) (if q then vx else vy) := by
  unfold pickAV
  split
  · have e1 := inv_v hx
    have e2 := inv_v hy
    subst e1; subst e2
    cases q <;> exact .r (.v _)
  · cases q
    · exact hy
    · exact hx

theorem inv_int {cur : Nat → Nat} {g : Gh} {w : World} {N : Nat → Prop} {k : IntKind} {n : Int} {v : Value} (h : AR cur g w N (.r (.v (.int k n))) v) : v = .int k n := inv_v h

theorem inv_tup {cur : Nat → Nat} {g : Gh} {w : World} {N : Nat → Prop} {cs : List AV} {v : Value} (h : AR cur g w N (.tup cs) v) : ∃ xs : Array Value, v = .tuple xs ∧ xs.size = cs.length ∧ ∀ (j : Nat) (x : AV) (y : Value), cs[j]? = some x → xs[j]? = some y → AR cur g w N x y := by
  cases h with | tup _ xs hs h => exact ⟨xs, rfl, hs, h⟩

theorem part_load {P : Program} {t : Nat} {cs : List AV} {off : Nat} {r : AV} {cur : Nat → Nat} {g : Gh} {w : World} {N : Nat → Prop} {xs : Array Value} (hl : LoadR P t (cs.drop off) r) (hx : PW cur g w N cs xs) :
    ∃ u, (part t xs off).run P w = .ok u w ∧ AR cur g w N r u := by
  obtain ⟨hk, hl⟩ := hl
  simp only [part, Sem.run_bind, run_isAgg' hk, Result.andThen_ok]
  rcases hl with ⟨ha, hn, rfl⟩ | ⟨ha, rest, hr⟩
  · refine ⟨.agg (xs.extract off (off + sizeT P t)), by simp [ha, run_sizeOf' hk], .agg _ _ (by rw [List.length_take, List.length_drop, Array.size_extract, hx.1]; rw [List.length_drop] at hn; omega) (fun j x y hj hy => ?_)⟩
    rw [List.getElem?_take] at hj
    split at hj
    · rw [List.getElem?_drop] at hj
      rw [Array.getElem?_extract] at hy
      split at hy
      · exact hx.2 _ _ _ hj hy
      · cases hy
    · cases hj
  · have h0 : cs[off]? = some r := by
      have : (cs.drop off)[0]? = some r := by rw [hr]; rfl
      simpa using this
    have hlt : off < xs.size := by rw [hx.1]; exact (List.getElem?_eq_some_iff.1 h0).1
    have hx0 : xs[off]? = some xs[off] := Array.getElem?_eq_getElem hlt
    exact ⟨xs[off], by simp [ha, hx0], hx.2 _ _ _ h0 hx0⟩

/-- Operations that give a value do so. -/
theorem valK_ok {o : Oper} {st : St} {K : List Loc → AV → Prop} (h : valK C o.op st K) : ∃ l r, K l r ∧
    ∀ (e : Env) (st' : St) (g : Gh) (a : Act) (w : World), SR C e st' g a w → Ag l st st' → ∃ v w', (execOp a.eval o).run C.P w = .ok (.value v) w' ∧ Fine w w' ∧ AR st'.cur g w (e.N st' g) r v := by
  obtain ⟨dst, op, type, pos, after, guard⟩ := o
  dsimp only at h
  unfold valK at h
  split at h
  · exact ⟨_, _, h, fun e st' g a w hs ha => ⟨_, w, rfl, Fine.refl w, arg hs ha (by simp)⟩⟩
  · exact ⟨_, _, h, fun e st' g a w hs ha => ⟨_, w, rfl, Fine.refl w, arg hs ha (by simp)⟩⟩
  · rename_i c x y
    split at h
    · rename_i q hc
      refine ⟨_, _, h, fun e st' g a w hs ha => ?_⟩
      have h1 := arg hs ha (x := c) (by simp)
      rw [hc] at h1
      have h2 := inv_v h1
      refine ⟨_, w, ?_, Fine.refl w, pick_ok (q := q) (arg hs ha (x := x) (by simp)) (arg hs ha (x := y) (by simp))⟩
      simp [execOp, h2, asBool]
    · exact h.elim
  · rename_i op t x y yt
    obtain ⟨r, h1, h2⟩ := binAV_ok (P := C.P) h
    refine ⟨_, r, h1, fun e st' g a w hs ha => ?_⟩
    obtain ⟨v, w', h3, h4, h5⟩ := h2 st'.cur g w (e.N st' g) _ _ x y (arg hs ha (x := x) (by simp)) (arg hs ha (x := y) (by simp))
    exact ⟨v, w', by simp only [execOp, Sem.run_bind] at h3 ⊢; rw [h3]; rfl, h4, h5⟩
  · rename_i op t x
    obtain ⟨r, h1, h2⟩ := unAV_ok (P := C.P) h
    refine ⟨_, r, h1, fun e st' g a w hs ha => ?_⟩
    obtain ⟨v, h3, h5⟩ := h2 st'.cur g w (e.N st' g) _ (arg hs ha (x := x) (by simp))
    exact ⟨v, w, by simp only [execOp, Sem.run_bind]; rw [h3]; rfl, Fine.refl w, h5⟩
  · rename_i s t x
    obtain ⟨r, h1, h2⟩ := convAV_ok (P := C.P) h
    refine ⟨_, r, h1, fun e st' g a w hs ha => ?_⟩
    obtain ⟨v, h3, h5⟩ := h2 st'.cur g w (e.N st' g) _ (arg hs ha (x := x) (by simp))
    exact ⟨v, w, by simp only [execOp, Sem.run_bind]; rw [h3]; rfl, Fine.refl w, h5⟩
  · rename_i t x
    obtain ⟨l, r, h1, h2⟩ := derefK_ok h
    refine ⟨_, r, h1, fun e st' g a w hs ha => ?_⟩
    obtain ⟨v, h3, h5⟩ := h2 e st' g a w _ hs ha.left (arg hs ha.right (x := x) (by simp))
    exact ⟨v, w, by simp only [execOp, Sem.run_bind]; rw [h3]; rfl, Fine.refl w, h5⟩
  · rename_i s x f
    obtain ⟨l, r, h1, h2⟩ := fieldAddrK_ok h
    refine ⟨_, r, h1, fun e st' g a w hs ha => ?_⟩
    obtain ⟨v, h3, h5⟩ := h2 e st' g a w _ hs ha.left (arg hs ha.right (x := x) (by simp))
    exact ⟨v, w, by simp only [execOp, Sem.run_bind]; rw [h3]; rfl, Fine.refl w, h5⟩
  · rename_i t x i
    split at h
    · rename_i k0 n hi
      obtain ⟨l, r, h1, h2⟩ := indexAddrK_ok (k0 := k0) h
      refine ⟨_, r, h1, fun e st' g a w hs ha => ?_⟩
      obtain ⟨v, h3, h5⟩ := h2 e st' g a w _ hs ha.left (arg hs ha.right (x := x) (by simp))
      have h6 := arg hs ha.right (x := i) (by simp)
      rw [hi] at h6
      exact ⟨v, w, by simp only [execOp, Sem.run_bind]; rw [inv_v h6, h3]; rfl, Fine.refl w, h5⟩
    · exact h.elim
  · rename_i t x i
    split at h
    · rename_i s k0 n hx hi
      obtain ⟨ht, h0, hlt, h⟩ := h
      refine ⟨_, _, h, fun e st' g a w hs ha => ?_⟩
      have h5 := arg hs ha (x := x) (by simp)
      have h6 := arg hs ha (x := i) (by simp)
      rw [hx] at h5; rw [hi] at h6
      refine ⟨_, w, ?_, Fine.refl w, .r (.v _)⟩
      simp only [execOp, Sem.run_bind, inv_v h5, inv_v h6, Instr.index, asIntOf, Sem.run_pure, Result.andThen_ok, run_underlying (stringT_of ht), h0, if_true]
      have hn : n.toNat < s.size := by omega
      have : s[n.toNat]? = some s[n.toNat] := by simp [hn]
      rw [this]
      have e2 : s.data.toList.getD n.toNat 0 = s[n.toNat] := by
        have : n.toNat < s.data.toList.length := by simpa using hn
        simp only [List.getD, List.getElem?_eq_getElem this, Option.getD_some]; rfl
      rw [e2]; rfl
    · rename_i cs k0 n hx hi
      split at h
      · rename_i len el hl
        obtain ⟨h0, hlt, hk, h⟩ := h
        obtain ⟨r, h1, h2⟩ := loadK_ok h
        refine ⟨_, r, h1, fun e st' g a w hs ha => ?_⟩
        have h5 := arg hs ha (x := x) (by simp)
        have h6 := arg hs ha (x := i) (by simp)
        rw [hx] at h5; rw [hi] at h6
        obtain ⟨xs, hv, p1, p2⟩ := inv_agg h5
        obtain ⟨u, h3, h4⟩ := part_load h2 (⟨p1, p2⟩ : PW st'.cur g w (e.N st' g) cs xs)
        refine ⟨u, w, ?_, Fine.refl w, h4⟩
        simp only [execOp, Sem.run_bind, hv, inv_v h6, Instr.index, asIntOf, Sem.run_pure, Result.andThen_ok, run_underlying (arr_of hl)]
        simp [h0, hlt, run_sizeOf' hk, h3]
      · exact h.elim
    · exact h.elim
  · rename_i t i
    split at h
    · rename_i xs hx
      split at h
      · rename_i x hxi
        refine ⟨_, _, h, fun e st' g a w hs ha => ?_⟩
        have h5 := arg hs ha (x := t) (by simp)
        rw [hx] at h5
        obtain ⟨vs, hv, p1, p2⟩ := inv_tup h5
        have hlt : i < vs.size := by rw [p1]; exact (List.getElem?_eq_some_iff.1 hxi).1
        have hvi : vs[i]? = some vs[i] := Array.getElem?_eq_getElem hlt
        refine ⟨vs[i], w, ?_, Fine.refl w, p2 _ _ _ hxi hvi⟩
        simp [execOp, hv, Instr.extract, hvi]
      · exact h.elim
    · exact h.elim
  · rename_i x
    obtain ⟨l, r, h1, h2⟩ := nilCheckK_ok (C := C) h
    refine ⟨_, r, h1, fun e st' g a w hs ha => ?_⟩
    obtain ⟨h3, h5⟩ := h2 e st' g a w _ hs ha.left (arg hs ha.right (x := x) (by simp))
    refine ⟨a.eval x, w, ?_, Fine.refl w, h5⟩
    rcases h3 with ⟨ad, h3⟩ | ⟨f, vs, h3⟩ <;> simp [execOp, h3]
  · rename_i t parts
    obtain ⟨hp, h⟩ := h
    obtain ⟨r, h1, h2⟩ := run_build' (P := C.P) hp h
    refine ⟨_, r, h1, fun e st' g a w hs ha => ?_⟩
    obtain ⟨u, h3, h4⟩ := h2 st'.cur g w (e.N st' g) (parts.toList.map fun p => (p.1, a.eval p.2)) (by simp) (fun j p q hp hq => by
      rw [List.getElem?_map] at hp hq
      cases hj : parts.toList[j]? with
      | none => simp [hj] at hp
      | some z =>
        simp only [hj, Option.map_some, Option.some.injEq] at hp hq
        subst hp; subst hq
        exact ⟨rfl, arg hs ha (List.mem_map.2 ⟨z, List.mem_of_getElem? hj, rfl⟩)⟩)
    refine ⟨u, w, ?_, Fine.refl w, h4⟩
    simp only [execOp, Sem.run_bind]
    have : (Array.map (fun x => (x.1, a.eval x.2)) parts) = (parts.toList.map fun p => (p.1, a.eval p.2)).toArray := by apply Array.ext'; simp
    rw [show (parts.map fun (i, x) => (i, a.eval x)) = (parts.toList.map fun p => (p.1, a.eval p.2)).toArray from this, h3]; rfl
  · rename_i c
    split at h
    · rename_i x t hc hargs hat
      replace hargs := arr1 hargs
      replace hat := arr1 hat
      obtain ⟨l, r, h1, h2⟩ := lenAV_ok h
      refine ⟨_, r, h1, fun e st' g a w hs ha => ?_⟩
      obtain ⟨u, h3, h4⟩ := h2 e st' g a w _ type hs ha.left (arg hs ha.right (x := x) (by simp))
      refine ⟨u, w, ?_, Fine.refl w, h4⟩
      simp [execOp, resolve, hc, hargs, hat, invoke, builtin, h3]
    · rename_i x y hc hargs
      replace hargs := arr1 hargs
      split at h
      · rename_i k n k' m hx hy
        obtain ⟨rfl, h⟩ := h
        refine ⟨_, _, h, fun e st' g a w hs ha => ?_⟩
        have h5 := arg hs ha (x := x) (by simp)
        have h6 := arg hs ha (x := y) (by simp)
        rw [hx] at h5; rw [hy] at h6
        refine ⟨_, w, ?_, Fine.refl w, .r (.v _)⟩
        simp [execOp, resolve, hc, hargs, invoke, builtin, Builtin.min_, inv_v h5, inv_v h6, Builtin.min2]
      · exact h.elim
    · rename_i x y hc hargs
      replace hargs := arr1 hargs
      split at h
      · rename_i k n k' m hx hy
        obtain ⟨rfl, h⟩ := h
        refine ⟨_, _, h, fun e st' g a w hs ha => ?_⟩
        have h5 := arg hs ha (x := x) (by simp)
        have h6 := arg hs ha (x := y) (by simp)
        rw [hx] at h5; rw [hy] at h6
        refine ⟨_, w, ?_, Fine.refl w, .r (.v _)⟩
        simp [execOp, resolve, hc, hargs, invoke, builtin, Builtin.max_, inv_v h5, inv_v h6, Builtin.max2]
      · exact h.elim
    · exact h.elim
  · exact h.elim

end

end Go.Proofs.YtjbhpoolghfhiaaDoor
