/- Calls, told of states: a call of a function whose contract is known. No condition: plain lemmas. -/
import Derived.Test.YtjbhpoolghfhiaaDoorAv15
import Derived.Laws.Externs
namespace Go.Proofs.YtjbhpoolghfhiaaDoor
set_option linter.unusedVariables false
set_option linter.unusedSimpArgs false
set_option maxHeartbeats 10000000
open Go

/-- A call of this function enters its body. -/
def Enters (P : Program) (f : Nat) : Prop := ∀ (args : Array Value) (w : World), (callFunc f args).run P w = .ok (.enter f args) w

def none0 : Nat → Bool := fun _ => false

theorem AR.any_cur {cur cur' : Nat → Nat} {g g' : Gh} {w w' : World} {N N' : Nat → Prop} {x : AV} {v : Value} (h : AR cur g w N x v) (hw : within none0 x = true) (hs : w.heap.size ≤ w'.heap.size)
    (hk : ∀ b, b < w.heap.size → ¬ N b → w'.heap[b]? = w.heap[b]? ∧ ¬ N' b) : AR cur' g' w' N' x v := by
  have := h.limit hw id (fun _ => 0) (cur' := cur') (g' := g') hs hk (fun k hk => by simp [none0] at hk)
  rwa [ren_id] at this

/-- A pure contract, used: nothing that was there turns. -/
theorem FC.use0 {C : Ctx} {f : Nat} {args : List AV} {r : AV} (hf : FC C f args [] r []) (hr : within none0 r = true) {w : World} (hG : C.G w) (hgs : C.gs ≤ w.heap.size) {av : Nat → Prop} (hav : ∀ b, av b → b < w.heap.size)
    {cur : Nat → Nat} {g : Gh} {vs : Array Value} (ha : withinL none0 args = true) (hvs : PW cur g w av args vs) :
    Calls C.P f vs w fun x w' => ∃ v, x = .returned v ∧ Ext w (fun _ => False) w' (fun _ => False) ∧ ∀ cur' g', AR cur' g' w' av r v := by
  let e : Env := ⟨w, fun _ => False, av, (stR []).cur, g⟩
  have hok : e.ok C := ⟨hG, hgs, fun b h => h.elim, hav⟩
  have hno : ∀ g b, ¬ own (stR []) g b := fun g b ⟨k, hk⟩ => by simp [blk, lookR] at hk
  have hs : SR C e (stR []) g act0 w := ⟨rfl, rfl, fun d => .any _, fun k => trivial, fun k k' b hk => by simp [blk, lookR] at hk, fun k b hk => by simp [blk, lookR] at hk, ⟨rfl, rfl, rfl, Nat.le_refl _, fun b _ _ => ⟨rfl, hno g b⟩⟩, fun _ => .inr ⟨rfl, rfl⟩⟩
  refine (hf.run e g w vs hok hs ⟨hvs.1, fun j x y hx hy => ?_⟩).mono ?_
  · exact (hvs.2 j x y hx hy).any_cur (withinL_get ha j x hx) (Nat.le_refl _) (fun b _ hn => ⟨rfl, fun h => h.elim hn (hno g b)⟩)
  · rintro x w' ⟨v, g', rfl, hs', hv, _⟩
    refine ⟨v, rfl, ⟨hs'.ext.os, hs'.ext.tape, hs'.ext.output, hs'.ext.size, fun b hb hn => ⟨(hs'.ext.block b hb hn).1, hn⟩⟩, fun cur' g'' => ?_⟩
    exact hv.any_cur hr (Nat.le_refl _) (fun b _ hn => ⟨rfl, fun h => hn (.inl h)⟩)

/-- A value handed on for reading; what is owned is lent. -/
inductive Bor (l : List Loc) (st : St) : AV → AV → Prop
  | same (x : AV) (h : within none0 x = true) : Bor l st x x
  | sl (k ver e sz : Nat) (rows : List (List AV)) (rowsR : List (List RV)) (hl : .R k ∈ l) (hk : lookR k st.rs = (ver, .sl e sz rows)) (hn : rowsR.length = rows.length) (hm : ∀ (i : Nat) (row : List AV) (rowR : List RV), rows[i]? = some row → rowsR[i]? = some rowR → rowR.length = row.length)
      (h : ∀ (i j : Nat) (row : List AV) (rowR : List RV) (x : AV) (y : RV), rows[i]? = some row → rowsR[i]? = some rowR → row[j]? = some x → rowR[j]? = some y → Bor l st x (.r y)) : Bor l st (.os k ver) (.r (.rs sz rowsR))
  | bx (k ver : Nat) (cells : List AV) (rowR : List RV) (hl : .R k ∈ l) (hk : lookR k st.rs = (ver, .bx cells)) (hn : rowR.length = cells.length)
      (h : ∀ (j : Nat) (x : AV) (y : RV), cells[j]? = some x → rowR[j]? = some y → Bor l st x (.r y)) : Bor l st (.os k ver) (.r (.rp rowR))
  | rf (k ver off : Nat) (cells : List AV) (rowR : List RV) (hl : .R k ∈ l) (hk : lookR k st.rs = (ver, .bx cells)) (hn : rowR.length = cells.length - off)
      (h : ∀ (j : Nat) (x : AV) (y : RV), cells[off + j]? = some x → rowR[j]? = some y → Bor l st x (.r y)) : Bor l st (.rf k ver off) (.r (.rp rowR))
  | agg (cs : List AV) (ys : List RV) (hn : ys.length = cs.length) (h : ∀ (j : Nat) (x : AV) (y : RV), cs[j]? = some x → ys[j]? = some y → Bor l st x (.r y)) : Bor l st (.agg cs) (.agg (ys.map .r))

theorem Bor_ok' {C : Ctx} {l : List Loc} {st st' : St} {x y : AV} (h : Bor l st x y) {e : Env} {g : Gh} {a : Act} {w : World} (hs : SR C e st' g a w) (hl : Ag l st st') {N' : Nat → Prop} (hN : ∀ k b, Loc.R k ∈ l → blk st' g k = some b → ¬ N' b) (hN2 : ∀ b, N' b → e.N st' g b) : ∀ {v : Value}, AR st'.cur g w (e.N st' g) x v → ∀ cur' g', AR cur' g' w N' y v := by
  induction h with
  | same x h => intro v hv cur' g'; exact hv.any_cur h (Nat.le_refl _) (fun _ _ hn => ⟨rfl, fun h => hn (hN2 _ h)⟩)
  | sl k ver el sz rows rowsR hl' hk hn hm _ ih =>
    intro v hv cur' g'
    have hk' := (hl.R hl').trans hk
    obtain ⟨xs, hown, hw, har⟩ := sl_cells hs hk'
    rw [inv_os hv (curk k hk').symm]
    rcases hown.2 with ⟨h4, h5⟩ | ⟨b, cap, cu, hv', hb0, hh, hnc, hcm, hcs, ht⟩
    · have : rowsR = [] := List.length_eq_zero_iff.1 (by omega)
      rw [h4, this]; exact .r (.nil sz)
    · rw [hv', ← hn]
      have hlt : ∀ i j, i < rowsR.length → j < sz → i * sz + j < xs.length := fun i j hi hj => by
        rw [hown.1]
        have := Nat.mul_le_mul_right sz (show i + 1 ≤ rows.length by omega)
        rw [Nat.succ_mul] at this; omega
      have hmr : ∀ (i : Nat) (rowR : List RV), rowsR[i]? = some rowR → ∃ row, rows[i]? = some row ∧ rowR.length = row.length ∧ row.length = sz := fun i rowR hr => by
        have hi := (List.getElem?_eq_some_iff.1 hr).1
        have hr' : rows[i]? = some rows[i] := List.getElem?_eq_getElem (by omega)
        exact ⟨_, hr', hm i _ _ hr' hr, hw _ (List.mem_of_getElem? hr')⟩
      refine .r (.rs sz rowsR ⟨b, 0, none⟩ cap (fun i j => xs.getD (i * sz + j) undef) (fun _ => ⟨?_, fun h => ?_, rfl⟩) (by omega) (fun row hrow => ?_) (fun i j hi hj => ?_) (fun i j row x hi hj => ?_))
      · exact (hs.low k b (by simp only [blk, hk']; rw [hv']; rfl)).2.1
      · exact hN k b hl' (by simp only [blk, hk']; rw [hv']; rfl) h
      · obtain ⟨i, hi, rfl⟩ := List.getElem_of_mem hrow
        obtain ⟨row, _, h2, h3⟩ := hmr i _ (List.getElem?_eq_getElem hi)
        omega
      · have := hown.cells (g := b) (by rw [hv']; rfl) (i * sz + j) _ (List.getElem?_eq_getElem (hlt i j hi hj))
        rw [addr_add] at this
        simp only [List.getD, List.getElem?_eq_getElem (hlt i j hi hj), Option.getD_some]
        exact this
      · obtain ⟨row0, h1, h2, h3⟩ := hmr i _ hi
        have hi' := (List.getElem?_eq_some_iff.1 hi).1
        have hj' := (List.getElem?_eq_some_iff.1 hj).1
        have hx0 : row0[j]? = some row0[j] := List.getElem?_eq_getElem (by omega)
        have hy := List.getElem?_eq_getElem (hlt i j hi' (by omega))
        have h6 := ih i j row0 row _ x h1 hi hx0 hj (har i j row0 _ _ h1 hx0 hy) cur' g'
        simp only [List.getD, hy, Option.getD_some]
        cases h6 with | r h6 => exact h6
  | bx k ver cells rowR hl' hk hn _ ih =>
    intro v hv cur' g'
    have hk' := (hl.R hl').trans hk
    obtain ⟨b, hb, hh⟩ := held_bx hs hk'
    rw [inv_os hv (curk k hk').symm, hb]
    obtain ⟨ad, c, he, _, hc⟩ := hh
    simp only [Value.pointer.injEq, Option.some.injEq] at he
    subst he
    refine .r (.rp rowR ⟨b, 0, none⟩ c (fun _ => ⟨(hs.low k b (blk_bx hk' hb)).2.1, fun h => hN k b hl' (blk_bx hk' hb) h, rfl⟩) (fun j hj => ?_) (fun j x hj => ?_))
    · exact (hc j _ (List.getElem?_eq_getElem (by omega))).1
    · have hj' := (List.getElem?_eq_some_iff.1 hj).1
      have hx0 : cells[j]? = some cells[j] := List.getElem?_eq_getElem (by omega)
      have h6 := ih j _ x hx0 hj (hc j _ hx0).2 cur' g'
      cases h6 with | r h6 => exact h6
  | rf k ver off cells rowR hl' hk hn _ ih =>
    intro v hv cur' g'
    have hk' := (hl.R hl').trans hk
    obtain ⟨b, hb, hh⟩ := held_bx hs hk'
    obtain ⟨b', hb', rfl⟩ := inv_rf hv (curk k hk').symm
    have : b' = b := by rw [hb] at hb'; simp at hb'; exact hb'.symm
    subst this
    obtain ⟨ad, c, he, _, hc⟩ := hh
    simp only [Value.pointer.injEq, Option.some.injEq] at he
    subst he
    refine .r (.rp rowR ⟨b', off, none⟩ (fun j => c (off + j)) (fun _ => ⟨(hs.low k b' (blk_bx hk' hb)).2.1, fun h => hN k b' hl' (blk_bx hk' hb) h, rfl⟩) (fun j hj => ?_) (fun j x hj => ?_))
    · have := (hc (off + j) _ (List.getElem?_eq_getElem (by omega))).1
      simpa using this
    · have hj' := (List.getElem?_eq_some_iff.1 hj).1
      have hx0 : cells[off + j]? = some cells[off + j] := List.getElem?_eq_getElem (by omega)
      have h6 := ih j _ x hx0 hj (hc (off + j) _ hx0).2 cur' g'
      cases h6 with | r h6 => exact h6
  | agg cs ys hn _ ih =>
    intro v hv cur' g'
    obtain ⟨xs, rfl, p1, p2⟩ := inv_agg hv
    refine .agg _ _ (by simp; omega) (fun j x y hx hy => ?_)
    rw [List.getElem?_map] at hx
    cases hj : ys[j]? with
    | none => simp [hj] at hx
    | some z =>
      simp [hj] at hx
      subst hx
      have hj' := (List.getElem?_eq_some_iff.1 hj).1
      have hc0 : cs[j]? = some cs[j] := List.getElem?_eq_getElem (by omega)
      exact ih j _ z hc0 hj (p2 j _ y hc0 hy) cur' g'

theorem Bor_ok {C : Ctx} {l : List Loc} {st st' : St} {x y : AV} (h : Bor l st x y) {e : Env} {g : Gh} {a : Act} {w : World} (hs : SR C e st' g a w) (hl : Ag l st st') {v : Value} (hv : AR st'.cur g w (e.N st' g) x v) (cur' : Nat → Nat) (g' : Gh) : AR cur' g' w (fun _ => False) y v :=
  Bor_ok' h hs hl (fun _ _ _ _ h => h) (fun _ h => h.elim) hv cur' g'

/-- A value without pointers into what is read. -/
def flatR : RV → Bool
  | .v _ => true
  | .nan => true
  | _ => false
mutual
def flatAV : AV → Bool
  | .r x => flatR x
  | .agg cs => flatL cs
  | .tup cs => flatL cs
  | .any => true
  | _ => false
def flatL : List AV → Bool
  | [] => true
  | x :: l => flatAV x && flatL l
end

theorem flatL_get : ∀ {l : List AV}, flatL l = true → ∀ (j : Nat) (x : AV), l[j]? = some x → flatAV x = true
  | y :: l, h, 0, x, hx => by
    simp only [flatL, Bool.and_eq_true] at h
    simp at hx; subst hx; exact h.1
  | y :: l, h, j + 1, x, hx => by
    simp only [flatL, Bool.and_eq_true] at h
    exact flatL_get h.2 j x (by simpa using hx)

theorem AR_flat {cur cur' : Nat → Nat} {g g' : Gh} {w w' : World} {N N' : Nat → Prop} {x : AV} {v : Value} (h : AR cur g w N x v) (hf : flatAV x = true) : AR cur' g' w' N' x v := by
  induction h with
  | r h => cases h <;> first | exact .r (.v _) | (simp [flatAV, flatR] at hf; done) | exact .r (.nan _ ‹_›)
  | os _ _ _ _ _ => simp [flatAV] at hf
  | rf _ _ _ _ _ _ => simp [flatAV] at hf
  | re _ _ _ _ _ _ _ _ => simp [flatAV] at hf
  | agg cs xs hs _ ih => exact .agg cs xs hs (fun j x y hx hy => ih j x y hx hy (flatL_get (by simpa [flatAV] using hf) j x hx))
  | tup cs xs hs _ ih => exact .tup cs xs hs (fun j x y hx hy => ih j x y hx hy (flatL_get (by simpa [flatAV] using hf) j x hx))
  | any v => exact .any v

theorem run_callv {P : Program} {o : Oper} {c : Call} {fop : Operand} {f : Nat} {vs : Array Value} {a : Act} {w : World} (ho : o.op = .call c) (hc : c.callee = .value fop) (hf : a.eval fop = .func (.func f) #[] vs) (he : Enters P f) :
    (execOp a.eval o).run P w = .ok (.enter f (c.args.map a.eval ++ vs)) w := by
  simp [execOp, ho, resolve, hc, Deferred.ofValue, hf, invoke, he _ w]

theorem wp_enter {P : Program} {o : Oper} {d f : Nat} {a : Act} {w : World} {args : Array Value} {next : Act → World → Prop} {Q : Exit → Act → World → Prop} (hd : o.dst = some d) (hr : (execOp a.eval o).run P w = .ok (.enter f args) w)
    (h : Calls P f args w fun x w' => ∃ v, x = .returned v ∧ next (a.put (some d) v) w') : o.wp P a w next Q := by
  unfold Oper.wp
  rw [hr]
  show Calls P f args w _
  refine h.mono ?_
  rintro x w' ⟨v, rfl, hv⟩
  show next (a.put o.dst v) w'
  rw [hd]; exact hv

theorem G_of {C : Ctx} {e : Env} {st : St} {a : Act} {w : World} (h : S C e st a w) : C.G w ∧ C.gs ≤ w.heap.size := by
  refine ⟨h.G, ?_⟩
  obtain ⟨ho, g, h⟩ := h
  have := ho.gs; have := h.ext.size; omega

/-- A world in which nothing that was there has turned. -/
theorem SR.grow {C : Ctx} {e : Env} {st : St} {g : Gh} {a : Act} {w w' : World} (h : SR C e st g a w) (hx : Ext w (fun _ => False) w' (fun _ => False)) : SR C e st g a w' ∧ ∀ x v, AR st.cur g w (e.N st g) x v → AR st.cur g w' (e.N st g) x v := by
  have hx' : Ext w (own st g) w' (own st g) := ⟨hx.os, hx.tape, hx.output, hx.size, fun b hb hn => ⟨(hx.block b hb (fun h => h)).1, hn⟩⟩
  have hc : ∀ k, st.cur k < st.cur k ∨ st.cur k = st.cur k ∧ g k = g k := fun k => .inr ⟨rfl, rfl⟩
  refine ⟨⟨h.defers, h.size, fun d => (h.temps d).lift hx' hc, fun k => (h.res k).lift hx' hc rfl (fun hne b hb => ?_), h.uniq, fun k b hb => ?_, h.ext.trans hx', h.hist⟩, fun x v hv => hv.lift hx' hc⟩
  · have hbk : blk st g k = some b := by
      simp only [blk]; revert hne; cases (lookR k st.rs).2 <;> intro hne <;> first | exact absurd rfl hne | exact hb
    exact (hx.block b (h.low k b hbk).2.1 (fun h => h)).1
  · obtain ⟨h1, h2, h3⟩ := h.low k b hb
    exact ⟨h1, by have := hx.size; omega, h3⟩

theorem inv_fn {cur : Nat → Nat} {g : Gh} {w : World} {N : Nat → Prop} {f : Nat} {caps : List RV} {v : Value} (h : AR cur g w N (.r (.fn f caps)) v) : ∃ vs, v = .func (.func f) #[] vs ∧ vs.size = caps.length ∧ ∀ (j : Nat) (x : RV) (y : Value), caps[j]? = some x → vs[j]? = some y → RR w N x y := by
  cases h with | r h => cases h with | fn _ _ vs h1 h2 => exact ⟨vs, rfl, h1, h2⟩

/-- The arguments of a call, as they stand, and what the function value has caught. -/
theorem args_ok {C : Ctx} {e : Env} {st st' : St} {g : Gh} {a : Act} {w : World} (hs : SR C e st' g a w) {fop : Operand} {l : List Operand} (ha : Ag (rd (fop :: l)) st st') {f : Nat} {caps : List RV} (hf : ev st fop = .r (.fn f caps)) {args : Array Operand} (hl : args.toList = l) :
    ∃ vs, a.eval fop = .func (.func f) #[] vs ∧ PW st'.cur g w (e.N st' g) (l.map (ev st) ++ caps.map AV.r) (args.map a.eval ++ vs) := by
  have h1 := arg hs ha (x := fop) (by simp)
  rw [hf] at h1
  obtain ⟨vs, hq, h2, h3⟩ := inv_fn h1
  refine ⟨vs, hq, by simp [← hl, h2], fun j x y hx hy => ?_⟩
  have hargs : (args.map a.eval).size = l.length := by simp [← hl]
  by_cases hj : j < l.length
  · rw [List.getElem?_append_left (by simpa using hj), List.getElem?_map, List.getElem?_eq_getElem hj] at hx
    rw [Array.getElem?_append_left (by omega), Array.getElem?_map] at hy
    have : args[j]? = some l[j] := by rw [← Array.getElem?_toList, hl]; exact List.getElem?_eq_getElem hj
    rw [this] at hy
    simp at hx hy
    subst hx; subst hy
    exact arg hs ha (List.mem_cons_of_mem _ (List.getElem_mem hj))
  · rw [List.getElem?_append_right (by simpa using hj), List.length_map, List.getElem?_map] at hx
    rw [Array.getElem?_append_right (by omega), hargs] at hy
    cases hc : caps[j - l.length]? with
    | none => simp [hc] at hx
    | some z => simp [hc] at hx; subst hx; exact .r (h3 _ _ _ hc hy)

/-- A call of a pure function: what it is handed is read-only. -/
theorem LStep_pure {C : Ctx} {o : Oper} {st : St} {d f : Nat} {c : Call} {fop : Operand} {caps : List RV} {r : AV} (hd : o.dst = some d) (hdn : d < st.n) (ho : o.op = .call c) (hc : c.callee = .value fop) (hf : ev st fop = .r (.fn f caps)) (he : Enters C.P f)
    (hargs : withinL none0 (c.args.toList.map (ev st) ++ caps.map AV.r) = true) (hr : within none0 r = true) (hfc : FC C f (c.args.toList.map (ev st) ++ caps.map AV.r) [] r []) :
    LStep C o st.n ((rd (fop :: c.args.toList)).map fun x => (x, st.get x)) [(.T d, .a r)] := by
  intro e st' a w next Q hn hS ha hnext
  obtain ⟨hG, hgs⟩ := G_of hS
  obtain ⟨heok, g, hs⟩ := hS
  replace ha := Agree_of.1 ha
  obtain ⟨vs, hv, hpw⟩ := args_ok hs ha hf rfl
  refine wp_enter hd (run_callv ho hc hv he) ?_
  refine (hfc.use0 hr hG hgs (av := e.N st' g) (fun b hb => hb.elim (fun h => by have := heok.av b h; have := hs.ext.size; omega) (fun ⟨k, h⟩ => (hs.low k b h).2.1)) hargs hpw).mono ?_
  rintro x w' ⟨v, rfl, hx, hav⟩
  obtain ⟨hs', _⟩ := hs.grow hx
  exact ⟨v, rfl, hnext _ _ ⟨heok, g, hs'.put (by omega) (hav _ _)⟩⟩

/-- A call of a pure function: what it is handed is lent to it. -/
theorem LStep_lend {C : Ctx} {o : Oper} {st : St} {d f : Nat} {c : Call} {fop : Operand} {caps : List RV} {r : AV} {l : List Loc} {ys : List AV} (hd : o.dst = some d) (hdn : d < st.n) (ho : o.op = .call c) (hc : c.callee = .value fop) (hf : ev st fop = .r (.fn f caps)) (he : Enters C.P f)
    (hlen : ys.length = (c.args.toList.map (ev st) ++ caps.map AV.r).length) (hbor : ∀ (j : Nat) (x y : AV), (c.args.toList.map (ev st) ++ caps.map AV.r)[j]? = some x → ys[j]? = some y → Bor l st x y) (hys : withinL none0 ys = true)
    (hr : within none0 r = true) (hflat : flatAV r = true) (hfc : FC C f ys [] r []) :
    LStep C o st.n ((rd (fop :: c.args.toList) ++ l).map fun x => (x, st.get x)) [(.T d, .a r)] := by
  intro e st' a w next Q hn hS ha hnext
  obtain ⟨hG, hgs⟩ := G_of hS
  obtain ⟨heok, g, hs⟩ := hS
  replace ha := Agree_of.1 ha
  obtain ⟨vs, hv, hpw⟩ := args_ok hs ha.left hf rfl
  refine wp_enter hd (run_callv ho hc hv he) ?_
  have hpw' : PW (fun _ => 0) (fun _ => undef) w (fun _ => False) ys (c.args.map a.eval ++ vs) := ⟨by rw [hlen]; exact hpw.1, fun j x y hx hy => by
    have hj : j < (c.args.toList.map (ev st) ++ caps.map AV.r).length := by rw [← hlen]; exact (List.getElem?_eq_some_iff.1 hx).1
    have hj' := List.getElem?_eq_getElem hj
    exact Bor_ok (hbor j _ x hj' hx) hs ha.right (hpw.2 j _ y hj' hy) _ _⟩
  refine (hfc.use0 hr hG hgs (av := fun _ => False) (fun b hb => hb.elim) hys hpw').mono ?_
  rintro x w' ⟨v, rfl, hx, hav⟩
  obtain ⟨hs', _⟩ := hs.grow hx
  exact ⟨v, rfl, hnext _ _ ⟨heok, g, hs'.put (by omega) (AR_flat (hav (fun _ => 0) (fun _ => undef)) hflat)⟩⟩

/-- A call of the function comes to a value; what was there is as it was. -/
def CallOk (C : Ctx) (f : Nat) (args : List AV) (r : AV) : Prop :=
  ∀ (cur : Nat → Nat) (g : Gh) (w : World) (av : Nat → Prop) (vs : Array Value), C.G w → C.gs ≤ w.heap.size → (∀ b, av b → b < w.heap.size) → PW cur g w av args vs →
    (∃ v w', (callFunc f vs).run C.P w = .ok (.value v) w' ∧ Ext w (fun _ => False) w' (fun _ => False) ∧ ∀ cur' g', AR cur' g' w' av r v) ∨
    ((callFunc f vs).run C.P w = .ok (.enter f vs) w ∧ Calls C.P f vs w fun x w' => ∃ v, x = .returned v ∧ Ext w (fun _ => False) w' (fun _ => False) ∧ ∀ cur' g', AR cur' g' w' av r v)

theorem CallOk_of {C : Ctx} {f : Nat} {args : List AV} {r : AV} (hf : FC C f args [] r []) (he : Enters C.P f) (ha : withinL none0 args = true) (hr : within none0 r = true) : CallOk C f args r :=
  fun _ _ w _ vs hG hgs hav hvs => .inr ⟨he vs w, hf.use0 hr hG hgs hav ha hvs⟩

/-- A call of a function that the machine does by itself. -/
theorem CallOk_extern {C : Ctx} {f : Nat} {fn : Func} {e : Array Value → Sem Value} {args : List AV} {r : AV} (hf : C.P.funcs[f]? = some fn) (hname : (fn.name == "runtime.NumGoroutine") = false) (hb : fn.body.isNone = true) (hn : Extern.findNext fn = none) (he : Extern.find fn = some e)
    (h : ∀ (cur : Nat → Nat) (g : Gh) (w : World) (av : Nat → Prop) (vs : Array Value), PW cur g w av args vs → ∃ v, (e vs).run C.P w = .ok v w ∧ ∀ cur' g', AR cur' g' w av r v) : CallOk C f args r := by
  intro cur g w av vs _ _ _ hvs
  obtain ⟨v, h1, h2⟩ := h cur g w av vs hvs
  refine .inl ⟨v, w, ?_, Ext.refl _ _, h2⟩
  rw [run_callFunc_extern hf hname hb hn he, h1]
  rfl

/-- Lent one by one. -/
def lendL (f : AV → (List Loc → RV → Prop) → Prop) : List AV → (List Loc → List RV → Prop) → Prop
  | [], K => K [] []
  | x :: xs, K => f x fun l y => lendL f xs fun l' ys => K (l ++ l') (y :: ys)
def lendR (f : AV → (List Loc → RV → Prop) → Prop) : List (List AV) → (List Loc → List (List RV) → Prop) → Prop
  | [], K => K [] []
  | r :: rs, K => lendL f r fun l y => lendR f rs fun l' ys => K (l ++ l') (y :: ys)

/-- What is owned is lent for reading. -/
def lendC : Nat → St → AV → (List Loc → RV → Prop) → Prop
  | _, _, .r x, K => K [] x
  | n + 1, st, .os k ver, K => match lookR k st.rs with
    | (cv, .sl _ sz rows) => ver = cv ∧ lendR (lendC n st) rows fun l R => K (.R k :: l) (.rs sz R)
    | (cv, .bx cells) => ver = cv ∧ lendL (lendC n st) cells fun l R => K (.R k :: l) (.rp R)
    | _ => False
  | n + 1, st, .rf k ver off, K => match lookR k st.rs with
    | (cv, .bx cells) => ver = cv ∧ lendL (lendC n st) (cells.drop off) fun l R => K (.R k :: l) (.rp R)
    | _ => False
  | _, _, _, _ => False

def lendA (st : St) : AV → (List Loc → AV → Prop) → Prop
  | .agg cs, K => lendL (lendC 4 st) cs fun l ys => K l (.agg (ys.map .r))
  | .any, K => K [] .any
  | x, K => lendC 4 st x fun l y => K l (.r y)

def lendAs (st : St) : List AV → (List Loc → List AV → Prop) → Prop
  | [], K => K [] []
  | x :: xs, K => lendA st x fun l y => lendAs st xs fun l' ys => K (l ++ l') (y :: ys)

theorem Bor.mono {l l' : List Loc} {st : St} {x y : AV} (h : Bor l st x y) (hl : ∀ k, k ∈ l → k ∈ l') : Bor l' st x y := by
  induction h with
  | same x h => exact .same x h
  | sl k ver e sz rows rowsR h1 h2 h3 h4 _ ih => exact .sl k ver e sz rows rowsR (hl _ h1) h2 h3 h4 ih
  | bx k ver cells rowR h1 h2 h3 _ ih => exact .bx k ver cells rowR (hl _ h1) h2 h3 ih
  | rf k ver off cells rowR h1 h2 h3 _ ih => exact .rf k ver off cells rowR (hl _ h1) h2 h3 ih
  | agg cs ys h1 _ ih => exact .agg cs ys h1 ih

theorem lendL_ok {st : St} {f : AV → (List Loc → RV → Prop) → Prop} (hf : ∀ x K, f x K → ∃ l y, K l y ∧ Bor l st x (.r y)) : ∀ {xs : List AV} {K : List Loc → List RV → Prop}, lendL f xs K →
    ∃ l ys, K l ys ∧ ys.length = xs.length ∧ ∀ (j : Nat) (x : AV) (y : RV), xs[j]? = some x → ys[j]? = some y → Bor l st x (.r y)
  | [], K, h => ⟨[], [], h, rfl, fun j x y hx => by simp at hx⟩
  | x :: xs, K, h => by
    obtain ⟨l, y, h1, h2⟩ := hf _ _ h
    obtain ⟨l', ys, h3, h4, h5⟩ := lendL_ok hf h1
    refine ⟨_, _, h3, by simp [h4], fun j x' y' hx hy => ?_⟩
    cases j with
    | zero => simp at hx hy; subst hx; subst hy; exact h2.mono fun k hk => List.mem_append_left _ hk
    | succ j => exact (h5 j x' y' (by simpa using hx) (by simpa using hy)).mono fun k hk => List.mem_append_right _ hk

theorem lendR_ok {st : St} {f : AV → (List Loc → RV → Prop) → Prop} (hf : ∀ x K, f x K → ∃ l y, K l y ∧ Bor l st x (.r y)) : ∀ {xs : List (List AV)} {K : List Loc → List (List RV) → Prop}, lendR f xs K →
    ∃ l ys, K l ys ∧ ys.length = xs.length ∧ (∀ (i : Nat) (row : List AV) (rowR : List RV), xs[i]? = some row → ys[i]? = some rowR → rowR.length = row.length) ∧
      ∀ (i j : Nat) (row : List AV) (rowR : List RV) (x : AV) (y : RV), xs[i]? = some row → ys[i]? = some rowR → row[j]? = some x → rowR[j]? = some y → Bor l st x (.r y)
  | [], K, h => ⟨[], [], h, rfl, fun i row rowR hx => by simp at hx, fun i j row rowR x y hx => by simp at hx⟩
  | x :: xs, K, h => by
    obtain ⟨l, y, h1, h2, h2'⟩ := lendL_ok hf h
    obtain ⟨l', ys, h3, h4, h5, h6⟩ := lendR_ok hf h1
    refine ⟨_, _, h3, by simp [h4], fun i row rowR hx hy => ?_, fun i j row rowR x' y' hx hy hxj hyj => ?_⟩
    · cases i with
      | zero => simp at hx hy; subst hx; subst hy; exact h2
      | succ i => exact h5 i row rowR (by simpa using hx) (by simpa using hy)
    · cases i with
      | zero => simp at hx hy; subst hx; subst hy; exact (h2' j x' y' hxj hyj).mono fun k hk => List.mem_append_left _ hk
      | succ i => exact (h6 i j row rowR x' y' (by simpa using hx) (by simpa using hy) hxj hyj).mono fun k hk => List.mem_append_right _ hk

theorem lendC_ok {st : St} : ∀ (n : Nat) (x : AV) (K : List Loc → RV → Prop), lendC n st x K → ∃ l y, K l y ∧ Bor l st x (.r y) := by
  intro n
  induction n with
  | zero =>
    intro x K h
    cases x <;> simp only [lendC] at h <;> first | exact h.elim | exact ⟨_, _, h, .same _ rfl⟩
  | succ n ih =>
    intro x K h
    cases x with
    | r x => simp only [lendC] at h; exact ⟨_, _, h, .same _ rfl⟩
    | os k ver =>
      simp only [lendC] at h
      split at h
      · rename_i cv e sz rows hk
        obtain ⟨rfl, h⟩ := h
        obtain ⟨l, ys, h1, h2, h3, h4⟩ := lendR_ok ih h
        exact ⟨_, _, h1, .sl k ver e sz rows ys (by simp) hk h2 h3 (fun i j row rowR x y a1 a2 a3 a4 => (h4 i j row rowR x y a1 a2 a3 a4).mono fun k hk => List.mem_cons_of_mem _ hk)⟩
      · rename_i cv cells hk
        obtain ⟨rfl, h⟩ := h
        obtain ⟨l, ys, h1, h2, h3⟩ := lendL_ok ih h
        exact ⟨_, _, h1, .bx k ver cells ys (by simp) hk h2 (fun j x y a1 a2 => (h3 j x y a1 a2).mono fun k hk => List.mem_cons_of_mem _ hk)⟩
      · exact h.elim
    | rf k ver off =>
      simp only [lendC] at h
      split at h
      · rename_i cv cells hk
        obtain ⟨rfl, h⟩ := h
        obtain ⟨l, ys, h1, h2, h3⟩ := lendL_ok ih h
        exact ⟨_, _, h1, .rf k ver off cells ys (by simp) hk (by simpa using h2) (fun j x y a1 a2 => (h3 j x y (by simpa using a1) a2).mono fun k hk => List.mem_cons_of_mem _ hk)⟩
      · exact h.elim
    | _ => simp only [lendC] at h

theorem lendA_ok {st : St} {x : AV} {K : List Loc → AV → Prop} (h : lendA st x K) : ∃ l y, K l y ∧ Bor l st x y := by
  unfold lendA at h
  split at h
  · obtain ⟨l, ys, h1, h2, h3⟩ := lendL_ok (lendC_ok 4) h
    exact ⟨l, _, h1, .agg _ _ h2 h3⟩
  · exact ⟨_, _, h, .same _ rfl⟩
  · obtain ⟨l, y, h1, h2⟩ := lendC_ok 4 _ _ h
    exact ⟨l, _, h1, h2⟩

theorem lendAs_ok {st : St} : ∀ {xs : List AV} {K : List Loc → List AV → Prop}, lendAs st xs K →
    ∃ l ys, K l ys ∧ ys.length = xs.length ∧ ∀ (j : Nat) (x y : AV), xs[j]? = some x → ys[j]? = some y → Bor l st x y
  | [], K, h => ⟨[], [], h, rfl, fun j x y hx => by simp at hx⟩
  | x :: xs, K, h => by
    obtain ⟨l, y, h1, h2⟩ := lendA_ok h
    obtain ⟨l', ys, h3, h4, h5⟩ := lendAs_ok h1
    refine ⟨_, _, h3, by simp [h4], fun j x' y' hx hy => ?_⟩
    cases j with
    | zero => simp at hx hy; subst hx; subst hy; exact h2.mono fun k hk => List.mem_append_left _ hk
    | succ j => exact (h5 j x' y' (by simpa using hx) (by simpa using hy)).mono fun k hk => List.mem_append_right _ hk

theorem Bor_nil {st : St} {x y : AV} (h : Bor [] st x y) {cur : Nat → Nat} {g : Gh} {w : World} {N : Nat → Prop} : ∀ {v : Value}, AR cur g w N x v → AR cur g w N y v := by
  induction h with
  | same x h => exact id
  | sl k ver e sz rows rowsR h1 => simp at h1
  | bx k ver cells rowR h1 => simp at h1
  | rf k ver off cells rowR h1 => simp at h1
  | agg cs ys hn _ ih =>
    intro v hv
    obtain ⟨xs, rfl, p1, p2⟩ := inv_agg hv
    refine .agg _ _ (by simp; omega) (fun j x y hx hy => ?_)
    rw [List.getElem?_map] at hx
    cases hj : ys[j]? with
    | none => simp [hj] at hx
    | some z =>
      simp [hj] at hx
      subst hx
      have hj' := (List.getElem?_eq_some_iff.1 hj).1
      have hc0 : cs[j]? = some cs[j] := List.getElem?_eq_getElem (by omega)
      exact ih j _ z hc0 hj (p2 j _ y hc0 hy)

/-- A call, met by a contract: what it reads, what it writes. -/
def callT (C : Ctx) (sp : List AV → (AV → Prop) → Prop) (c : Call) (fop : Operand) (caps : List RV) (o : Oper) (st : St) (K : List Loc → List (Loc × Cont) → Prop) : Prop :=
  lendAs st (c.args.toList.map (ev st) ++ caps.map AV.r) fun l ys => sp ys fun r => within none0 r = true ∧ (l.isEmpty || flatAV r) = true ∧ match o.dst with
    | some d => d < st.n ∧ K (rd (fop :: c.args.toList) ++ l) [(.T d, .a r)]
    | none => K (rd (fop :: c.args.toList) ++ l) []

theorem upon_val {P : Program} {o : Oper} {a : Act} {w : World} {next : Act → World → Prop} {Q : Exit → Act → World → Prop} {v : Value} {w' : World} (hr : (execOp a.eval o).run P w = .ok (.value v) w') (h : next (a.put o.dst v) w') : o.wp P a w next Q := by
  unfold Oper.wp; rw [hr]; exact h

theorem upon_enter {P : Program} {o : Oper} {f : Nat} {a : Act} {w : World} {args : Array Value} {next : Act → World → Prop} {Q : Exit → Act → World → Prop} (hr : (execOp a.eval o).run P w = .ok (.enter f args) w)
    (h : Calls P f args w fun x w' => ∃ v, x = .returned v ∧ next (a.put o.dst v) w') : o.wp P a w next Q := by
  unfold Oper.wp
  rw [hr]
  show Calls P f args w _
  refine h.mono ?_
  rintro x w' ⟨v, rfl, hv⟩
  exact hv

theorem callT_ok {C : Ctx} {f : Nat} {sp : List AV → (AV → Prop) → Prop} (hok : ∀ args K, sp args K → ∃ r, CallOk C f args r ∧ K r) {c : Call} {fop : Operand} {caps : List RV} {o : Oper} {st : St} {K : List Loc → List (Loc × Cont) → Prop} (ho : o.op = .call c) (hc : c.callee = .value fop) (hf : ev st fop = .r (.fn f caps)) (h : callT C sp c fop caps o st K) :
    ∃ l outs, K l outs ∧ LStep C o st.n (l.map fun x => (x, st.get x)) outs := by
  unfold callT at h
  obtain ⟨l, ys, h1, hlen, hbor⟩ := lendAs_ok h
  obtain ⟨r, hr, hin, hfl, h2⟩ := hok _ _ h1
  have key : ∃ outs, K (rd (fop :: c.args.toList) ++ l) outs ∧ (match o.dst with | some d => d < st.n ∧ outs = [(.T d, .a r)] | none => outs = []) := by
    revert h2
    cases o.dst with
    | none => intro h2; exact ⟨_, h2, rfl⟩
    | some d => intro h2; exact ⟨_, h2.2, h2.1, rfl⟩
  obtain ⟨outs, hK, hdst⟩ := key
  refine ⟨_, outs, hK, ?_⟩
  intro e st' a w next Q hn hS ha hnext
  obtain ⟨hG, hgs⟩ := G_of hS
  obtain ⟨heok, g, hs⟩ := hS
  replace ha := Agree_of.1 ha
  obtain ⟨vs, hv, hpw⟩ := args_ok hs ha.left hf rfl
  have fin : ∀ v w', Ext w (fun _ => False) w' (fun _ => False) → AR st'.cur g w' (e.N st' g) r v → next (a.put o.dst v) w' := by
    intro v w' hx hav
    obtain ⟨hs', _⟩ := hs.grow hx
    refine hnext _ _ ⟨heok, g, ?_⟩
    revert hdst
    cases o.dst with
    | none => intro hd; subst hd; exact hs'
    | some d => rintro ⟨hd, rfl⟩; exact hs'.put (by rw [hn]; exact hd) hav
  have run : ∀ nx w', (callFunc f (c.args.map a.eval ++ vs)).run C.P w = .ok nx w' → (execOp a.eval o).run C.P w = .ok nx w' := by
    intro nx w' hq
    simp [execOp, ho, resolve, hc, Deferred.ofValue, hv, invoke, hq]
  have main : ∀ (av : Nat → Prop), (∀ b, av b → b < w.heap.size) → (∀ w' v, (∀ cur' g', AR cur' g' w' av r v) → AR st'.cur g w' (e.N st' g) r v) → (∃ cur1 g1, PW cur1 g1 w av ys (c.args.map a.eval ++ vs)) → o.wp C.P a w next Q := by
    rintro av hav hback ⟨cur1, g1, hpw'⟩
    rcases hr cur1 g1 w av _ hG hgs hav hpw' with ⟨v, w', k1, k2, k3⟩ | ⟨k1, k2⟩
    · exact upon_val (run _ _ k1) (fin v w' k2 (hback w' v k3))
    · refine upon_enter (run _ _ k1) (k2.mono ?_)
      rintro x w' ⟨v, rfl, hx, hav'⟩
      exact ⟨v, rfl, fin v w' hx (hback w' v hav')⟩
  cases l with
  | nil =>
    refine main (e.N st' g) (fun b hb => hb.elim (fun h => by have := heok.av b h; have := hs.ext.size; omega) (fun ⟨k, h⟩ => (hs.low k b h).2.1)) (fun w' v hq => hq _ _) ⟨st'.cur, g, by rw [hlen]; exact hpw.1, fun j x y hx hy => ?_⟩
    have hj : j < (c.args.toList.map (ev st) ++ caps.map AV.r).length := by rw [← hlen]; exact (List.getElem?_eq_some_iff.1 hx).1
    have hj' := List.getElem?_eq_getElem hj
    exact Bor_nil (hbor j _ x hj' hx) (hpw.2 j _ y hj' hy)
  | cons k0 l0 =>
    refine main (fun _ => False) (fun b hb => hb.elim) (fun w' v hq => AR_flat (hq (fun _ => 0) (fun _ => undef)) (by simpa using hfl)) ⟨fun _ => 0, fun _ => undef, by rw [hlen]; exact hpw.1, fun j x y hx hy => ?_⟩
    have hj : j < (c.args.toList.map (ev st) ++ caps.map AV.r).length := by rw [← hlen]; exact (List.getElem?_eq_some_iff.1 hx).1
    have hj' := List.getElem?_eq_getElem hj
    exact Bor_ok (hbor j _ x hj' hx) hs ha.right (hpw.2 j _ y hj' hy) _ _

end Go.Proofs.YtjbhpoolghfhiaaDoor
