/- The operations that cut, make and append do what is told of them. No condition: plain lemmas. -/
import Derived.Test.YtjbhpoolghfhiaaDoorAv12
namespace Go.Proofs.YtjbhpoolghfhiaaDoor
set_option linter.unusedVariables false
set_option linter.unusedSimpArgs false
set_option maxHeartbeats 10000000
open Go

section
variable {C : Ctx}

theorem bound_ok {st : St} {x : Option Operand} {dflt : Int} {K : Int → Prop} (h : boundAV st x dflt K) : ∃ n, K n ∧ ((x = none ∧ n = dflt) ∨ ∃ o k, x = some o ∧ ev st o = .r (.v (.int k n))) := by
  unfold boundAV at h
  cases x with
  | none => exact ⟨dflt, h, .inl ⟨rfl, rfl⟩⟩
  | some o =>
    dsimp only at h
    split at h
    · rename_i k n hn; exact ⟨n, h, .inr ⟨o, k, rfl, hn⟩⟩
    · exact h.elim

theorem run_bounds {P : Program} (b : Bool) (len cap : Nat) (w : World) (lo hi : Option Value) (l h : Int) (hlo : (lo = none ∧ l = 0) ∨ ∃ k, lo = some (.int k l)) (hhi : (hi = none ∧ h = len) ∨ ∃ k, hi = some (.int k h))
    (h0 : 0 ≤ l) (h1 : l ≤ h) (h2 : h ≤ cap) : (Instr.sliceBounds b len cap lo hi none).run P w = .ok (l.toNat, h.toNat, cap) w := by
  have h3 : 0 ≤ h := by omega
  have hh : (match hi with | some v => Instr.sliceBound v cap (if b then .sliceAcap else .sliceAlen) | none => pure len : Sem Nat).run P w = .ok h.toNat w := by
    rcases hhi with ⟨rfl, rfl⟩ | ⟨k, rfl⟩
    · simp
    · simp [Instr.sliceBound, asIntOf, h3, h2]
  have hl : (match lo with | some v => Instr.sliceBound v h.toNat .sliceB | none => pure 0 : Sem Nat).run P w = .ok l.toNat w := by
    rcases hlo with ⟨rfl, rfl⟩ | ⟨k, rfl⟩
    · simp
    · have : l ≤ (h.toNat : Int) := by omega
      simp [Instr.sliceBound, asIntOf, h0, this]
      omega
  unfold Instr.sliceBounds
  cases hi with
  | none =>
    simp only [Sem.run_bind, Sem.run_pure, Result.andThen_ok, Option.isSome_none, Bool.false_eq_true, if_false] at hh ⊢
    simp only [Sem.run_pure, Result.ok.injEq, and_true] at hh
    rw [hh]
    cases lo with
    | none => simp at hl ⊢; omega
    | some v => simp only [Sem.run_bind, Sem.run_pure] at hl ⊢; rw [hl]; rfl
  | some u =>
    simp only [Sem.run_bind, Sem.run_pure, Result.andThen_ok, Option.isSome_none, Bool.false_eq_true, if_false] at hh ⊢
    rw [hh]
    simp only [Result.andThen_ok]
    cases lo with
    | none => simp at hl ⊢; omega
    | some v => simp only [Sem.run_bind, Sem.run_pure] at hl ⊢; rw [hl]; rfl

theorem opval {e : Env} {st st' : St} {g : Gh} {a : Act} {w : World} (hs : SR C e st' g a w) {l : List Operand} (ha : Ag (rd l) st st') {x : Option Operand} {n dflt : Int} (hx : ∀ o, x = some o → o ∈ l)
    (h : (x = none ∧ n = dflt) ∨ ∃ o k, x = some o ∧ ev st o = .r (.v (.int k n))) : (x.map a.eval = none ∧ n = dflt) ∨ ∃ k, x.map a.eval = some (.int k n) := by
  rcases h with ⟨rfl, rfl⟩ | ⟨o, k, rfl, ho⟩
  · exact .inl ⟨rfl, rfl⟩
  · have := arg hs ha (hx o rfl)
    rw [ho] at this
    exact .inr ⟨k, by simp [inv_v this]⟩

theorem rs_cut {cur : Nat → Nat} {g : Gh} {w : World} {N : Nat → Prop} {sz : Nat} {rows : List (List RV)} {v : Value} (h : AR cur g w N (.r (.rs sz rows)) v) (l n : Nat) (hl : l ≤ n) (hn : n ≤ rows.length) :
    ∃ o c, v = .slice o rows.length c ∧ rows.length ≤ c ∧ AR cur g w N (.r (.rs sz ((rows.take n).drop l))) (.slice (if c = l then o else o.map (·.add (l * sz))) (n - l) (c - l)) := by
  cases h with | r h => cases h with
    | nil =>
      refine ⟨none, 0, rfl, Nat.le_refl _, ?_⟩
      simp at hn; subst hn; simp at hl; subst hl
      exact .r (.nil sz)
    | rs _ _ a cap c hb hcap hw hc hr =>
      refine ⟨some a, cap, rfl, hcap, ?_⟩
      have hlen : ((rows.take n).drop l).length = n - l := by simp; omega
      have hget : ∀ i, ((rows.take n).drop l)[i]? = if l + i < n then rows[l + i]? else none := fun i => by
        rw [List.getElem?_drop, List.getElem?_take]
      have hmem : ∀ row ∈ (rows.take n).drop l, row ∈ rows := fun row hrow => List.mem_of_mem_take (List.mem_of_mem_drop hrow)
      have key : ∀ (a' : Addr), ((rows.take n).drop l ≠ [] → a'.block = a.block ∧ a'.off = a.off + l * sz ∧ a'.spot = none) →
          AR cur g w N (.r (.rs sz ((rows.take n).drop l))) (.slice (some a') ((rows.take n).drop l).length (cap - l)) := fun a' ha' => by
        refine .r (.rs sz _ a' (cap - l) (fun i j => c (l + i) j) (fun hne => ?_) (by rw [hlen]; omega) (fun row hrow => hw row (hmem row hrow)) (fun i j hi hj => ?_) (fun i j row x hi hx => ?_))
        · have hne' : rows ≠ [] := by intro e; simp [e] at hne
          obtain ⟨q1, q2, q3⟩ := hb hne'
          obtain ⟨r1, r2, r3⟩ := ha' hne
          exact ⟨by rw [r1]; exact q1, by rw [r1]; exact q2, r3⟩
        · have hne : (rows.take n).drop l ≠ [] := by intro e; simp [e] at hi
          obtain ⟨r1, r2, r3⟩ := ha' hne
          rw [hlen] at hi
          have := hc (l + i) j (by omega) hj
          rw [r1, r2, ← this]
          congr 2
          rw [Nat.add_mul]; omega
        · rw [hget] at hi
          split at hi
          · exact hr (l + i) j row x hi hx
          · cases hi
      rw [hlen] at key
      by_cases hcl : cap = l
      · rw [if_pos hcl]
        refine key a (fun hne => ?_)
        have : n - l = 0 := by omega
        exact absurd (List.length_eq_zero_iff.1 (hlen.trans this)) hne
      · rw [if_neg hcl]
        refine key _ (fun hne => ?_)
        have hne' : rows ≠ [] := by intro e; simp [e] at hne
        have e1 := addr_add a.block a.off (l * sz)
        rw [← addr_eta (hb hne').2.2] at e1
        show (a.add (l * sz)).block = _ ∧ (a.add (l * sz)).off = _ ∧ (a.add (l * sz)).spot = _
        rw [e1]; exact ⟨rfl, rfl, rfl⟩

theorem sliceK_ok {st : St} {d t : Nat} {x : Operand} {lo hi : Option Operand} {o : Oper} {K : List Loc → List (Loc × Cont) → Prop} (hdst : o.dst = some d) (ho : o.op = .slice t x lo hi none) (hd : d < st.n)
    (h : sliceK C.P st t (ev st x) lo hi fun l outs r => K (l ++ rd (x :: (lo.toList ++ hi.toList))) (outs ++ [(.T d, .a r)])) :
    ∃ l outs, K l outs ∧ LStep C o st.n (l.map fun x => (x, st.get x)) outs := by
  have mlo : ∀ y, lo = some y → y ∈ x :: (lo.toList ++ hi.toList) := fun y hy => by simp [hy]
  have mhi : ∀ y, hi = some y → y ∈ x :: (lo.toList ++ hi.toList) := fun y hy => by simp [hy]
  unfold sliceK at h
  split at h
  · rename_i sz rows hxe
    split at h
    · rename_i el hel
      obtain ⟨rfl, hk, h⟩ := h
      obtain ⟨l, h, hl⟩ := bound_ok h
      obtain ⟨m, h, hm⟩ := bound_ok h
      obtain ⟨h0, h1, h2, h⟩ := h
      refine ⟨_, _, h, LStep_val hdst hd fun e st' g a w hs ha => ?_⟩
      replace ha := (Agree_of.1 ha).right
      have hx := arg hs ha (x := x) (by simp)
      rw [hxe] at hx
      obtain ⟨ob, c, hv, hc, hcut⟩ := rs_cut hx l.toNat m.toNat (by omega) (by omega)
      refine ⟨_, w, ?_, rfl, rfl, rfl, rfl, hcut⟩
      have hb := run_bounds (P := C.P) true rows.length c w (lo.map a.eval) (hi.map a.eval) l m (opval hs ha mlo hl) (opval hs ha mhi hm) h0 h1 (by omega)
      have hu := elem_of hel
      simp only [execOp, ho, Option.map_none, Sem.run_bind, Instr.sliceAt, run_underlying hu, Result.andThen_ok, hv, Instr.slice, hb, run_sizeOf' hk, Sem.run_pure]
    · exact h.elim
  · rename_i s hxe
    obtain ⟨ht, h⟩ := h
    obtain ⟨l, h, hl⟩ := bound_ok h
    obtain ⟨m, h, hm⟩ := bound_ok h
    obtain ⟨h0, h1, h2, h⟩ := h
    refine ⟨_, _, h, LStep_val hdst hd fun e st' g a w hs ha => ?_⟩
    replace ha := (Agree_of.1 ha).right
    have hx := arg hs ha (x := x) (by simp)
    rw [hxe] at hx
    refine ⟨_, w, ?_, rfl, rfl, rfl, rfl, .r (.v _)⟩
    have hb := run_bounds (P := C.P) false s.size s.size w (lo.map a.eval) (hi.map a.eval) l m (opval hs ha mlo hl) (opval hs ha mhi hm) h0 h1 (by omega)
    have hu := stringT_of ht
    simp only [execOp, ho, Option.map_none, Sem.run_bind, Instr.sliceAt, run_underlying hu, Result.andThen_ok, inv_v hx, Instr.slice, hb, Option.isSome_none, Bool.false_eq_true, if_false, Sem.run_pure]
  · rename_i k ver hxe
    split at h
    · rename_i cv el sz rows el' hk hel
      obtain ⟨rfl, hkn, h⟩ := h
      obtain ⟨m, h, hm⟩ := bound_ok h
      obtain ⟨h0, h1, h⟩ := h
      refine ⟨_, _, h, fun e st' a w next Q hn ⟨heok, g, hs⟩ ha hnext => ?_⟩
      have ha0 := Agree_of.1 ha
      have hk' := (ha0.R (k := k) (by simp)).trans hk
      replace ha := ha0.right
      have hx := arg hs ha (x := x) (by simp)
      rw [hxe] at hx
      have hv := inv_os hx (curk k hk').symm
      obtain ⟨xs, hown, hw, har⟩ := sl_cells hs hk'
      obtain ⟨ob, c, hg, hnil, hc⟩ := sl_len hs hk'
      have hu := elem_of hel
      have hb := run_bounds (P := C.P) true rows.length c w none (hi.map a.eval) 0 m (.inl ⟨rfl, rfl⟩) (opval hs ha mhi hm) (by omega) h0 (by omega)
      have hob : (if c = 0 then ob else ob.map (·.add (0 * sizeT C.P el'))) = ob := by
        split
        · rfl
        · cases ob <;> simp [Addr.add]
      have hr : (execOp a.eval o).run C.P w = .ok (.value (.slice ob m.toNat c)) w := by
        simp only [execOp, ho, Option.map_none, Sem.run_bind, Instr.sliceAt, run_underlying hu, Result.andThen_ok, hv, hg, Instr.slice, hb, run_sizeOf' hkn, Sem.run_pure, Int.toNat_zero, Nat.sub_zero, hob]
      have hmn : m.toNat ≤ rows.length := by omega
      have hvv : hblock (.slice ob m.toNat c) = hblock (g k) := by rw [hg]; cases ob <;> rfl
      have key := (hs.turn (w' := w) k (ver + 1) (.sl el sz (rows.take m.toNat)) (.slice ob m.toNat c) rfl rfl rfl (Nat.le_refl _) (fun _ _ _ => rfl) (.inl (by rw [curk k hk']; omega))
        (fun b hne hb => by
          have hbk : blk st' g k = some b := by simp only [blk, hk']; rw [← hvv]; exact hb
          exact ⟨(hs.low k b hbk).2.1, .inl hbk⟩) heok
        (fun st'' g' hst hg' hl => by
          refine ⟨xs.take (m.toNat * sz), ⟨?_, ?_⟩, fun row hrow => hw row (List.mem_of_mem_take hrow), fun i j row y u hi2 hj hu2 => ?_⟩
          · have hle := Nat.mul_le_mul_right sz hmn
            rw [List.length_take, List.length_take, hown.1, Nat.min_eq_left hle, Nat.min_eq_left hmn]
          · rw [hg']; simp only [gput, if_true, List.length_take, Nat.min_eq_left hmn]
            rcases hown.2 with ⟨h4, h5⟩ | ⟨b, cap, cu, hv', hb0, hh, hnc, hcm, hcs, ht⟩
            · left
              rw [hg] at h4; simp at h4
              have : m.toNat = 0 := by omega
              rw [h4.1, h4.2.2, this]; simp
            · right
              rw [hg] at hv'; simp at hv'
              obtain ⟨rfl, rfl⟩ := hv'
              refine ⟨b, c, cu, rfl, hb0, hh, by omega, hcm, hcs, ?_⟩
              rw [← ht, List.take_take]; congr 1
              have hle := Nat.mul_le_mul_right sz hmn
              omega
          · rw [List.getElem?_take] at hi2
            split at hi2
            · rw [List.getElem?_take] at hu2
              split at hu2
              · exact hl _ _ (har i j row y u hi2 hj hu2)
              · cases hu2
            · cases hi2)).1
      refine wp_val hdst hr (hnext _ _ ⟨heok, _, key.put (d := d) (v := .slice ob m.toNat c) (by show d < st'.n; omega) (.os k (ver + 1) _ rfl (.inr ⟨by simp [St.cur, lookR_put], by simp [gput]⟩))⟩)
    · exact h.elim
  · exact h.elim

theorem makeFunc_ok {st : St} {d f : Nat} {first captured : Array Operand} {o : Oper} {K : List Loc → List (Loc × Cont) → Prop} (hdst : o.dst = some d) (ho : o.op = .makeFunc (.func f) first captured) (hd : d < st.n)
    (h : first.toList = [] ∧ roK (captured.toList.map (ev st)) fun caps => K (rd captured.toList) [(.T d, .a (.r (.fn f caps)))]) :
    ∃ l outs, K l outs ∧ LStep C o st.n (l.map fun x => (x, st.get x)) outs := by
  obtain ⟨hf, h⟩ := h
  have hro : ∀ (l : List AV) (K : List RV → Prop), roK l K → ∃ r, K r ∧ l = r.map .r := by
    intro l
    induction l with
    | nil => intro K h; exact ⟨[], h, rfl⟩
    | cons x l ih =>
      intro K h
      unfold roK at h
      split at h
      · simp_all
      · rename_i he
        simp only [List.cons.injEq] at he
        obtain ⟨rfl, rfl⟩ := he
        obtain ⟨r, h1, h2⟩ := ih _ h
        exact ⟨_, h1, by rw [h2]; rfl⟩
      · exact h.elim
  obtain ⟨caps, hK, hcaps⟩ := hro _ _ h
  refine ⟨_, _, hK, LStep_val hdst hd fun e st' g a w hs ha => ?_⟩
  replace ha := Agree_of.1 ha
  have hf' : first = #[] := arr1 hf
  refine ⟨_, w, by simp [execOp, ho, Instr.makeFunc, hf']; rfl, rfl, rfl, rfl, rfl, .r (.fn _ _ _ ?_ (fun j x y hx hy => ?_))⟩
  · have := congrArg List.length hcaps; simpa using this
  · rw [Array.getElem?_map] at hy
    cases hj : captured[j]? with
    | none => simp [hj] at hy
    | some z =>
      simp [hj] at hy
      subst hy
      have hj' : captured.toList[j]? = some z := by simpa using hj
      have h1 := arg hs ha (x := z) (List.mem_of_getElem? hj')
      have h2 : (captured.toList.map (ev st))[j]? = some (ev st z) := by simp only [List.getElem?_map, hj', Option.map_some]
      rw [hcaps, List.getElem?_map, hx] at h2
      simp at h2
      rw [← h2] at h1
      cases h1 with | r h1 => exact h1

theorem makeMap_ok {st : St} {d t : Nat} {o : Oper} {K : List Loc → List (Loc × Cont) → Prop} (hdst : o.dst = some d) (ho : o.op = .makeMap t none) (hd : d < st.n)
    (h : K [.R d] [(.R d, .s (st.cur d + 1) (.mp (fun _ => none) 0)), (.T d, .a (.os d (st.cur d + 1)))]) :
    ∃ l outs, K l outs ∧ LStep C o st.n (l.map fun x => (x, st.get x)) outs := by
  refine ⟨_, _, h, fun e st' a w next Q hn ⟨heok, g, hs⟩ ha hnext => ?_⟩
  replace ha := Agree_of.1 ha
  have hcur : st'.cur d = st.cur d := by simp [St.cur, ha.R (k := d) (by simp)]
  have hr : (execOp a.eval o).run C.P w = .ok (.value (.map (some w.heap.size))) (w.alloc (.map #[] 0)) := by
    simp [execOp, ho, Instr.makeMap]
  have key := hs.fresh heok (d := d) (by omega) (.map #[] 0) (.mp (fun _ => none) 0) (.map (some w.heap.size)) rfl rfl (fun cur g' N hg hl =>
    ⟨w.heap.size, #[], 0, hg, heap_new w _, rfl, fun k x => by simp, by simp⟩)
  rw [hcur] at key
  exact wp_val hdst hr (hnext _ _ ⟨heok, _, key⟩)

theorem makeSlice_ok {st : St} {d t : Nat} {l c : Operand} {o : Oper} {K : List Loc → List (Loc × Cont) → Prop} (hdst : o.dst = some d) (ho : o.op = .makeSlice t l c) (hd : d < st.n) {el : Nat} {n m : Int} (hel : elemT C.P t = some el)
    (hl : ev st l = .r (.v (.int .i64 n))) (hc : ev st c = .r (.v (.int .i64 m)))
    (h : knownT C.P el = true ∧ 0 < sizeT C.P el ∧ 0 ≤ n ∧ n ≤ m ∧ m ≤ 9223372036854775807 ∧ bytesT C.P el * m ≤ 281474976710656 ∧ zeroCellsT C.P el fun z => z.length = sizeT C.P el ∧ okCells z = true ∧
          K (.R d :: rd [l, c]) [(.R d, .s (st.cur d + 1) (.sl el (sizeT C.P el) (List.replicate n.toNat z))), (.T d, .a (.os d (st.cur d + 1)))]) :
    ∃ l outs, K l outs ∧ LStep C o st.n (l.map fun x => (x, st.get x)) outs := by
  obtain ⟨hk, h0, hn0, hnm, hm, hby, h⟩ := h
  obtain ⟨z, hz, ⟨hzl, hzo, hK⟩, hzr⟩ := zeroK_ok h
  obtain ⟨z', i, hi, hzi⟩ := run_zero (P := C.P) (t := el) (by simp [hz])
  have hzz : z' = z := by simp [zeroT, hi] at hz; rw [hz] at hzi; simpa using hzi.symm
  subst hzz
  have hsz : i.size = sizeT C.P el := by simp [sizeT, hi]
  have hbt : i.bytes = bytesT C.P el := by simp [bytesT, hi]
  refine ⟨_, _, hK, fun e st' a w next Q hn ⟨heok, g, hs⟩ ha hnext => ?_⟩
  replace ha := Agree_of.1 ha
  have hcur : st'.cur d = st.cur d := by simp [St.cur, ha.R (k := d) (by simp)]
  have ha2 : Ag (rd [l, c]) st st' := fun y hy => ha y (List.mem_cons_of_mem _ hy)
  have e1 := arg hs ha2 (x := l) (by simp)
  have e2 := arg hs ha2 (x := c) (by simp)
  rw [hl] at e1; rw [hc] at e2
  have hr : (execOp a.eval o).run C.P w = .ok (.value (.slice (some ⟨w.heap.size, 0, none⟩) n.toNat m.toNat)) (w.alloc (.cells (madeCells z'.cells (m.toNat * i.size)) el)) := by
    have := run_make (P := C.P) w t el i z' (elem_of hel) hi hzi .i64 .i64 n m hn0 hnm (by rw [hbt]; exact hby) hm
    simp only [execOp, ho, inv_v e1, inv_v e2, Sem.run_bind, this, Result.andThen_ok, Sem.run_pure]
  have hzs : z'.cells.size = sizeT C.P el := by simpa using hzl
  have hmc : ∀ p, p < m.toNat * i.size → (madeCells z'.cells (m.toNat * i.size))[p]? = z'.cells[p % sizeT C.P el]? := fun p hp => by
    have hlt : p % z'.cells.size < z'.cells.size := Nat.mod_lt _ (by omega)
    simp only [madeCells, Array.getElem?_map, Array.getElem?_range, hp, if_true, Option.map_some]
    rw [hzs] at hlt
    rw [hzs, Array.getElem?_eq_getElem (by omega)]
    simp [hzs, hlt]
  have key := hs.fresh heok (d := d) (by omega) (.cells (madeCells z'.cells (m.toNat * i.size)) el) (.sl el (sizeT C.P el) (List.replicate n.toNat (z'.cells.toList.map fun v => .r (.v v)))) (.slice (some ⟨w.heap.size, 0, none⟩) n.toNat m.toNat) rfl rfl (fun cur g' N hg hl => by
    refine ⟨(madeCells z'.cells (m.toNat * i.size)).toList.take (n.toNat * sizeT C.P el), ⟨?_, .inr ⟨w.heap.size, m.toNat, _, ?_, Nat.zero_le _, heap_new w _, ?_, ?_, ?_, ?_⟩⟩, ?_, ?_⟩
    · have hle : n.toNat * sizeT C.P el ≤ m.toNat * sizeT C.P el := Nat.mul_le_mul_right _ (by omega)
      have hms : (madeCells z'.cells (m.toNat * i.size)).toList.length = m.toNat * sizeT C.P el := by simp [madeCells, hsz]
      rw [List.length_take, hms, List.length_replicate, Nat.min_eq_left hle]
    · rw [hg, List.length_replicate]
    · rw [List.length_replicate]; omega
    · unfold maxLen; omega
    · simp [madeCells, hsz]
    · rw [List.length_replicate]
    · intro row hrow
      rw [(List.mem_replicate.1 hrow).2]; exact hzl
    · intro i2 j row x y hrow hj hy
      rw [List.getElem?_replicate] at hrow
      split at hrow
      · rename_i hlt
        simp at hrow
        subst hrow
        rw [List.getElem?_take] at hy
        split at hy
        · rename_i hlt2
          have hle : n.toNat * sizeT C.P el ≤ m.toNat * sizeT C.P el := Nat.mul_le_mul_right _ (by omega)
          rw [Array.getElem?_toList, hmc _ (by rw [hsz]; omega)] at hy
          have hjs : j < sizeT C.P el := by rw [← hzl]; exact (List.getElem?_eq_some_iff.1 hj).1
          have hmod : (i2 * sizeT C.P el + j) % sizeT C.P el = j := by
            rw [Nat.add_comm, Nat.add_mul_mod_self_right, Nat.mod_eq_of_lt hjs]
          rw [hmod] at hy
          rw [List.getElem?_map] at hj
          have : z'.cells.toList[j]? = some y := by simpa using hy
          rw [this] at hj
          simp at hj
          subst hj
          exact .r (.v y)
        · cases hy
      · cases hrow)
  rw [hcur] at key
  exact wp_val hdst hr (hnext _ _ ⟨heok, _, key⟩)

end

end Go.Proofs.YtjbhpoolghfhiaaDoor
