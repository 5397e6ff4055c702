/- The operations that make slices do what is told of them. No condition: plain lemmas. -/
import Derived.Test.YtjbhpoolghfhiaaDoorAvB
import Derived.Laws.OwnMore
import Derived.Laws.MakeOwn
import Derived.Laws.Externs
namespace Go.Proofs.YtjbhpoolghfhiaaDoor
set_option linter.unusedVariables false
set_option linter.unusedSimpArgs false
set_option maxHeartbeats 10000000
open Go

section
variable {C : Ctx}

theorem fillRows (sz : Nat) : ∀ (l : List (Nat × Value)) (k : Nat) (xs : Array Value), (∀ (i : Nat) (p : Nat × Value), l[i]? = some p → p.1 = k + i ∧ p.2.cells.size = sz) → (k + l.length) * sz ≤ xs.size →
    ∃ ys, Instr.fill (fun i => some (i * sz, sz)) xs l = some ys ∧ ys.size = xs.size ∧ (∀ p, p < k * sz → ys[p]? = xs[p]?) ∧
      ∀ (i : Nat) (p : Nat × Value), l[i]? = some p → ∀ j, j < sz → ys[(k + i) * sz + j]? = p.2.cells[j]?
  | [], k, xs, _, _ => ⟨xs, rfl, rfl, fun _ _ => rfl, fun i p h => by simp at h⟩
  | (i0, v) :: l, k, xs, h, hs => by
    obtain ⟨e1, e2⟩ := h 0 _ rfl
    simp only [Nat.add_zero] at e1
    subst e1
    have hs' : i0 * sz + sz + l.length * sz ≤ xs.size := by
      have : (i0 + (l.length + 1)) * sz = i0 * sz + sz + l.length * sz := by rw [Nat.add_mul, Nat.succ_mul]; omega
      simp only [List.length_cons] at hs; omega
    obtain ⟨z1, z2⟩ := fold_set v.cells (i0 * sz) xs (by rw [e2]; omega)
    obtain ⟨ys, y1, y2, y3, y4⟩ := fillRows sz l (i0 + 1) (v.cells.zipIdx.foldl (fun cs (c, j) => cs.setIfInBounds (i0 * sz + j) c) xs) (fun i p hp => by
      have := h (i + 1) p (by simpa using hp)
      exact ⟨by omega, this.2⟩) (by rw [z1, Nat.add_mul, Nat.succ_mul]; omega)
    refine ⟨ys, ?_, by rw [y2, z1], fun p hp => ?_, fun i p hp j hj => ?_⟩
    · simp only [Instr.fill]
      rw [if_neg (by dsimp only at e2; simp [e2]; omega)]
      exact y1
    · rw [y3 p (by rw [Nat.succ_mul]; omega), z2, if_neg (by omega)]
    · cases i with
      | zero =>
        simp at hp
        subst hp
        rw [Nat.add_zero, y3 _ (by rw [Nat.succ_mul]; omega), z2, if_pos (by rw [e2]; omega)]
        congr 1; omega
      | succ i =>
        have := y4 i p (by simpa using hp) j hj
        rw [← this]; congr 3; omega

theorem rowsK_ok {sz : Nat} : ∀ {l : List AV} {K : List (List AV) → Prop}, rowsK sz l K → K (l.map avCells) ∧ ∀ x ∈ l, okCells (avCells x) = true ∧ (avCells x).length = sz
  | [], K, h => ⟨h, by simp⟩
  | x :: l, K, h => by
    obtain ⟨h1, h2, h3⟩ := h
    obtain ⟨h4, h5⟩ := rowsK_ok h3
    exact ⟨h4, fun y hy => by rcases List.mem_cons.1 hy with rfl | hy; exact ⟨h1, h2⟩; exact h5 y hy⟩

theorem wrapT {n m : Nat} (h : n * m ≤ 16777216) : ¬ (n * m > 2 ^ 24) := by omega

theorem run_zero {P : Program} {t : Nat} (h : (zeroT P t).isSome = true) : ∃ z i, P.info? t = some i ∧ i.zero = some z := by
  obtain ⟨z, hz⟩ := Option.isSome_iff_exists.1 h
  unfold zeroT at hz
  split at hz
  · rename_i i hi; exact ⟨z, i, hi, hz⟩
  · cases hz

theorem buildSlice_ok {st : St} {d t len : Nat} {parts : Array (Nat × Operand)} {o : Oper} {K : List Loc → List (Loc × Cont) → Prop} (hdst : o.dst = some d) (ho : o.op = .buildSlice t len parts) (hd : d < st.n) {el : Nat} (hel : elemT C.P t = some el)
    (h : knownT C.P el = true ∧ 0 < sizeT C.P el ∧ (zeroT C.P el).isSome = true ∧ len * sizeT C.P el ≤ 16777216 ∧ parts.toList.map (·.1) = List.range len ∧ rowsK (sizeT C.P el) (parts.toList.map fun p => ev st p.2) fun rows =>
          K (.R d :: rd (parts.toList.map (·.2))) [(.R d, .s (st.cur d + 1) (.sl el (sizeT C.P el) rows)), (.T d, .a (.os d (st.cur d + 1)))]) :
    ∃ l outs, K l outs ∧ LStep C o st.n (l.map fun x => (x, st.get x)) outs := by
  obtain ⟨hk, h0, hz, hlen, hidx, hrows⟩ := h
  obtain ⟨hK, hr1⟩ := rowsK_ok hrows
  obtain ⟨z, i, hi, hzi⟩ := run_zero hz
  have hu := elem_of hel
  refine ⟨_, _, hK, fun e st' a w next Q hn ⟨heok, g, hs⟩ ha hnext => ?_⟩
  replace ha := Agree_of.1 ha
  have hcur : st'.cur d = st.cur d := by simp [St.cur, ha.R (k := d) (by simp)]
  have ha2 : Ag (rd (parts.toList.map (·.2))) st st' := fun y hy => ha y (List.mem_cons_of_mem _ hy)
  have hpl : parts.toList.length = len := by have := congrArg List.length hidx; simpa using this
  have hpi : ∀ (j : Nat) (p : Nat × Operand), parts.toList[j]? = some p → p.1 = j := fun j p hp => by
    have h1 : (parts.toList.map (·.1))[j]? = some p.1 := by simp only [List.getElem?_map, hp, Option.map_some]
    rw [hidx] at h1
    have hj := (List.getElem?_eq_some_iff.1 hp).1
    rw [hpl] at hj
    simpa [hj] using h1.symm
  let vs : List (Nat × Value) := parts.toList.map fun p => (p.1, a.eval p.2)
  have hvs : ∀ (j : Nat) (q : Nat × Value), vs[j]? = some q → ∃ p, parts.toList[j]? = some p ∧ q = (p.1, a.eval p.2) := fun j q hq => by
    simp only [vs, List.getElem?_map] at hq
    cases hj : parts.toList[j]? with
    | none => simp [hj] at hq
    | some p => simp [hj] at hq; exact ⟨p, rfl, hq.symm⟩
  have hcells : ∀ (j : Nat) (p : Nat × Operand), parts.toList[j]? = some p → (a.eval p.2).cells.size = sizeT C.P el ∧ (∀ (q : Nat) (y : AV) (u : Value), (avCells (ev st p.2))[q]? = some y → (a.eval p.2).cells[q]? = some u → AR st'.cur g w (e.N st' g) y u) := fun j p hp => by
    have hm := List.mem_of_getElem? hp
    obtain ⟨o1, o2⟩ := hr1 (ev st p.2) (List.mem_map.2 ⟨p, hm, rfl⟩)
    have hx := arg hs ha2 (x := p.2) (List.mem_map.2 ⟨p, hm, rfl⟩)
    obtain ⟨c1, c2, _⟩ := AR_cells hx o1
    exact ⟨by omega, c2⟩
  let zc : Array Value := (Array.range (len * sizeT C.P el)).map fun q => ((if len * sizeT C.P el = 0 then #[] else z.cells) : Array Value)[q % ((if len * sizeT C.P el = 0 then #[] else z.cells) : Array Value).size]!
  obtain ⟨ys, y1, y2, _, y4⟩ := fillRows (sizeT C.P el) vs 0 zc (fun j q hq => by
    obtain ⟨p, hp, rfl⟩ := hvs j q hq
    exact ⟨by simp [hpi j p hp], (hcells j p hp).1⟩) (by simp [vs, zc, hpl])
  have hysz : ys.size = len * sizeT C.P el := by rw [y2]; simp [zc]
  have hr : (execOp a.eval o).run C.P w = .ok (.value (.slice (some ⟨w.heap.size, 0, none⟩) len len)) (w.alloc (.cells ys el)) := by
    have e1 : (parts.map fun (i, x) => (i, a.eval x)).toList = vs := by simp [vs]
    have hn24 : ¬ (16777216 < len * sizeT C.P el) := by omega
    have hsz : i.size = sizeT C.P el := by simp [sizeT, hi]
    have hfill := y1
    simp only [zc] at hfill
    by_cases h00 : len * sizeT C.P el = 0
    · simp only [h00, if_true] at hfill
      simp [execOp, ho, Instr.buildSlice, run_underlying hu, sizeOf, typeInfo, hi, hsz, h00, newRow, vs] at hfill ⊢
      simp [hfill]
    · simp only [h00, if_false] at hfill
      simp [execOp, ho, Instr.buildSlice, run_underlying hu, sizeOf, typeInfo, hi, hsz, h00, hn24, newRow, zeroValue, hzi, vs] at hfill ⊢
      simp [hfill]
  have key := hs.fresh heok (d := d) (by omega) (.cells ys el) (.sl el (sizeT C.P el) ((parts.toList.map fun p => ev st p.2).map avCells)) (.slice (some ⟨w.heap.size, 0, none⟩) len len) rfl rfl (fun cur g' N hg hl => by
    refine ⟨ys.toList, ?_, ?_, ?_⟩
    · rw [hg]
      have hm : len ≤ maxLen := by
        have : len ≤ len * sizeT C.P el := Nat.le_mul_of_pos_right _ h0
        unfold maxLen; omega
      have := World.ownsRow_lit (base := 0) (e := el) (size := sizeT C.P el) w ys len (Nat.zero_le _) hm hysz
      simpa [hpl] using this
    · intro row hrow
      simp only [List.mem_map] at hrow
      obtain ⟨x, ⟨p, hp, rfl⟩, rfl⟩ := hrow
      exact (hr1 _ (List.mem_map.2 ⟨p, hp, rfl⟩)).2
    · intro i2 j row x y hrow hj hy
      simp only [List.map_map, List.getElem?_map] at hrow
      cases hp : parts.toList[i2]? with
      | none => simp [hp] at hrow
      | some p =>
        simp [hp] at hrow
        subst hrow
        have hq : vs[i2]? = some (p.1, a.eval p.2) := by simp only [vs, List.getElem?_map, hp, Option.map_some]
        have hjs : j < sizeT C.P el := by
          rw [← (hr1 _ (List.mem_map.2 ⟨p, List.mem_of_getElem? hp, rfl⟩)).2]; exact (List.getElem?_eq_some_iff.1 hj).1
        have h3 := y4 i2 _ hq j hjs
        rw [Nat.zero_add] at h3
        rw [Array.getElem?_toList, h3] at hy
        exact hl _ _ ((hcells i2 p hp).2 j x y hj hy))
  rw [hcur] at key
  exact wp_val hdst hr (hnext _ _ ⟨heok, _, key⟩)

end

end Go.Proofs.YtjbhpoolghfhiaaDoor
namespace Go.Proofs.YtjbhpoolghfhiaaDoor
set_option linter.unusedVariables false
set_option linter.unusedSimpArgs false
set_option maxHeartbeats 10000000
open Go

section
variable {C : Ctx}

theorem bound_ok {st : St} {x : Option Operand} {dflt : Int} {K : Int → Prop} (h : boundAV st x dflt K) : ∃ n, K n ∧ ((x = none ∧ n = dflt) ∨ ∃ o k, x = some o ∧ ev st o = .r (.v (.int k n))) := by
  unfold boundAV at h
  cases x with
  | none => exact ⟨dflt, h, .inl ⟨rfl, rfl⟩⟩
  | some o =>
    dsimp only at h
    split at h
    · rename_i k n hn; exact ⟨n, h, .inr ⟨o, k, rfl, hn⟩⟩
    · exact h.elim

theorem run_bounds {P : Program} (b : Bool) (len cap : Nat) (w : World) (lo hi : Option Value) (l h : Int) (hlo : (lo = none ∧ l = 0) ∨ ∃ k, lo = some (.int k l)) (hhi : (hi = none ∧ h = len) ∨ ∃ k, hi = some (.int k h))
    (h0 : 0 ≤ l) (h1 : l ≤ h) (h2 : h ≤ cap) : (Instr.sliceBounds b len cap lo hi none).run P w = .ok (l.toNat, h.toNat, cap) w := by
  have h3 : 0 ≤ h := by omega
  have hh : (match hi with | some v => Instr.sliceBound v cap (if b then .sliceAcap else .sliceAlen) | none => pure len : Sem Nat).run P w = .ok h.toNat w := by
    rcases hhi with ⟨rfl, rfl⟩ | ⟨k, rfl⟩
    · simp
    · simp [Instr.sliceBound, asIntOf, h3, h2]
  have hl : (match lo with | some v => Instr.sliceBound v h.toNat .sliceB | none => pure 0 : Sem Nat).run P w = .ok l.toNat w := by
    rcases hlo with ⟨rfl, rfl⟩ | ⟨k, rfl⟩
    · simp
    · have : l ≤ (h.toNat : Int) := by omega
      simp [Instr.sliceBound, asIntOf, h0, this]
      omega
  unfold Instr.sliceBounds
  cases hi with
  | none =>
    simp only [Sem.run_bind, Sem.run_pure, Result.andThen_ok, Option.isSome_none, Bool.false_eq_true, if_false] at hh ⊢
    simp only [Sem.run_pure, Result.ok.injEq, and_true] at hh
    rw [hh]
    cases lo with
    | none => simp at hl ⊢; omega
    | some v => simp only [Sem.run_bind, Sem.run_pure] at hl ⊢; rw [hl]; rfl
  | some u =>
    simp only [Sem.run_bind, Sem.run_pure, Result.andThen_ok, Option.isSome_none, Bool.false_eq_true, if_false] at hh ⊢
    rw [hh]
    simp only [Result.andThen_ok]
    cases lo with
    | none => simp at hl ⊢; omega
    | some v => simp only [Sem.run_bind, Sem.run_pure] at hl ⊢; rw [hl]; rfl

theorem opval {e : Env} {st st' : St} {g : Gh} {a : Act} {w : World} (hs : SR C e st' g a w) {l : List Operand} (ha : Ag (rd l) st st') {x : Option Operand} {n dflt : Int} (hx : ∀ o, x = some o → o ∈ l)
    (h : (x = none ∧ n = dflt) ∨ ∃ o k, x = some o ∧ ev st o = .r (.v (.int k n))) : (x.map a.eval = none ∧ n = dflt) ∨ ∃ k, x.map a.eval = some (.int k n) := by
  rcases h with ⟨rfl, rfl⟩ | ⟨o, k, rfl, ho⟩
  · exact .inl ⟨rfl, rfl⟩
  · have := arg hs ha (hx o rfl)
    rw [ho] at this
    exact .inr ⟨k, by simp [inv_v this]⟩

theorem rs_cut {cur : Nat → Nat} {g : Gh} {w : World} {N : Nat → Prop} {sz : Nat} {rows : List (List RV)} {v : Value} (h : AR cur g w N (.r (.rs sz rows)) v) (l n : Nat) (hl : l ≤ n) (hn : n ≤ rows.length) :
    ∃ o c, v = .slice o rows.length c ∧ rows.length ≤ c ∧ AR cur g w N (.r (.rs sz ((rows.take n).drop l))) (.slice (if c = l then o else o.map (·.add (l * sz))) (n - l) (c - l)) := by
  cases h with | r h => cases h with
    | nil =>
      refine ⟨none, 0, rfl, Nat.le_refl _, ?_⟩
      simp at hn; subst hn; simp at hl; subst hl
      exact .r (.nil sz)
    | rs _ _ a cap c hb hcap hw hc hr =>
      refine ⟨some a, cap, rfl, hcap, ?_⟩
      have hlen : ((rows.take n).drop l).length = n - l := by simp; omega
      have hget : ∀ i, ((rows.take n).drop l)[i]? = if l + i < n then rows[l + i]? else none := fun i => by
        rw [List.getElem?_drop, List.getElem?_take]
      have hmem : ∀ row ∈ (rows.take n).drop l, row ∈ rows := fun row hrow => List.mem_of_mem_take (List.mem_of_mem_drop hrow)
      have key : ∀ (a' : Addr), ((rows.take n).drop l ≠ [] → a'.block = a.block ∧ a'.off = a.off + l * sz ∧ a'.spot = none) →
          AR cur g w N (.r (.rs sz ((rows.take n).drop l))) (.slice (some a') ((rows.take n).drop l).length (cap - l)) := fun a' ha' => by
        refine .r (.rs sz _ a' (cap - l) (fun i j => c (l + i) j) (fun hne => ?_) (by rw [hlen]; omega) (fun row hrow => hw row (hmem row hrow)) (fun i j hi hj => ?_) (fun i j row x hi hx => ?_))
        · have hne' : rows ≠ [] := by intro e; simp [e] at hne
          obtain ⟨q1, q2, q3⟩ := hb hne'
          obtain ⟨r1, r2, r3⟩ := ha' hne
          exact ⟨by rw [r1]; exact q1, by rw [r1]; exact q2, r3⟩
        · have hne : (rows.take n).drop l ≠ [] := by intro e; simp [e] at hi
          obtain ⟨r1, r2, r3⟩ := ha' hne
          rw [hlen] at hi
          have := hc (l + i) j (by omega) hj
          rw [r1, r2, ← this]
          congr 2
          rw [Nat.add_mul]; omega
        · rw [hget] at hi
          split at hi
          · exact hr (l + i) j row x hi hx
          · cases hi
      rw [hlen] at key
      by_cases hcl : cap = l
      · rw [if_pos hcl]
        refine key a (fun hne => ?_)
        have : n - l = 0 := by omega
        exact absurd (List.length_eq_zero_iff.1 (hlen.trans this)) hne
      · rw [if_neg hcl]
        refine key _ (fun hne => ?_)
        have hne' : rows ≠ [] := by intro e; simp [e] at hne
        have e1 := addr_add a.block a.off (l * sz)
        rw [← addr_eta (hb hne').2.2] at e1
        show (a.add (l * sz)).block = _ ∧ (a.add (l * sz)).off = _ ∧ (a.add (l * sz)).spot = _
        rw [e1]; exact ⟨rfl, rfl, rfl⟩

theorem sliceK_ok {st : St} {d t : Nat} {x : Operand} {lo hi : Option Operand} {o : Oper} {K : List Loc → List (Loc × Cont) → Prop} (hdst : o.dst = some d) (ho : o.op = .slice t x lo hi none) (hd : d < st.n)
    (h : sliceK C.P st t (ev st x) lo hi fun l outs r => K (l ++ rd (x :: (lo.toList ++ hi.toList))) (outs ++ [(.T d, .a r)])) :
    ∃ l outs, K l outs ∧ LStep C o st.n (l.map fun x => (x, st.get x)) outs := by
  have mlo : ∀ y, lo = some y → y ∈ x :: (lo.toList ++ hi.toList) := fun y hy => by simp [hy]
  have mhi : ∀ y, hi = some y → y ∈ x :: (lo.toList ++ hi.toList) := fun y hy => by simp [hy]
  unfold sliceK at h
  split at h
  · rename_i sz rows hxe
    split at h
    · rename_i el hel
      obtain ⟨rfl, hk, h⟩ := h
      obtain ⟨l, h, hl⟩ := bound_ok h
      obtain ⟨m, h, hm⟩ := bound_ok h
      obtain ⟨h0, h1, h2, h⟩ := h
      refine ⟨_, _, h, LStep_val hdst hd fun e st' g a w hs ha => ?_⟩
      replace ha := (Agree_of.1 ha).right
      have hx := arg hs ha (x := x) (by simp)
      rw [hxe] at hx
      obtain ⟨ob, c, hv, hc, hcut⟩ := rs_cut hx l.toNat m.toNat (by omega) (by omega)
      refine ⟨_, w, ?_, rfl, rfl, rfl, rfl, hcut⟩
      have hb := run_bounds (P := C.P) true rows.length c w (lo.map a.eval) (hi.map a.eval) l m (opval hs ha mlo hl) (opval hs ha mhi hm) h0 h1 (by omega)
      have hu := elem_of hel
      simp only [execOp, ho, Option.map_none, Sem.run_bind, Instr.sliceAt, run_underlying hu, Result.andThen_ok, hv, Instr.slice, hb, run_sizeOf' hk, Sem.run_pure]
    · exact h.elim
  · rename_i s hxe
    obtain ⟨ht, h⟩ := h
    obtain ⟨l, h, hl⟩ := bound_ok h
    obtain ⟨m, h, hm⟩ := bound_ok h
    obtain ⟨h0, h1, h2, h⟩ := h
    refine ⟨_, _, h, LStep_val hdst hd fun e st' g a w hs ha => ?_⟩
    replace ha := (Agree_of.1 ha).right
    have hx := arg hs ha (x := x) (by simp)
    rw [hxe] at hx
    refine ⟨_, w, ?_, rfl, rfl, rfl, rfl, .r (.v _)⟩
    have hb := run_bounds (P := C.P) false s.size s.size w (lo.map a.eval) (hi.map a.eval) l m (opval hs ha mlo hl) (opval hs ha mhi hm) h0 h1 (by omega)
    have hu := stringT_of ht
    simp only [execOp, ho, Option.map_none, Sem.run_bind, Instr.sliceAt, run_underlying hu, Result.andThen_ok, inv_v hx, Instr.slice, hb, Option.isSome_none, Bool.false_eq_true, if_false, Sem.run_pure]
  · rename_i k ver hxe
    split at h
    · rename_i cv el sz rows el' hk hel
      obtain ⟨rfl, hkn, h⟩ := h
      obtain ⟨m, h, hm⟩ := bound_ok h
      obtain ⟨h0, h1, h⟩ := h
      refine ⟨_, _, h, fun e st' a w next Q hn ⟨heok, g, hs⟩ ha hnext => ?_⟩
      have ha0 := Agree_of.1 ha
      have hk' := (ha0.R (k := k) (by simp)).trans hk
      replace ha := ha0.right
      have hx := arg hs ha (x := x) (by simp)
      rw [hxe] at hx
      have hv := inv_os hx (curk k hk').symm
      obtain ⟨xs, hown, hw, har⟩ := sl_cells hs hk'
      obtain ⟨ob, c, hg, hnil, hc⟩ := sl_len hs hk'
      have hu := elem_of hel
      have hb := run_bounds (P := C.P) true rows.length c w none (hi.map a.eval) 0 m (.inl ⟨rfl, rfl⟩) (opval hs ha mhi hm) (by omega) h0 (by omega)
      have hob : (if c = 0 then ob else ob.map (·.add (0 * sizeT C.P el'))) = ob := by
        split
        · rfl
        · cases ob <;> simp [Addr.add]
      have hr : (execOp a.eval o).run C.P w = .ok (.value (.slice ob m.toNat c)) w := by
        simp only [execOp, ho, Option.map_none, Sem.run_bind, Instr.sliceAt, run_underlying hu, Result.andThen_ok, hv, hg, Instr.slice, hb, run_sizeOf' hkn, Sem.run_pure, Int.toNat_zero, Nat.sub_zero, hob]
      have hmn : m.toNat ≤ rows.length := by omega
      have hvv : hblock (.slice ob m.toNat c) = hblock (g k) := by rw [hg]; cases ob <;> rfl
      have key := (hs.turn (w' := w) k (ver + 1) (.sl el sz (rows.take m.toNat)) (.slice ob m.toNat c) rfl rfl rfl (Nat.le_refl _) (fun _ _ _ => rfl) (.inl (by rw [curk k hk']; omega))
        (fun b hne hb => by
          have hbk : blk st' g k = some b := by simp only [blk, hk']; rw [← hvv]; exact hb
          exact ⟨(hs.low k b hbk).2.1, .inl hbk⟩) heok
        (fun st'' g' hst hg' hl => by
          refine ⟨xs.take (m.toNat * sz), ⟨?_, ?_⟩, fun row hrow => hw row (List.mem_of_mem_take hrow), fun i j row y u hi2 hj hu2 => ?_⟩
          · have hle := Nat.mul_le_mul_right sz hmn
            rw [List.length_take, List.length_take, hown.1, Nat.min_eq_left hle, Nat.min_eq_left hmn]
          · rw [hg']; simp only [gput, if_true, List.length_take, Nat.min_eq_left hmn]
            rcases hown.2 with ⟨h4, h5⟩ | ⟨b, cap, cu, hv', hb0, hh, hnc, hcm, hcs, ht⟩
            · left
              rw [hg] at h4; simp at h4
              have : m.toNat = 0 := by omega
              rw [h4.1, h4.2.2, this]; simp
            · right
              rw [hg] at hv'; simp at hv'
              obtain ⟨rfl, rfl⟩ := hv'
              refine ⟨b, c, cu, rfl, hb0, hh, by omega, hcm, hcs, ?_⟩
              rw [← ht, List.take_take]; congr 1
              have hle := Nat.mul_le_mul_right sz hmn
              omega
          · rw [List.getElem?_take] at hi2
            split at hi2
            · rw [List.getElem?_take] at hu2
              split at hu2
              · exact hl _ _ (har i j row y u hi2 hj hu2)
              · cases hu2
            · cases hi2)).1
      refine wp_val hdst hr (hnext _ _ ⟨heok, _, key.put (d := d) (v := .slice ob m.toNat c) (by show d < st'.n; omega) (.os k (ver + 1) _ rfl (.inr ⟨by simp [St.cur, lookR_put], by simp [gput]⟩))⟩)
    · exact h.elim
  · exact h.elim

theorem makeFunc_ok {st : St} {d f : Nat} {first captured : Array Operand} {o : Oper} {K : List Loc → List (Loc × Cont) → Prop} (hdst : o.dst = some d) (ho : o.op = .makeFunc (.func f) first captured) (hd : d < st.n)
    (h : first.toList = [] ∧ roK (captured.toList.map (ev st)) fun caps => K (rd captured.toList) [(.T d, .a (.r (.fn f caps)))]) :
    ∃ l outs, K l outs ∧ LStep C o st.n (l.map fun x => (x, st.get x)) outs := by
  obtain ⟨hf, h⟩ := h
  have hro : ∀ (l : List AV) (K : List RV → Prop), roK l K → ∃ r, K r ∧ l = r.map .r := by
    intro l
    induction l with
    | nil => intro K h; exact ⟨[], h, rfl⟩
    | cons x l ih =>
      intro K h
      unfold roK at h
      split at h
      · simp_all
      · rename_i he
        simp only [List.cons.injEq] at he
        obtain ⟨rfl, rfl⟩ := he
        obtain ⟨r, h1, h2⟩ := ih _ h
        exact ⟨_, h1, by rw [h2]; rfl⟩
      · exact h.elim
  obtain ⟨caps, hK, hcaps⟩ := hro _ _ h
  refine ⟨_, _, hK, LStep_val hdst hd fun e st' g a w hs ha => ?_⟩
  replace ha := Agree_of.1 ha
  have hf' : first = #[] := arr1 hf
  refine ⟨_, w, by simp [execOp, ho, Instr.makeFunc, hf']; rfl, rfl, rfl, rfl, rfl, .r (.fn _ _ _ ?_ (fun j x y hx hy => ?_))⟩
  · have := congrArg List.length hcaps; simpa using this
  · rw [Array.getElem?_map] at hy
    cases hj : captured[j]? with
    | none => simp [hj] at hy
    | some z =>
      simp [hj] at hy
      subst hy
      have hj' : captured.toList[j]? = some z := by simpa using hj
      have h1 := arg hs ha (x := z) (List.mem_of_getElem? hj')
      have h2 : (captured.toList.map (ev st))[j]? = some (ev st z) := by simp only [List.getElem?_map, hj', Option.map_some]
      rw [hcaps, List.getElem?_map, hx] at h2
      simp at h2
      rw [← h2] at h1
      cases h1 with | r h1 => exact h1

theorem makeMap_ok {st : St} {d t : Nat} {o : Oper} {K : List Loc → List (Loc × Cont) → Prop} (hdst : o.dst = some d) (ho : o.op = .makeMap t none) (hd : d < st.n)
    (h : K [.R d] [(.R d, .s (st.cur d + 1) (.mp (fun _ => none) 0)), (.T d, .a (.os d (st.cur d + 1)))]) :
    ∃ l outs, K l outs ∧ LStep C o st.n (l.map fun x => (x, st.get x)) outs := by
  refine ⟨_, _, h, fun e st' a w next Q hn ⟨heok, g, hs⟩ ha hnext => ?_⟩
  replace ha := Agree_of.1 ha
  have hcur : st'.cur d = st.cur d := by simp [St.cur, ha.R (k := d) (by simp)]
  have hr : (execOp a.eval o).run C.P w = .ok (.value (.map (some w.heap.size))) (w.alloc (.map #[] 0)) := by
    simp [execOp, ho, Instr.makeMap]
  have key := hs.fresh heok (d := d) (by omega) (.map #[] 0) (.mp (fun _ => none) 0) (.map (some w.heap.size)) rfl rfl (fun cur g' N hg hl =>
    ⟨w.heap.size, #[], 0, hg, heap_new w _, rfl, fun k x => by simp, by simp⟩)
  rw [hcur] at key
  exact wp_val hdst hr (hnext _ _ ⟨heok, _, key⟩)

theorem makeSlice_ok {st : St} {d t : Nat} {l c : Operand} {o : Oper} {K : List Loc → List (Loc × Cont) → Prop} (hdst : o.dst = some d) (ho : o.op = .makeSlice t l c) (hd : d < st.n) {el : Nat} {n m : Int} (hel : elemT C.P t = some el)
    (hl : ev st l = .r (.v (.int .i64 n))) (hc : ev st c = .r (.v (.int .i64 m)))
    (h : knownT C.P el = true ∧ 0 < sizeT C.P el ∧ 0 ≤ n ∧ n ≤ m ∧ m ≤ 9223372036854775807 ∧ bytesT C.P el * m ≤ 281474976710656 ∧ zeroCellsT C.P el fun z => z.length = sizeT C.P el ∧ okCells z = true ∧
          K (.R d :: rd [l, c]) [(.R d, .s (st.cur d + 1) (.sl el (sizeT C.P el) (List.replicate n.toNat z))), (.T d, .a (.os d (st.cur d + 1)))]) :
    ∃ l outs, K l outs ∧ LStep C o st.n (l.map fun x => (x, st.get x)) outs := by
  obtain ⟨hk, h0, hn0, hnm, hm, hby, h⟩ := h
  obtain ⟨z, hz, ⟨hzl, hzo, hK⟩, hzr⟩ := zeroK_ok h
  obtain ⟨z', i, hi, hzi⟩ := run_zero (P := C.P) (t := el) (by simp [hz])
  have hzz : z' = z := by simp [zeroT, hi] at hz; rw [hz] at hzi; simpa using hzi.symm
  subst hzz
  have hsz : i.size = sizeT C.P el := by simp [sizeT, hi]
  have hbt : i.bytes = bytesT C.P el := by simp [bytesT, hi]
  refine ⟨_, _, hK, fun e st' a w next Q hn ⟨heok, g, hs⟩ ha hnext => ?_⟩
  replace ha := Agree_of.1 ha
  have hcur : st'.cur d = st.cur d := by simp [St.cur, ha.R (k := d) (by simp)]
  have ha2 : Ag (rd [l, c]) st st' := fun y hy => ha y (List.mem_cons_of_mem _ hy)
  have e1 := arg hs ha2 (x := l) (by simp)
  have e2 := arg hs ha2 (x := c) (by simp)
  rw [hl] at e1; rw [hc] at e2
  have hr : (execOp a.eval o).run C.P w = .ok (.value (.slice (some ⟨w.heap.size, 0, none⟩) n.toNat m.toNat)) (w.alloc (.cells (madeCells z'.cells (m.toNat * i.size)) el)) := by
    have := run_make (P := C.P) w t el i z' (elem_of hel) hi hzi .i64 .i64 n m hn0 hnm (by rw [hbt]; exact hby) hm
    simp only [execOp, ho, inv_v e1, inv_v e2, Sem.run_bind, this, Result.andThen_ok, Sem.run_pure]
  have hzs : z'.cells.size = sizeT C.P el := by simpa using hzl
  have hmc : ∀ p, p < m.toNat * i.size → (madeCells z'.cells (m.toNat * i.size))[p]? = z'.cells[p % sizeT C.P el]? := fun p hp => by
    have hlt : p % z'.cells.size < z'.cells.size := Nat.mod_lt _ (by omega)
    simp only [madeCells, Array.getElem?_map, Array.getElem?_range, hp, if_true, Option.map_some]
    rw [hzs] at hlt
    rw [hzs, Array.getElem?_eq_getElem (by omega)]
    simp [hzs, hlt]
  have key := hs.fresh heok (d := d) (by omega) (.cells (madeCells z'.cells (m.toNat * i.size)) el) (.sl el (sizeT C.P el) (List.replicate n.toNat (z'.cells.toList.map fun v => .r (.v v)))) (.slice (some ⟨w.heap.size, 0, none⟩) n.toNat m.toNat) rfl rfl (fun cur g' N hg hl => by
    refine ⟨(madeCells z'.cells (m.toNat * i.size)).toList.take (n.toNat * sizeT C.P el), ⟨?_, .inr ⟨w.heap.size, m.toNat, _, ?_, Nat.zero_le _, heap_new w _, ?_, ?_, ?_, ?_⟩⟩, ?_, ?_⟩
    · have hle : n.toNat * sizeT C.P el ≤ m.toNat * sizeT C.P el := Nat.mul_le_mul_right _ (by omega)
      have hms : (madeCells z'.cells (m.toNat * i.size)).toList.length = m.toNat * sizeT C.P el := by simp [madeCells, hsz]
      rw [List.length_take, hms, List.length_replicate, Nat.min_eq_left hle]
    · rw [hg, List.length_replicate]
    · rw [List.length_replicate]; omega
    · unfold maxLen; omega
    · simp [madeCells, hsz]
    · rw [List.length_replicate]
    · intro row hrow
      rw [(List.mem_replicate.1 hrow).2]; exact hzl
    · intro i2 j row x y hrow hj hy
      rw [List.getElem?_replicate] at hrow
      split at hrow
      · rename_i hlt
        simp at hrow
        subst hrow
        rw [List.getElem?_take] at hy
        split at hy
        · rename_i hlt2
          have hle : n.toNat * sizeT C.P el ≤ m.toNat * sizeT C.P el := Nat.mul_le_mul_right _ (by omega)
          rw [Array.getElem?_toList, hmc _ (by rw [hsz]; omega)] at hy
          have hjs : j < sizeT C.P el := by rw [← hzl]; exact (List.getElem?_eq_some_iff.1 hj).1
          have hmod : (i2 * sizeT C.P el + j) % sizeT C.P el = j := by
            rw [Nat.add_comm, Nat.add_mul_mod_self_right, Nat.mod_eq_of_lt hjs]
          rw [hmod] at hy
          rw [List.getElem?_map] at hj
          have : z'.cells.toList[j]? = some y := by simpa using hy
          rw [this] at hj
          simp at hj
          subst hj
          exact .r (.v y)
        · cases hy
      · cases hrow)
  rw [hcur] at key
  exact wp_val hdst hr (hnext _ _ ⟨heok, _, key⟩)

end

end Go.Proofs.YtjbhpoolghfhiaaDoor
namespace Go.Proofs.YtjbhpoolghfhiaaDoor
set_option linter.unusedVariables false
set_option linter.unusedSimpArgs false
set_option maxHeartbeats 10000000
open Go

theorem run_append_own2 {P : Program} (w : World) (t ty e : TypeId) (i : TypeInfo) (z : Value) (size bytes : Nat) (ht : P.underlying t = some (.slice e)) (hi : P.info? e = some i) (hz : i.zero = some z)
    (hsize : i.size = size) (hby : i.bytes = bytes) (hzs : z.cells.size = size) (hsz : 0 < size)
    (v : Value) (n : Nat) (xs : List Value) (hown : w.ownsRow 0 e size v n xs)
    (a : Addr) (m c : Nat) (news : List Value) (hl : news.length = m * size) (hnews : ∀ j u, news[j]? = some u → w.cell? (a.add j) = some u) (h1 : ∀ u ∈ news, u.oneCell' = true)
    (h63 : n + m ≤ maxLen) (hbytes : (n + m) * bytes ≤ 140737488355328) :
    ∃ v' w', (Builtin.append_ #[t, t] ty #[v, .slice (some a) m c]).run P w = .ok v' w' ∧ w'.ownsRow 0 e size v' (n + m) (xs ++ news) ∧ w.grownBy w' v.ownBlock ∧
      (∀ b, v'.ownBlock = some b → v.ownBlock = some b ∨ w.heap.size ≤ b) := by
  obtain ⟨v', w', r1, r2, r3, _⟩ := run_append_own (P := P) w 0 t ty e i z size bytes ht hi hz hsize hby hzs hsz v n xs hown a m c news hl hnews h1 h63 hbytes (Nat.zero_le _)
  refine ⟨v', w', r1, r2, r3, fun b hb => ?_⟩
  rcases hown.2 with ⟨rfl, rfl⟩ | ⟨g, cap, cur, rfl, hbg, hg, hnc, hcm, hcs, htake⟩
  · right
    have hx : xs = [] := List.eq_nil_of_length_eq_zero (by simpa using hown.1)
    subst hx
    obtain ⟨v2, w2, q1, q2, _, _⟩ := run_append_own (P := P) w w.heap.size t ty e i z size bytes ht hi hz hsize hby hzs hsz (.slice none 0 0) 0 [] (World.ownsRow_nil w _ e size) a m c news hl hnews h1 h63 hbytes (Nat.le_refl _)
    rw [r1] at q1
    simp only [Result.ok.injEq] at q1
    obtain ⟨rfl, rfl⟩ := q1
    exact (q2.lt b hb).1
  · subst hsize
    by_cases hroom : n + m ≤ cap
    · left
      have hfit : n * i.size + news.length ≤ cur.size := by rw [hl, hcs, ← Nat.add_mul]; exact Nat.mul_le_mul_right _ hroom
      have hr := run_append_room (P := P) w t ty e i ht hi g n cap cur hg a m c news hl hnews h1 hroom hfit
      rw [r1] at hr
      simp only [Result.ok.injEq] at hr
      rw [hr.1] at hb
      exact hb
    · right
      have holds : ∀ j u, xs[j]? = some u → w.cell? ((⟨g, 0, none⟩ : Addr).add j) = some u := hown.cells (g := g) rfl
      have hr := run_append_grow (P := P) w t ty e i z ht hi hz ⟨g, 0, none⟩ n cap xs hown.1 holds a m c news hl hnews (by omega) (by simp only [maxLen] at h63; omega) (growslice_fits (by omega) (by rw [hby]; exact hbytes))
      rw [r1] at hr
      simp only [Result.ok.injEq] at hr
      rw [hr.1] at hb
      simp [Value.ownBlock] at hb
      omega

theorem own_hblock {v : Value} {b : Nat} (h : v.ownBlock = some b) : hblock v = some b := by
  cases v <;> simp [Value.ownBlock] at h
  rename_i o _ _
  cases o <;> simp at h
  simp [hblock, h]

theorem hblock_own {w : World} {base e size n : Nat} {v : Value} {xs : List Value} (h : w.ownsRow base e size v n xs) : hblock v = v.ownBlock := by
  rcases h.2 with ⟨rfl, _⟩ | ⟨g, cap, cur, rfl, _⟩ <;> rfl

section
variable {C : Ctx}

/-- What a source of an append has, in a world. -/
structure Src (cur : Nat → Nat) (g : Gh) (w : World) (N : Nat → Prop) (sz : Nat) (news : List (List AV)) (v : Value) : Prop where
  rows : ∀ row ∈ news, row.length = sz
  val : (v = .slice none 0 0 ∧ news = []) ∨ ∃ (a : Addr) (c : Nat) (xs : List Value), v = .slice (some a) news.length c ∧ xs.length = news.length * sz ∧ (∀ j u, xs[j]? = some u → w.cell? (a.add j) = some u) ∧
    ∀ (i j : Nat) (row : List AV) (x : AV) (y : Value), news[i]? = some row → row[j]? = some x → xs[i * sz + j]? = some y → AR cur g w N x y

theorem divmod {p n sz : Nat} (h : p < n * sz) : p / sz < n ∧ p % sz < sz ∧ p / sz * sz + p % sz = p := by
  have hs : 0 < sz := by rcases Nat.eq_zero_or_pos sz with rfl | h0; simp at h; exact h0
  refine ⟨(Nat.div_lt_iff_lt_mul hs).2 h, Nat.mod_lt _ hs, ?_⟩
  rw [Nat.mul_comm]; exact Nat.div_add_mod p sz

theorem src_rs {e : Env} {st : St} {g : Gh} {a : Act} {w : World} (_h : SR C e st g a w) {sz : Nat} {rows : List (List RV)} {v : Value} (hv : AR st.cur g w (e.N st g) (.r (.rs sz rows)) v) : Src st.cur g w (e.N st g) sz (rows.map fun r => r.map .r) v := by
  cases hv with | r hv => cases hv with
    | nil => exact ⟨by simp, .inl ⟨rfl, rfl⟩⟩
    | rs _ _ ad cap c hb hcap hw hc hr =>
      refine ⟨fun row hrow => ?_, ?_⟩
      · obtain ⟨r, hr', rfl⟩ := List.mem_map.1 hrow
        simpa using hw r hr'
      · by_cases hne : rows = []
        · subst hne
          exact .inr ⟨ad, cap, [], rfl, by simp, by simp, by simp⟩
        · refine .inr ⟨ad, cap, (List.range (rows.length * sz)).map fun p => c (p / sz) (p % sz), by simp, by simp, fun j u hu => ?_, fun i j row x y hi hj hy => ?_⟩
          · rw [List.getElem?_map] at hu
            cases hj : (List.range (rows.length * sz))[j]? with
            | none => simp [hj] at hu
            | some q =>
              have hlt : j < rows.length * sz := by simpa using (List.getElem?_eq_some_iff.1 hj).1
              have hq : q = j := by simpa [hlt] using hj.symm
              subst hq
              simp [hj] at hu
              subst hu
              obtain ⟨d1, d2, d3⟩ := divmod hlt
              rw [addr_eta (hb hne).2.2, addr_add, ← d3]
              rw [d3]
              have := hc _ _ d1 d2
              rw [d3] at this
              exact this
          · rw [List.getElem?_map] at hi
            cases hri : rows[i]? with
            | none => simp [hri] at hi
            | some r0 =>
              simp [hri] at hi
              subst hi
              rw [List.getElem?_map] at hj
              cases hrj : r0[j]? with
              | none => simp [hrj] at hj
              | some x0 =>
                simp [hrj] at hj
                subst hj
                have hjs : j < sz := by rw [← hw r0 (List.mem_of_getElem? hri)]; exact (List.getElem?_eq_some_iff.1 hrj).1
                have hi' : i < rows.length := (List.getElem?_eq_some_iff.1 hri).1
                have hlt : i * sz + j < rows.length * sz := by
                  have := Nat.mul_le_mul_right sz (Nat.succ_le_of_lt hi')
                  rw [Nat.succ_mul] at this; omega
                have hs : 0 < sz := by omega
                have e1 : (i * sz + j) / sz = i := by rw [Nat.add_comm, Nat.add_mul_div_right _ _ hs, Nat.div_eq_of_lt hjs]; omega
                have e2 : (i * sz + j) % sz = j := by rw [Nat.add_comm, Nat.add_mul_mod_self_right, Nat.mod_eq_of_lt hjs]
                simp [hlt, e1, e2] at hy
                subst hy
                exact .r (hr i j r0 x0 hri hrj)

theorem src_ok {st : St} {x : AV} {sz : Nat} {K : List Loc → List (List AV) → Prop} (h : srcK st x sz K) : ∃ rx news, K rx news ∧
    ∀ (e : Env) (st' : St) (g : Gh) (a : Act) (w : World) (vx : Value), SR C e st' g a w → Ag rx st st' → AR st'.cur g w (e.N st' g) x vx → Src st'.cur g w (e.N st' g) sz news vx := by
  unfold srcK at h
  split at h
  · obtain ⟨rfl, h⟩ := h
    exact ⟨_, _, h, fun e st' g a w vx hs _ hx => src_rs hs hx⟩
  · exact ⟨_, _, h, fun e st' g a w vx hs _ hx => ⟨by simp, .inl ⟨inv_v hx, rfl⟩⟩⟩
  · rename_i k ver
    split at h
    · rename_i cv el sz' rows hk
      obtain ⟨rfl, rfl, h⟩ := h
      refine ⟨_, _, h, fun e st' g a w vx hs ha hx => ?_⟩
      have hk' := (ha.R (k := k) (by simp)).trans hk
      obtain ⟨xs, hown, hw, har⟩ := sl_cells hs hk'
      have hv := inv_os hx (curk k hk').symm
      refine ⟨hw, ?_⟩
      rcases hown.2 with ⟨h4, h5⟩ | ⟨b, cap, cu, hv', hb0, hh, hnc, hcm, hcs, ht⟩
      · exact .inl ⟨hv.trans h4, List.length_eq_zero_iff.1 h5⟩
      · refine .inr ⟨⟨b, 0, none⟩, cap, xs, hv.trans hv', hown.1, fun j u hu => ?_, har⟩
        exact hown.cells (g := b) (by rw [hv']; rfl) j u hu
    · exact h.elim
  · exact h.elim

/-- An owned slice, appended to. -/
theorem append_sl {e : Env} {st : St} {g : Gh} {a : Act} {w : World} (h : SR C e st g a w) (hok : e.ok C) {k t ty el sz ver : Nat} {rows news : List (List AV)} {v vx : Value} {xs : List Value} (hel : elemT C.P t = some el) (hk : knownT C.P el = true) (h0 : 0 < sizeT C.P el)
    {z : Value} (hz : zeroT C.P el = some z) (hzl : z.cells.size = sizeT C.P el) (hsz : sz = sizeT C.P el)
    (hown : w.ownsRow 0 el sz v rows.length xs) (hrows : ∀ row ∈ rows, row.length = sz) (har : ∀ (i j : Nat) (row : List AV) (x : AV) (y : Value), rows[i]? = some row → row[j]? = some x → xs[i * sz + j]? = some y → AR st.cur g w (e.N st g) x y)
    (hsrc : Src st.cur g w (e.N st g) sz news vx) (hoc : ∀ row ∈ news, ∀ c ∈ row, okCell c = true) (hlen : rows.length + news.length ≤ 9223372036854775807) (hby : (rows.length + news.length) * bytesT C.P el ≤ 140737488355328)
    (hver : ver = st.cur k + 1) (hblk : ∀ b, hblock v = some b → blk st g k = some b) :
    ∃ v' w', (Builtin.append_ #[t, t] ty #[v, vx]).run C.P w = .ok v' w' ∧ v'.oneCell' = true ∧ SR C e { st with rs := putR k (ver, .sl el sz (rows ++ news)) st.rs } (gput g k v') a w' := by
  subst hsz
  obtain ⟨_, i, hu', hi⟩ := known_info hk
  have hzi : i.zero = some z := by simpa [zeroT, hi] using hz
  have hisz : i.size = sizeT C.P el := by simp [sizeT, hi]
  have hib : i.bytes = bytesT C.P el := by simp [bytesT, hi]
  have hu := elem_of hel
  have fin : ∀ (v' : Value) (w' : World) (ys : List Value), w'.ownsRow 0 el (sizeT C.P el) v' (rows.length + news.length) (xs ++ ys) → w.grownBy w' v.ownBlock → (∀ b, v'.ownBlock = some b → v.ownBlock = some b ∨ w.heap.size ≤ b) →
      (∀ (i j : Nat) (row : List AV) (x : AV) (y : Value), news[i]? = some row → row[j]? = some x → ys[i * sizeT C.P el + j]? = some y → AR st.cur g w (e.N st g) x y) →
      v'.oneCell' = true ∧ SR C e { st with rs := putR k (ver, .sl el (sizeT C.P el) (rows ++ news)) st.rs } (gput g k v') a w' := by
    intro v' w' ys q1 q2 q3 q4
    have hvo := hblock_own hown
    have hv1 : v'.oneCell' = true := by
      rcases q1.2 with ⟨rfl, _⟩ | ⟨g, cap, cur, rfl, _⟩ <;> rfl
    refine ⟨hv1, (h.turn (w' := w') k ver (.sl el (sizeT C.P el) (rows ++ news)) v' q2.os q2.tape q2.output q2.size (fun b hb hne => q2.block b hb (fun hc => ?_)) (.inl (by omega)) (fun b _ hb => ?_) hok (fun st' g' hst hg hl => ?_)).1⟩
    · have : hblock v = some b := by rw [hvo]; exact hc.symm
      exact hne (hblk b this)
    · rw [hblock_own q1] at hb
      refine ⟨(q1.lt b hb).2, ?_⟩
      rcases q3 b hb with q | q
      · exact .inl (hblk b (by rw [hvo]; exact q))
      · exact .inr q
    · refine ⟨xs ++ ys, by rw [hg]; simpa [gput] using q1, fun row hrow => ?_, fun i j row x y hi hj hy => ?_⟩
      · rcases List.mem_append.1 hrow with hr | hr
        · exact hrows row hr
        · exact hsrc.rows row hr
      · have hjl := (List.getElem?_eq_some_iff.1 hj).1
        by_cases hir : i < rows.length
        · rw [List.getElem?_append_left hir] at hi
          have hrl := hrows row (List.mem_of_getElem? hi)
          have hlt : i * sizeT C.P el + j < xs.length := by
            rw [hown.1]
            have := Nat.mul_le_mul_right (sizeT C.P el) (Nat.succ_le_of_lt hir)
            rw [Nat.succ_mul] at this; omega
          rw [List.getElem?_append_left hlt] at hy
          exact hl _ _ (har i j row x y hi hj hy)
        · rw [List.getElem?_append_right (by omega)] at hi
          have hge : xs.length ≤ i * sizeT C.P el + j := by
            rw [hown.1]
            have := Nat.mul_le_mul_right (sizeT C.P el) (Nat.le_of_not_lt hir)
            omega
          rw [List.getElem?_append_right hge] at hy
          refine hl _ _ (q4 (i - rows.length) j row x y hi hj ?_)
          rw [← hy]; congr 1
          rw [hown.1, Nat.sub_mul]
          have := Nat.mul_le_mul_right (sizeT C.P el) (Nat.le_of_not_lt hir)
          omega
  rcases hsrc.val with ⟨rfl, rfl⟩ | ⟨ad, c, ys, rfl, hyl, hyc, hya⟩
  · refine ⟨v, w, run_append_owned_none (P := C.P) (w := w) 0 t ty el i (sizeT C.P el) hu hi v rows.length xs hown, ?_⟩
    refine fin v w [] (by simpa using hown) ⟨rfl, rfl, rfl, Nat.le_refl _, fun _ _ _ => rfl⟩ (fun b hb => .inl hb) (by simp)
  · have hone : ∀ u ∈ ys, u.oneCell' = true := fun u hu => by
      obtain ⟨p, hp, rfl⟩ := List.getElem_of_mem hu
      rw [hyl] at hp
      obtain ⟨d1, d2, d3⟩ := divmod hp
      have hr : news[p / sizeT C.P el]? = some news[p / sizeT C.P el] := List.getElem?_eq_getElem d1
      have hrl := hsrc.rows _ (List.mem_of_getElem? hr)
      have hx : news[p / sizeT C.P el][p % sizeT C.P el]? = some news[p / sizeT C.P el][p % sizeT C.P el] := List.getElem?_eq_getElem (by omega)
      have hy : ys[p / sizeT C.P el * sizeT C.P el + p % sizeT C.P el]? = some ys[p] := by rw [d3]; exact List.getElem?_eq_getElem _
      exact AR_one (hya _ _ _ _ _ hr hx hy) (hoc _ (List.mem_of_getElem? hr) _ (List.mem_of_getElem? hx))
    obtain ⟨v', w', r1, r2, r3, r4⟩ := run_append_own2 (P := C.P) w t ty el i z (sizeT C.P el) (bytesT C.P el) hu hi hzi hisz hib hzl h0 v rows.length xs hown ad news.length c ys hyl hyc hone (by simp only [maxLen]; omega) hby
    exact ⟨v', w', r1, fin v' w' ys r2 r3 r4 hya⟩

theorem appendK_ok {st : St} {d t : Nat} {s x : Operand} {o : Oper} {K : List Loc → List (Loc × Cont) → Prop} (hdst : o.dst = some d) {c : Call} (ho : o.op = .call c) (hc : c.callee = .builtin .append) (hca : c.args = #[s, x]) (hct : c.argTypes = #[t, t]) (hd : d < st.n)
    (h : appendK C.P d t st (ev st s) (ev st x) (rd [s, x]) K) :
    ∃ l outs, K l outs ∧ LStep C o st.n (l.map fun x => (x, st.get x)) outs := by
  unfold appendK at h
  split at h
  · exact h.elim
  · rename_i el hel
    obtain ⟨hkn, h0, h⟩ := h
    obtain ⟨z, hz, ⟨hzl, h⟩, hzr⟩ := zeroK_ok h
    obtain ⟨rx, news, ⟨hoc, h⟩, hsrc⟩ := src_ok (C := C) h
    replace hoc := okRows_mem hoc
    have run : ∀ (a : Act) (w w' : World) (v' : Value), (Builtin.append_ #[t, t] o.type #[a.eval s, a.eval x]).run C.P w = .ok v' w' → (execOp a.eval o).run C.P w = .ok (.value v') w' := fun a w w' v' hr => by
      simp [execOp, ho, resolve, hc, hca, hct, invoke, builtin, hr]
    split at h
    · rename_i k ver hse
      split at h
      · rename_i cv el' sz rows hk
        obtain ⟨rfl, rfl, rfl, hlen, hby, h⟩ := h
        refine ⟨_, _, h, fun e st' a w next Q hn ⟨heok, g, hs⟩ ha hnext => ?_⟩
        have ha0 := Agree_of.1 ha
        have hk' := (ha0.R (k := k) (by simp)).trans hk
        have harx : Ag rx st st' := fun y hy => ha0 y (by simp [hy])
        have hard : Ag (rd [s, x]) st st' := fun y hy => ha0 y (by simp [hy])
        have h1 := arg hs hard (x := s) (by simp)
        have h2 := arg hs hard (x := x) (by simp)
        rw [hse] at h1
        have hv := inv_os h1 (curk k hk').symm
        obtain ⟨xs, hown, hw, har⟩ := sl_cells hs hk'
        obtain ⟨v', w', r1, r2, r3⟩ := append_sl hs heok (ty := o.type) (ver := ver + 1) hel hkn h0 hz (by simpa using hzl) rfl hown hw har (hsrc e st' g a w _ hs harx h2) hoc hlen hby (by rw [curk k hk']) (fun b hb => by simp only [blk, hk']; exact hb)
        refine wp_val hdst (run a w w' v' (by rw [hv]; exact r1)) (hnext _ _ ⟨heok, _, r3.put (d := d) (v := v') (by show d < st'.n; omega) (.os k (ver + 1) _ r2 (.inr ⟨by simp [St.cur, lookR_put], by simp [gput]⟩))⟩)
      · exact h.elim
    · rename_i hse
      obtain ⟨hlen, hby, h⟩ := h
      refine ⟨_, _, h, fun e st' a w next Q hn ⟨heok, g, hs⟩ ha hnext => ?_⟩
      have ha0 := Agree_of.1 ha
      have hcur : st'.cur d = st.cur d := by simp [St.cur, ha0.R (k := d) (by simp)]
      have harx : Ag rx st st' := fun y hy => ha0 y (by simp [hy])
      have hard : Ag (rd [s, x]) st st' := fun y hy => ha0 y (by simp [hy])
      have h1 := arg hs hard (x := s) (by simp)
      have h2 := arg hs hard (x := x) (by simp)
      rw [hse] at h1
      have hv := inv_v h1
      obtain ⟨v', w', r1, r2, r3⟩ := append_sl hs heok (k := d) (ty := o.type) (ver := st.cur d + 1) (rows := []) (xs := []) (v := .slice none 0 0) hel hkn h0 hz (by simpa using hzl) rfl (World.ownsRow_nil w 0 el _) (by simp) (by simp) (hsrc e st' g a w _ hs harx h2) hoc (by simpa using hlen) (by simpa using hby) (by rw [hcur]) (fun b hb => by simp [hblock] at hb)
      simp only [List.nil_append] at r3
      refine wp_val hdst (run a w w' v' (by rw [hv]; exact r1)) (hnext _ _ ⟨heok, _, r3.put (d := d) (v := v') (by show d < st'.n; omega) (.os d (st.cur d + 1) _ r2 (.inr ⟨by simp [St.cur, lookR_put], by simp [gput]⟩))⟩)
    · exact h.elim

theorem val_ok {o : Oper} {st : St} {d : Nat} {K : List Loc → List (Loc × Cont) → Prop} (hdst : o.dst = some d) (hd : d < st.n) (h : valK C o.op st fun l x => K l [(.T d, .a x)]) :
    ∃ l outs, K l outs ∧ LStep C o st.n (l.map fun x => (x, st.get x)) outs := by
  obtain ⟨l, r, hK, h1⟩ := valK_ok h
  refine ⟨l, _, hK, LStep_val hdst hd fun e st' g a w hs ha => ?_⟩
  obtain ⟨v, w', r1, r2, r3⟩ := h1 e st' g a w hs (Agree_of.1 ha)
  exact ⟨v, w', r1, r2.heap, r2.os, r2.tape, r2.output, r3⟩

/-- Every operation does what is told of it. -/
theorem opK_ok {o : Oper} {st : St} {K : List Loc → List (Loc × Cont) → Prop} (h : opK C o st K) :
    ∃ l outs, K l outs ∧ LStep C o st.n (l.map fun x => (x, st.get x)) outs := by
  unfold opK at h
  split at h
  · rename_i hdst
    split at h
    · rename_i t x v ho; exact storeK_ok hdst ho h
    · exact h.elim
  · rename_i d hdst
    obtain ⟨hd, h⟩ := h
    split at h
    · rename_i t ho; exact alloc_ok hdst ho hd h.2
    · rename_i t x ho; exact box_ok hdst ho hd h
    · rename_i t len parts ho
      split at h
      · rename_i e hel; exact buildSlice_ok hdst ho hd hel h
      · exact h.elim
    · rename_i t x lo hi ho; exact sliceK_ok hdst ho hd h
    · rename_i t l c ho
      split at h
      · rename_i e n m hel hl hc; exact makeSlice_ok hdst ho hd hel hl hc h
      · exact h.elim
    · rename_i f first captured ho; exact makeFunc_ok hdst ho hd h
    · rename_i t ho; exact makeMap_ok hdst ho hd h
    · rename_i c ho
      split at h
      · rename_i s x t t' hc hca hct
        obtain ⟨rfl, h⟩ := h
        exact appendK_ok hdst ho hc (arr1 hca) (arr1 hct) hd h
      · exact val_ok hdst hd h
    · exact val_ok hdst hd h

/-- An operation of a list, told of states. -/
theorem lops_op {ops : Array Oper} {o : Oper} {l : List Oper} {st : St} {K : St → Prop} (hg : o.guard = none) (h : opK C o st fun _ outs => lops C ops l (st.upd outs) K) : lops C ops (o :: l) st K := by
  obtain ⟨rds, outs, hK, hs⟩ := opK_ok h
  exact lops_step hg hs (Agree_of.2 fun _ _ => rfl) hK

theorem lops_op_yes {ops : Array Oper} {o : Oper} {l : List Oper} {st : St} {K : St → Prop} {j d : Nat} {b : Bool} (hg : o.guard = some (j, b)) (hd : (ops[j]?).bind (·.dst) = some d)
    (hv : lookT d st.t = .r (.v (.bool b))) (h : opK C o st fun _ outs => lops C ops l (st.upd outs) K) : lops C ops (o :: l) st K := by
  obtain ⟨rds, outs, hK, hs⟩ := opK_ok h
  exact lops_guard_yes hg hd hv hs (Agree_of.2 fun _ _ => rfl) hK

end

end Go.Proofs.YtjbhpoolghfhiaaDoor
namespace Go.Proofs.YtjbhpoolghfhiaaDoor
set_option linter.unusedVariables false
set_option linter.unusedSimpArgs false
set_option maxHeartbeats 10000000
open Go

mutual
/-- Does a value name but slots of which ok holds? -/
def within (ok : Nat → Bool) : AV → Bool
  | .r _ => true
  | .os k _ => ok k
  | .rf k _ _ => ok k
  | .re k _ _ _ _ => ok k
  | .agg cs => withinL ok cs
  | .tup cs => withinL ok cs
  | .any => true
def withinL (ok : Nat → Bool) : List AV → Bool
  | [] => true
  | x :: l => within ok x && withinL ok l
end

mutual
/-- Slots and versions told otherwise. -/
def ren (σ δ : Nat → Nat) : AV → AV
  | .r x => .r x
  | .os k v => .os (σ k) (v + δ k)
  | .rf k v o => .rf (σ k) (v + δ k) o
  | .re k v s i o => .re (σ k) (v + δ k) s i o
  | .agg cs => .agg (renL σ δ cs)
  | .tup cs => .tup (renL σ δ cs)
  | .any => .any
def renL (σ δ : Nat → Nat) : List AV → List AV
  | [] => []
  | x :: l => ren σ δ x :: renL σ δ l
end

def renRes (σ δ : Nat → Nat) : Res → Res
  | .gone => .gone
  | .bx cells => .bx (renL σ δ cells)
  | .sl e sz rows => .sl e sz (rows.map (renL σ δ))
  | .mp f n => .mp f n

def withinRes (ok : Nat → Bool) : Res → Prop
  | .gone => True
  | .bx cells => withinL ok cells = true
  | .sl _ _ rows => ∀ row ∈ rows, withinL ok row = true
  | .mp _ _ => True

theorem withinL_get {ok : Nat → Bool} : ∀ {l : List AV}, withinL ok l = true → ∀ (j : Nat) (x : AV), l[j]? = some x → within ok x = true
  | y :: l, h, 0, x, hx => by
    simp only [withinL, Bool.and_eq_true] at h
    simp at hx; subst hx; exact h.1
  | y :: l, h, j + 1, x, hx => by
    simp only [withinL, Bool.and_eq_true] at h
    exact withinL_get h.2 j x (by simpa using hx)

theorem renL_get {σ δ : Nat → Nat} : ∀ {l : List AV} (j : Nat), (renL σ δ l)[j]? = (l[j]?).map (ren σ δ)
  | [], j => by simp [renL]
  | x :: l, 0 => by simp [renL]
  | x :: l, j + 1 => by simp only [renL, List.getElem?_cons_succ]; exact renL_get j

theorem renL_len {σ δ : Nat → Nat} : ∀ {l : List AV}, (renL σ δ l).length = l.length
  | [] => rfl
  | x :: l => by simp [renL, renL_len]

/-- A value whose slots are told of otherwise. -/
theorem AR.limit {cur cur' : Nat → Nat} {g g' : Gh} {w w' : World} {N N' : Nat → Prop} {x : AV} {v : Value} (h : AR cur g w N x v) {ok : Nat → Bool} (hw : within ok x = true) (σ δ : Nat → Nat) (hs : w.heap.size ≤ w'.heap.size)
    (hk : ∀ b, b < w.heap.size → ¬ N b → w'.heap[b]? = w.heap[b]? ∧ ¬ N' b) (hc : ∀ k, ok k = true → cur k + δ k < cur' (σ k) ∨ cur k + δ k = cur' (σ k) ∧ g k = g' (σ k)) : AR cur' g' w' N' (ren σ δ x) v := by
  induction h with
  | r h => exact .r (h.mono hs hk)
  | os k ver v h1 h =>
    simp only [within] at hw
    refine .os _ _ v h1 ?_
    rcases hc k hw with h2 | ⟨h2, h3⟩ <;> rcases h with h | ⟨h, h4⟩
    · left; omega
    · left; omega
    · left; omega
    · right; exact ⟨by omega, by rw [← h3]; exact h4⟩
  | rf k ver off v h1 h =>
    simp only [within] at hw
    refine .rf _ _ _ v h1 ?_
    rcases hc k hw with h2 | ⟨h2, h3⟩ <;> rcases h with h | ⟨h, h4⟩
    · left; omega
    · left; omega
    · left; omega
    · right; exact ⟨by omega, by rw [← h3]; exact h4⟩
  | re k ver sz i off v h1 h =>
    simp only [within] at hw
    refine .re _ _ _ _ _ v h1 ?_
    rcases hc k hw with h2 | ⟨h2, h3⟩ <;> rcases h with h | ⟨h, h4⟩
    · left; omega
    · left; omega
    · left; omega
    · right; exact ⟨by omega, by rw [← h3]; exact h4⟩
  | agg cs xs hs' _ ih =>
    simp only [within] at hw
    refine .agg _ xs (by rw [renL_len]; exact hs') (fun j x y hx hy => ?_)
    rw [renL_get] at hx
    cases hj : cs[j]? with
    | none => simp [hj] at hx
    | some z => simp [hj] at hx; subst hx; exact ih j z y hj hy (withinL_get hw j z hj)
  | tup cs xs hs' _ ih =>
    simp only [within] at hw
    refine .tup _ xs (by rw [renL_len]; exact hs') (fun j x y hx hy => ?_)
    rw [renL_get] at hx
    cases hj : cs[j]? with
    | none => simp [hj] at hx
    | some z => simp [hj] at hx; subst hx; exact ih j z y hj hy (withinL_get hw j z hj)
  | any v => exact .any v

theorem AR.unren {cur cur' : Nat → Nat} {g g' : Gh} {w w' : World} {N N' : Nat → Prop} {ok : Nat → Bool} {σ δ : Nat → Nat} (hs : w.heap.size ≤ w'.heap.size)
    (hk : ∀ b, b < w.heap.size → ¬ N b → w'.heap[b]? = w.heap[b]? ∧ ¬ N' b) (hc : ∀ k, ok k = true → cur (σ k) = cur' k + δ k ∧ g (σ k) = g' k) : ∀ {y : AV} {v : Value}, AR cur g w N y v → ∀ {x : AV}, y = ren σ δ x → within ok x = true → AR cur' g' w' N' x v := by
  intro y v h
  induction h with
  | r h => intro x hx hw; cases x <;> simp [ren] at hx; subst hx; exact .r (h.mono hs hk)
  | os k ver v h1 h =>
    intro x hx hw; cases x <;> simp [ren] at hx
    obtain ⟨rfl, rfl⟩ := hx
    obtain ⟨c1, c2⟩ := hc _ hw
    exact .os _ _ v h1 (h.imp (fun h => by omega) (fun h => ⟨by omega, by rw [← c2]; exact h.2⟩))
  | rf k ver off v h1 h =>
    intro x hx hw; cases x <;> simp [ren] at hx
    obtain ⟨rfl, rfl, rfl⟩ := hx
    obtain ⟨c1, c2⟩ := hc _ hw
    exact .rf _ _ _ v h1 (h.imp (fun h => by omega) (fun h => ⟨by omega, by rw [← c2]; exact h.2⟩))
  | re k ver sz i off v h1 h =>
    intro x hx hw; cases x <;> simp [ren] at hx
    obtain ⟨rfl, rfl, rfl, rfl, rfl⟩ := hx
    obtain ⟨c1, c2⟩ := hc _ hw
    exact .re _ _ _ _ _ v h1 (h.imp (fun h => by omega) (fun h => ⟨by omega, by rw [← c2]; exact h.2⟩))
  | agg cs xs hs' _ ih =>
    intro x hx hw; cases x <;> simp [ren] at hx
    subst hx
    simp only [within] at hw
    refine .agg _ xs (by rw [renL_len] at hs'; exact hs') (fun j x y hj hy => ih j (ren σ δ x) y (by rw [renL_get, hj]; rfl) hy rfl (withinL_get hw j x hj))
  | tup cs xs hs' _ ih =>
    intro x hx hw; cases x <;> simp [ren] at hx
    subst hx
    simp only [within] at hw
    refine .tup _ xs (by rw [renL_len] at hs'; exact hs') (fun j x y hj hy => ih j (ren σ δ x) y (by rw [renL_get, hj]; rfl) hy rfl (withinL_get hw j x hj))
  | any v => intro x hx hw; cases x <;> simp [ren] at hx; exact .any v

/-- The state of a call between frames. -/
abbrev stR (rs : List (Nat × Nat × Res)) : St := ⟨0, [], rs⟩
abbrev act0 : Act := { tmps := #[], defers := [] }

/-- The slots that have a resource. -/
def domR (rs : List (Nat × Nat × Res)) (k : Nat) : Bool := match (lookR k rs).2 with | .gone => false | _ => true

/-- A contract: called with such values, over such resources, the function returns such a value, and leaves such resources. -/
structure FC (C : Ctx) (f : Nat) (args : List AV) (rs0 : List (Nat × Nat × Res)) (r : AV) (rs1 : List (Nat × Nat × Res)) : Prop where
  run : ∀ (e : Env) (g : Gh) (w : World) (vs : Array Value), e.ok C → SR C e (stR rs0) g act0 w → PW (stR rs0).cur g w (e.N (stR rs0) g) args vs →
    Calls C.P f vs w fun x w' => ∃ v g', x = .returned v ∧ SR C (e.re (stR rs1) g') (stR rs1) g' act0 w' ∧ AR (stR rs1).cur g' w' (e.N (stR rs1) g') r v ∧ ∀ k, domR rs1 k = true → e.cur0 k < (stR rs1).cur k ∨ e.cur0 k = (stR rs1).cur k ∧ g' k = e.g0 k

/-- The arguments in the first slots. -/
def argT : Nat → List AV → List (Nat × AV)
  | _, [] => []
  | i, x :: l => (i, x) :: argT (i + 1) l

theorem lookT_arg : ∀ (l : List AV) (i d : Nat), lookT d (argT i l) = if i ≤ d then l.getD (d - i) .any else .any
  | [], i, d => by simp [argT, lookT]
  | x :: l, i, d => by
    simp only [argT, lookT, lookT_arg l (i + 1) d]
    by_cases h : d = i
    · subst h; simp
    · rw [if_neg h]
      by_cases h2 : i ≤ d
      · rw [if_pos (by omega), if_pos h2]
        have : d - i = (d - (i + 1)) + 1 := by omega
        rw [this]; rfl
      · rw [if_neg (by omega), if_neg h2]

/-- What a function's results are, told of a state. -/
def resK (st : St) (P : Program) : List ResultVar → List AV → Prop
  | [], [] => True
  | .tmp t :: l, x :: xs => lookT t st.t = x ∧ resK st P l xs
  | .cell t ty :: l, x :: xs => (∃ k ver cells, lookT t st.t = .os k ver ∧ lookR k st.rs = (ver, .bx cells) ∧ LoadR P ty cells x) ∧ resK st P l xs
  | _, _ => False

/-- One result is itself. -/
def resV : List AV → AV
  | [x] => x
  | l => .tup l

/-- The end of a function: its results, its resources. -/
structure Fin (C : Ctx) (fn : Func) (r : AV) (rs1 : List (Nat × Nat × Res)) (x : Exit) (st : St) : Prop where
  exit : x = .normal ∨ x = .ret
  res : ∃ l, resK st C.P fn.results.toList l ∧ r = resV l
  sub : ∀ k, domR rs1 k = true → lookR k st.rs = lookR k rs1
  inr : within (domR rs1) r = true
  ins : ∀ k, withinRes (domR rs1) (lookR k rs1).2

theorem ren_len {σ δ : Nat → Nat} {l : List AV} : (renL σ δ l).length = l.length := renL_len

mutual
theorem ren_id : ∀ (x : AV), ren id (fun _ => 0) x = x
  | .r _ => rfl
  | .os _ _ => rfl
  | .rf _ _ _ => rfl
  | .re _ _ _ _ _ => rfl
  | .agg cs => by simp only [ren, renL_id cs]
  | .tup cs => by simp only [ren, renL_id cs]
  | .any => rfl
theorem renL_id : ∀ (l : List AV), renL id (fun _ => 0) l = l
  | [] => rfl
  | x :: l => by simp only [renL, ren_id x, renL_id l]
end

theorem domR_of {rs : List (Nat × Nat × Res)} {k : Nat} (h : (lookR k rs).2 ≠ .gone) : domR rs k = true := by
  unfold domR; split
  · rename_i h2; exact absurd h2 h
  · rfl

theorem domR_no {rs : List (Nat × Nat × Res)} {k : Nat} (h : ¬ domR rs k = true) : (lookR k rs).2 = .gone := by
  unfold domR at h; split at h
  · rename_i h2; exact h2
  · simp at h

/-- At the end of a function: slots are forgotten, resources that are not told of are left behind. -/
theorem SR.final {C : Ctx} {e : Env} {st : St} {g : Gh} {a : Act} {w : World} (h : SR C e st g a w) {rs1 : List (Nat × Nat × Res)} (hsub : ∀ k, domR rs1 k = true → lookR k st.rs = lookR k rs1) (hin : ∀ k, withinRes (domR rs1) (lookR k rs1).2) :
    SR C (e.re (stR rs1) g) (stR rs1) g act0 w ∧ ∀ x v, within (domR rs1) x = true → AR st.cur g w (e.N st g) x v → AR (stR rs1).cur g w (e.N (stR rs1) g) x v := by
  have hbl : ∀ k b, blk (stR rs1) g k = some b → blk st g k = some b := fun k b hb => by
    have hd : domR rs1 k = true := domR_of (fun hc => by simp [blk, hc] at hb)
    rw [← blk_of (st := st) (st' := stR rs1) (g := g) (g' := g) (by show (lookR k rs1).2 = _; rw [hsub k hd]) rfl]; exact hb
  have hown : ∀ b, own (stR rs1) g b → own st g b := fun b ⟨k, hk⟩ => ⟨k, hbl k b hk⟩
  have hx : Ext w (own st g) w (own (stR rs1) g) := ⟨rfl, rfl, rfl, Nat.le_refl _, fun b _ hb => ⟨rfl, fun h1 => hb (hown b h1)⟩⟩
  have hl : ∀ x v, within (domR rs1) x = true → AR st.cur g w (e.N st g) x v → AR (stR rs1).cur g w (e.N (stR rs1) g) x v := fun x v hw hv => by
    have := hv.limit hw id (fun _ => 0) (w' := w) (g' := g) (cur' := (stR rs1).cur) (N' := e.N (stR rs1) g) (Nat.le_refl _) (fun b hb hn => ⟨rfl, fun hn' => hn'.elim (fun h1 => hn (.inl h1)) (fun h1 => hn (.inr (hown b h1)))⟩)
      (fun k hk => .inr ⟨by simp only [St.cur, id, Nat.add_zero]; rw [hsub k hk], rfl⟩)
    rwa [ren_id] at this
  refine ⟨⟨rfl, rfl, fun d => .any _, fun k => ?_, fun k k' b hk hk' => h.uniq k k' b (hbl k b hk) (hbl k' b hk'), fun k b hk => h.low k b (hbl k b hk), h.ext.trans hx, fun _ => .inr ⟨rfl, rfl⟩⟩, hl⟩
  by_cases hd : domR rs1 k = true
  · have h1 := h.res k
    rw [hsub k hd] at h1
    have h2 := hin k
    revert h1 h2
    show ResR _ _ _ _ _ (lookR k rs1).2 → _ → ResR _ _ _ _ _ (lookR k rs1).2
    cases (lookR k rs1).2 with
    | gone => intro _ _; trivial
    | bx cells =>
      rintro ⟨b, C', el, q1, q2, q3, q4⟩ q5
      exact ⟨b, C', el, q1, q2, q3, fun j x y hj hy => hl _ _ (withinL_get q5 j x hj) (q4 j x y hj hy)⟩
    | sl el sz rows =>
      rintro ⟨xs, q1, q2, q3⟩ q5
      exact ⟨xs, q1, q2, fun i j row x y hi hj hy => hl _ _ (withinL_get (q5 row (List.mem_of_getElem? hi)) j x hj) (q3 i j row x y hi hj hy)⟩
    | mp f n => intro q _; exact q
  · show ResR _ _ _ _ _ (lookR k rs1).2
    rw [domR_no hd]; trivial

/-- One result. -/
def rvS (a : Act) : ResultVar → Sem Value
  | .tmp t => pure (a.tmps.getD t undef)
  | .cell q t => do loadVar t (← asAddr (a.tmps.getD q undef))

theorem results_eq (fn : Func) (a : Act) : results fn a.tmps = (do let vs ← fn.results.mapM (rvS a); pure (if h : vs.size = 1 then vs[0] else .tuple vs)) := by
  have : ∀ f g : ResultVar → Sem Value, f = g → (do let vs ← fn.results.mapM f; pure (if h : vs.size = 1 then vs[0] else .tuple vs) : Sem Value) = (do let vs ← fn.results.mapM g; pure (if h : vs.size = 1 then vs[0] else .tuple vs)) := fun f g h => by rw [h]
  exact this _ _ (funext fun x => by cases x <;> rfl)

theorem resK_run {C : Ctx} {e : Env} {st : St} {g : Gh} {a : Act} {w : World} (h : SR C e st g a w) : ∀ {l : List ResultVar} {xs : List AV}, resK st C.P l xs →
    ∃ vs, (l.mapM (rvS a)).run C.P w = .ok vs w ∧ vs.length = xs.length ∧
      ∀ (j : Nat) (x : AV) (y : Value), xs[j]? = some x → vs[j]? = some y → AR st.cur g w (e.N st g) x y
  | [], [], _ => ⟨[], rfl, rfl, fun j x y hx => by simp at hx⟩
  | .tmp t :: l, x :: xs, hr => by
    obtain ⟨h1, h2⟩ := hr
    obtain ⟨vs, q1, q2, q3⟩ := resK_run h h2
    have ht := h.temps t
    rw [h1] at ht
    refine ⟨a.tmps.getD t undef :: vs, by simp only [List.mapM_cons, Sem.run_bind, q1, rvS, Sem.run_pure, Result.andThen_ok], by simp [q2], fun j x' y hx hy => ?_⟩
    cases j with
    | zero => simp at hx; subst hx; simp only [List.getElem?_cons_zero, Option.some.injEq] at hy; rw [← hy]; exact ht
    | succ j => exact q3 j x' y (by simpa using hx) (by simpa using hy)
  | .cell t ty :: l, x :: xs, hr => by
    obtain ⟨⟨k, ver, cells, h1, hk, hl⟩, h2⟩ := hr
    obtain ⟨vs, q1, q2, q3⟩ := resK_run h h2
    have ht := h.temps t
    rw [h1] at ht
    obtain ⟨b, hb, hh⟩ := held_bx h hk
    have hv := inv_os ht (curk k hk).symm
    obtain ⟨u, hu, hux⟩ := run_load_of (P := C.P) hl hh
    have hrun : (rvS a (.cell t ty)).run C.P w = .ok u w := by
      simp only [rvS]
      rw [hv, hb]
      simpa [Instr.loadAt, Instr.sureAddr, asAddr] using hu
    refine ⟨u :: vs, by simp only [List.mapM_cons, Sem.run_bind, hrun, q1, Result.andThen_ok, Sem.run_pure], by simp [q2], fun j x' y hx hy => ?_⟩
    cases j with
    | zero => simp at hx hy; subst hx; subst hy; exact hux
    | succ j => exact q3 j x' y (by simpa using hx) (by simpa using hy)
  | [], _ :: _, hr => hr.elim
  | .tmp _ :: _, [], hr => hr.elim
  | .cell _ _ :: _, [], hr => hr.elim

/-- A contract out of a function's body. -/
theorem FC_body {C : Ctx} {f : Nat} {fn : Func} {body : Code} {args : List AV} {rs0 rs1 : List (Nat × Nat × Res)} {r : AV} (hf : C.P.funcs[f]? = some fn) (hb : fn.body = some body) (hn : args.length ≤ fn.ntmps)
    (h : lwp C body ⟨fn.ntmps, argT 0 args, rs0⟩ (Fin C fn r rs1)) : FC C f args rs0 r rs1 := by
  refine ⟨?_⟩
  intro e g w vs hok hs hvs
  refine calls_of_wp hf hb ?_
  have h0 : S C e ⟨fn.ntmps, argT 0 args, rs0⟩ { tmps := vs ++ Array.replicate (fn.ntmps - vs.size) undef, defers := [] } w := by
    refine ⟨hok, g, ⟨rfl, ?_, fun d => ?_, hs.res, hs.uniq, hs.low, hs.ext, hs.hist⟩⟩
    · have := hvs.1; simp; omega
    · show AR (stR rs0).cur g w (e.N (stR rs0) g) (lookT d (argT 0 args)) _
      rw [lookT_arg]
      simp only [Nat.zero_le, if_true, Nat.sub_zero]
      cases hd : args[d]? with
      | none => simp [List.getD, hd]; exact .any _
      | some x =>
        have hlt : d < vs.size := by rw [hvs.1]; exact (List.getElem?_eq_some_iff.1 hd).1
        have hv : vs[d]? = some vs[d] := Array.getElem?_eq_getElem hlt
        have : (vs ++ Array.replicate (fn.ntmps - vs.size) undef).getD d undef = vs[d] := by
          simp [Array.getD_eq_getD_getElem?, Array.getElem?_append_left hlt, hv]
        rw [this]
        simp only [List.getD, hd, Option.getD_some]
        exact hvs.2 d x _ hd hv
  refine wp_mono (h e _ w h0) ?_
  rintro x a' w' ⟨st', ⟨_, g', hs'⟩, hfin⟩
  obtain ⟨l, hl, rfl⟩ := hfin.res
  obtain ⟨us, r1, r2, r3⟩ := resK_run hs' hl
  obtain ⟨f1, f2⟩ := hs'.final hfin.sub hfin.ins
  have key : ∃ v, (results fn a'.tmps).run C.P w' = .ok v w' ∧ AR st'.cur g' w' (e.N st' g') (resV l) v := by
    have hm : (fn.results.mapM (rvS a')).run C.P w' = .ok us.toArray w' := by
      rw [Array.mapM_eq_mapM_toList]
      simp only [Sem.run_map, r1, Result.andThen_ok]
    refine ⟨if h : us.toArray.size = 1 then us.toArray[0] else .tuple us.toArray, ?_, ?_⟩
    · rw [results_eq, Sem.run_bind, hm]; rfl
    · by_cases h1 : us.toArray.size = 1
      · rw [dif_pos h1]
        have hl1 : l.length = 1 := by rw [← r2]; simpa using h1
        match l, hl1 with
        | [x], _ =>
          refine r3 0 x _ rfl ?_
          rw [List.getElem?_eq_getElem (by simpa using (by simpa using h1 : us.length = 1) ▸ Nat.one_pos)]
          rfl
      · rw [dif_neg h1]
        have hne : l.length ≠ 1 := by rw [← r2]; simpa using h1
        have : resV l = .tup l := by
          match l, hne with
          | [], _ => rfl
          | [_], h => simp at h
          | _ :: _ :: _, _ => rfl
        rw [this]
        exact .tup _ _ (by simpa using r2) (fun j x y hx hy => r3 j x y hx (by simpa using hy))
  obtain ⟨v, k1, k2⟩ := key
  have fin : a'.defers = [] ∧ ∃ v, (results fn a'.tmps).run C.P w' = .ok v w' ∧ ∃ v' g', Ending.returned v = .returned v' ∧ SR C (e.re (stR rs1) g') (stR rs1) g' act0 w' ∧ AR (stR rs1).cur g' w' (e.N (stR rs1) g') (resV l) v' ∧ ∀ k, domR rs1 k = true → e.cur0 k < (stR rs1).cur k ∨ e.cur0 k = (stR rs1).cur k ∧ g' k = e.g0 k :=
    ⟨hs'.defers, v, k1, v, g', rfl, f1, f2 _ _ hfin.inr k2, fun k hk => by
      have := hs'.hist k
      have hc : st'.cur k = (stR rs1).cur k := by simp only [St.cur]; rw [hfin.sub k hk]
      rwa [hc] at this⟩
  rcases hfin.exit with rfl | rfl
  · exact fin
  · exact fin

end Go.Proofs.YtjbhpoolghfhiaaDoor
namespace Go.Proofs.YtjbhpoolghfhiaaDoor
set_option linter.unusedVariables false
set_option linter.unusedSimpArgs false
set_option maxHeartbeats 10000000
open Go

/-- A call of this function enters its body. -/
def Enters (P : Program) (f : Nat) : Prop := ∀ (args : Array Value) (w : World), (callFunc f args).run P w = .ok (.enter f args) w

def none0 : Nat → Bool := fun _ => false

theorem AR.any_cur {cur cur' : Nat → Nat} {g g' : Gh} {w w' : World} {N N' : Nat → Prop} {x : AV} {v : Value} (h : AR cur g w N x v) (hw : within none0 x = true) (hs : w.heap.size ≤ w'.heap.size)
    (hk : ∀ b, b < w.heap.size → ¬ N b → w'.heap[b]? = w.heap[b]? ∧ ¬ N' b) : AR cur' g' w' N' x v := by
  have := h.limit hw id (fun _ => 0) (cur' := cur') (g' := g') hs hk (fun k hk => by simp [none0] at hk)
  rwa [ren_id] at this

/-- A pure contract, used: nothing that was there turns. -/
theorem FC.use0 {C : Ctx} {f : Nat} {args : List AV} {r : AV} (hf : FC C f args [] r []) (hr : within none0 r = true) {w : World} (hG : C.G w) (hgs : C.gs ≤ w.heap.size) {av : Nat → Prop} (hav : ∀ b, av b → b < w.heap.size)
    {cur : Nat → Nat} {g : Gh} {vs : Array Value} (ha : withinL none0 args = true) (hvs : PW cur g w av args vs) :
    Calls C.P f vs w fun x w' => ∃ v, x = .returned v ∧ Ext w (fun _ => False) w' (fun _ => False) ∧ ∀ cur' g', AR cur' g' w' av r v := by
  let e : Env := ⟨w, fun _ => False, av, (stR []).cur, g⟩
  have hok : e.ok C := ⟨hG, hgs, fun b h => h.elim, hav⟩
  have hno : ∀ g b, ¬ own (stR []) g b := fun g b ⟨k, hk⟩ => by simp [blk, lookR] at hk
  have hs : SR C e (stR []) g act0 w := ⟨rfl, rfl, fun d => .any _, fun k => trivial, fun k k' b hk => by simp [blk, lookR] at hk, fun k b hk => by simp [blk, lookR] at hk, ⟨rfl, rfl, rfl, Nat.le_refl _, fun b _ _ => ⟨rfl, hno g b⟩⟩, fun _ => .inr ⟨rfl, rfl⟩⟩
  refine (hf.run e g w vs hok hs ⟨hvs.1, fun j x y hx hy => ?_⟩).mono ?_
  · exact (hvs.2 j x y hx hy).any_cur (withinL_get ha j x hx) (Nat.le_refl _) (fun b _ hn => ⟨rfl, fun h => h.elim hn (hno g b)⟩)
  · rintro x w' ⟨v, g', rfl, hs', hv, _⟩
    refine ⟨v, rfl, ⟨hs'.ext.os, hs'.ext.tape, hs'.ext.output, hs'.ext.size, fun b hb hn => ⟨(hs'.ext.block b hb hn).1, hn⟩⟩, fun cur' g'' => ?_⟩
    exact hv.any_cur hr (Nat.le_refl _) (fun b _ hn => ⟨rfl, fun h => hn (.inl h)⟩)

/-- A value handed on for reading; what is owned is lent. -/
inductive Bor (l : List Loc) (st : St) : AV → AV → Prop
  | same (x : AV) (h : within none0 x = true) : Bor l st x x
  | sl (k ver e sz : Nat) (rows : List (List AV)) (rowsR : List (List RV)) (hl : .R k ∈ l) (hk : lookR k st.rs = (ver, .sl e sz rows)) (hn : rowsR.length = rows.length) (hm : ∀ (i : Nat) (row : List AV) (rowR : List RV), rows[i]? = some row → rowsR[i]? = some rowR → rowR.length = row.length)
      (h : ∀ (i j : Nat) (row : List AV) (rowR : List RV) (x : AV) (y : RV), rows[i]? = some row → rowsR[i]? = some rowR → row[j]? = some x → rowR[j]? = some y → Bor l st x (.r y)) : Bor l st (.os k ver) (.r (.rs sz rowsR))
  | bx (k ver : Nat) (cells : List AV) (rowR : List RV) (hl : .R k ∈ l) (hk : lookR k st.rs = (ver, .bx cells)) (hn : rowR.length = cells.length)
      (h : ∀ (j : Nat) (x : AV) (y : RV), cells[j]? = some x → rowR[j]? = some y → Bor l st x (.r y)) : Bor l st (.os k ver) (.r (.rp rowR))
  | rf (k ver off : Nat) (cells : List AV) (rowR : List RV) (hl : .R k ∈ l) (hk : lookR k st.rs = (ver, .bx cells)) (hn : rowR.length = cells.length - off)
      (h : ∀ (j : Nat) (x : AV) (y : RV), cells[off + j]? = some x → rowR[j]? = some y → Bor l st x (.r y)) : Bor l st (.rf k ver off) (.r (.rp rowR))
  | agg (cs : List AV) (ys : List RV) (hn : ys.length = cs.length) (h : ∀ (j : Nat) (x : AV) (y : RV), cs[j]? = some x → ys[j]? = some y → Bor l st x (.r y)) : Bor l st (.agg cs) (.agg (ys.map .r))

theorem Bor_ok' {C : Ctx} {l : List Loc} {st st' : St} {x y : AV} (h : Bor l st x y) {e : Env} {g : Gh} {a : Act} {w : World} (hs : SR C e st' g a w) (hl : Ag l st st') {N' : Nat → Prop} (hN : ∀ k b, Loc.R k ∈ l → blk st' g k = some b → ¬ N' b) (hN2 : ∀ b, N' b → e.N st' g b) : ∀ {v : Value}, AR st'.cur g w (e.N st' g) x v → ∀ cur' g', AR cur' g' w N' y v := by
  induction h with
  | same x h => intro v hv cur' g'; exact hv.any_cur h (Nat.le_refl _) (fun _ _ hn => ⟨rfl, fun h => hn (hN2 _ h)⟩)
  | sl k ver el sz rows rowsR hl' hk hn hm _ ih =>
    intro v hv cur' g'
    have hk' := (hl.R hl').trans hk
    obtain ⟨xs, hown, hw, har⟩ := sl_cells hs hk'
    rw [inv_os hv (curk k hk').symm]
    rcases hown.2 with ⟨h4, h5⟩ | ⟨b, cap, cu, hv', hb0, hh, hnc, hcm, hcs, ht⟩
    · have : rowsR = [] := List.length_eq_zero_iff.1 (by omega)
      rw [h4, this]; exact .r (.nil sz)
    · rw [hv', ← hn]
      have hlt : ∀ i j, i < rowsR.length → j < sz → i * sz + j < xs.length := fun i j hi hj => by
        rw [hown.1]
        have := Nat.mul_le_mul_right sz (show i + 1 ≤ rows.length by omega)
        rw [Nat.succ_mul] at this; omega
      have hmr : ∀ (i : Nat) (rowR : List RV), rowsR[i]? = some rowR → ∃ row, rows[i]? = some row ∧ rowR.length = row.length ∧ row.length = sz := fun i rowR hr => by
        have hi := (List.getElem?_eq_some_iff.1 hr).1
        have hr' : rows[i]? = some rows[i] := List.getElem?_eq_getElem (by omega)
        exact ⟨_, hr', hm i _ _ hr' hr, hw _ (List.mem_of_getElem? hr')⟩
      refine .r (.rs sz rowsR ⟨b, 0, none⟩ cap (fun i j => xs.getD (i * sz + j) undef) (fun _ => ⟨?_, fun h => ?_, rfl⟩) (by omega) (fun row hrow => ?_) (fun i j hi hj => ?_) (fun i j row x hi hj => ?_))
      · exact (hs.low k b (by simp only [blk, hk']; rw [hv']; rfl)).2.1
      · exact hN k b hl' (by simp only [blk, hk']; rw [hv']; rfl) h
      · obtain ⟨i, hi, rfl⟩ := List.getElem_of_mem hrow
        obtain ⟨row, _, h2, h3⟩ := hmr i _ (List.getElem?_eq_getElem hi)
        omega
      · have := hown.cells (g := b) (by rw [hv']; rfl) (i * sz + j) _ (List.getElem?_eq_getElem (hlt i j hi hj))
        rw [addr_add] at this
        simp only [List.getD, List.getElem?_eq_getElem (hlt i j hi hj), Option.getD_some]
        exact this
      · obtain ⟨row0, h1, h2, h3⟩ := hmr i _ hi
        have hi' := (List.getElem?_eq_some_iff.1 hi).1
        have hj' := (List.getElem?_eq_some_iff.1 hj).1
        have hx0 : row0[j]? = some row0[j] := List.getElem?_eq_getElem (by omega)
        have hy := List.getElem?_eq_getElem (hlt i j hi' (by omega))
        have h6 := ih i j row0 row _ x h1 hi hx0 hj (har i j row0 _ _ h1 hx0 hy) cur' g'
        simp only [List.getD, hy, Option.getD_some]
        cases h6 with | r h6 => exact h6
  | bx k ver cells rowR hl' hk hn _ ih =>
    intro v hv cur' g'
    have hk' := (hl.R hl').trans hk
    obtain ⟨b, hb, hh⟩ := held_bx hs hk'
    rw [inv_os hv (curk k hk').symm, hb]
    obtain ⟨ad, c, he, _, hc⟩ := hh
    simp only [Value.pointer.injEq, Option.some.injEq] at he
    subst he
    refine .r (.rp rowR ⟨b, 0, none⟩ c (fun _ => ⟨(hs.low k b (blk_bx hk' hb)).2.1, fun h => hN k b hl' (blk_bx hk' hb) h, rfl⟩) (fun j hj => ?_) (fun j x hj => ?_))
    · exact (hc j _ (List.getElem?_eq_getElem (by omega))).1
    · have hj' := (List.getElem?_eq_some_iff.1 hj).1
      have hx0 : cells[j]? = some cells[j] := List.getElem?_eq_getElem (by omega)
      have h6 := ih j _ x hx0 hj (hc j _ hx0).2 cur' g'
      cases h6 with | r h6 => exact h6
  | rf k ver off cells rowR hl' hk hn _ ih =>
    intro v hv cur' g'
    have hk' := (hl.R hl').trans hk
    obtain ⟨b, hb, hh⟩ := held_bx hs hk'
    obtain ⟨b', hb', rfl⟩ := inv_rf hv (curk k hk').symm
    have : b' = b := by rw [hb] at hb'; simp at hb'; exact hb'.symm
    subst this
    obtain ⟨ad, c, he, _, hc⟩ := hh
    simp only [Value.pointer.injEq, Option.some.injEq] at he
    subst he
    refine .r (.rp rowR ⟨b', off, none⟩ (fun j => c (off + j)) (fun _ => ⟨(hs.low k b' (blk_bx hk' hb)).2.1, fun h => hN k b' hl' (blk_bx hk' hb) h, rfl⟩) (fun j hj => ?_) (fun j x hj => ?_))
    · have := (hc (off + j) _ (List.getElem?_eq_getElem (by omega))).1
      simpa using this
    · have hj' := (List.getElem?_eq_some_iff.1 hj).1
      have hx0 : cells[off + j]? = some cells[off + j] := List.getElem?_eq_getElem (by omega)
      have h6 := ih j _ x hx0 hj (hc (off + j) _ hx0).2 cur' g'
      cases h6 with | r h6 => exact h6
  | agg cs ys hn _ ih =>
    intro v hv cur' g'
    obtain ⟨xs, rfl, p1, p2⟩ := inv_agg hv
    refine .agg _ _ (by simp; omega) (fun j x y hx hy => ?_)
    rw [List.getElem?_map] at hx
    cases hj : ys[j]? with
    | none => simp [hj] at hx
    | some z =>
      simp [hj] at hx
      subst hx
      have hj' := (List.getElem?_eq_some_iff.1 hj).1
      have hc0 : cs[j]? = some cs[j] := List.getElem?_eq_getElem (by omega)
      exact ih j _ z hc0 hj (p2 j _ y hc0 hy) cur' g'

theorem Bor_ok {C : Ctx} {l : List Loc} {st st' : St} {x y : AV} (h : Bor l st x y) {e : Env} {g : Gh} {a : Act} {w : World} (hs : SR C e st' g a w) (hl : Ag l st st') {v : Value} (hv : AR st'.cur g w (e.N st' g) x v) (cur' : Nat → Nat) (g' : Gh) : AR cur' g' w (fun _ => False) y v :=
  Bor_ok' h hs hl (fun _ _ _ _ h => h) (fun _ h => h.elim) hv cur' g'

/-- A value without pointers into what is read. -/
def flatR : RV → Bool
  | .v _ => true
  | .nan => true
  | _ => false
mutual
def flatAV : AV → Bool
  | .r x => flatR x
  | .agg cs => flatL cs
  | .tup cs => flatL cs
  | .any => true
  | _ => false
def flatL : List AV → Bool
  | [] => true
  | x :: l => flatAV x && flatL l
end

theorem flatL_get : ∀ {l : List AV}, flatL l = true → ∀ (j : Nat) (x : AV), l[j]? = some x → flatAV x = true
  | y :: l, h, 0, x, hx => by
    simp only [flatL, Bool.and_eq_true] at h
    simp at hx; subst hx; exact h.1
  | y :: l, h, j + 1, x, hx => by
    simp only [flatL, Bool.and_eq_true] at h
    exact flatL_get h.2 j x (by simpa using hx)

theorem AR_flat {cur cur' : Nat → Nat} {g g' : Gh} {w w' : World} {N N' : Nat → Prop} {x : AV} {v : Value} (h : AR cur g w N x v) (hf : flatAV x = true) : AR cur' g' w' N' x v := by
  induction h with
  | r h => cases h <;> first | exact .r (.v _) | (simp [flatAV, flatR] at hf; done) | exact .r (.nan _ ‹_›)
  | os _ _ _ _ _ => simp [flatAV] at hf
  | rf _ _ _ _ _ _ => simp [flatAV] at hf
  | re _ _ _ _ _ _ _ _ => simp [flatAV] at hf
  | agg cs xs hs _ ih => exact .agg cs xs hs (fun j x y hx hy => ih j x y hx hy (flatL_get (by simpa [flatAV] using hf) j x hx))
  | tup cs xs hs _ ih => exact .tup cs xs hs (fun j x y hx hy => ih j x y hx hy (flatL_get (by simpa [flatAV] using hf) j x hx))
  | any v => exact .any v

theorem run_callv {P : Program} {o : Oper} {c : Call} {fop : Operand} {f : Nat} {vs : Array Value} {a : Act} {w : World} (ho : o.op = .call c) (hc : c.callee = .value fop) (hf : a.eval fop = .func (.func f) #[] vs) (he : Enters P f) :
    (execOp a.eval o).run P w = .ok (.enter f (c.args.map a.eval ++ vs)) w := by
  simp [execOp, ho, resolve, hc, Deferred.ofValue, hf, invoke, he _ w]

theorem wp_enter {P : Program} {o : Oper} {d f : Nat} {a : Act} {w : World} {args : Array Value} {next : Act → World → Prop} {Q : Exit → Act → World → Prop} (hd : o.dst = some d) (hr : (execOp a.eval o).run P w = .ok (.enter f args) w)
    (h : Calls P f args w fun x w' => ∃ v, x = .returned v ∧ next (a.put (some d) v) w') : o.wp P a w next Q := by
  unfold Oper.wp
  rw [hr]
  show Calls P f args w _
  refine h.mono ?_
  rintro x w' ⟨v, rfl, hv⟩
  show next (a.put o.dst v) w'
  rw [hd]; exact hv

theorem G_of {C : Ctx} {e : Env} {st : St} {a : Act} {w : World} (h : S C e st a w) : C.G w ∧ C.gs ≤ w.heap.size := by
  refine ⟨h.G, ?_⟩
  obtain ⟨ho, g, h⟩ := h
  have := ho.gs; have := h.ext.size; omega

/-- A world in which nothing that was there has turned. -/
theorem SR.grow {C : Ctx} {e : Env} {st : St} {g : Gh} {a : Act} {w w' : World} (h : SR C e st g a w) (hx : Ext w (fun _ => False) w' (fun _ => False)) : SR C e st g a w' ∧ ∀ x v, AR st.cur g w (e.N st g) x v → AR st.cur g w' (e.N st g) x v := by
  have hx' : Ext w (own st g) w' (own st g) := ⟨hx.os, hx.tape, hx.output, hx.size, fun b hb hn => ⟨(hx.block b hb (fun h => h)).1, hn⟩⟩
  have hc : ∀ k, st.cur k < st.cur k ∨ st.cur k = st.cur k ∧ g k = g k := fun k => .inr ⟨rfl, rfl⟩
  refine ⟨⟨h.defers, h.size, fun d => (h.temps d).lift hx' hc, fun k => (h.res k).lift hx' hc rfl (fun hne b hb => ?_), h.uniq, fun k b hb => ?_, h.ext.trans hx', h.hist⟩, fun x v hv => hv.lift hx' hc⟩
  · have hbk : blk st g k = some b := by
      simp only [blk]; revert hne; cases (lookR k st.rs).2 <;> intro hne <;> first | exact absurd rfl hne | exact hb
    exact (hx.block b (h.low k b hbk).2.1 (fun h => h)).1
  · obtain ⟨h1, h2, h3⟩ := h.low k b hb
    exact ⟨h1, by have := hx.size; omega, h3⟩

theorem inv_fn {cur : Nat → Nat} {g : Gh} {w : World} {N : Nat → Prop} {f : Nat} {caps : List RV} {v : Value} (h : AR cur g w N (.r (.fn f caps)) v) : ∃ vs, v = .func (.func f) #[] vs ∧ vs.size = caps.length ∧ ∀ (j : Nat) (x : RV) (y : Value), caps[j]? = some x → vs[j]? = some y → RR w N x y := by
  cases h with | r h => cases h with | fn _ _ vs h1 h2 => exact ⟨vs, rfl, h1, h2⟩

/-- The arguments of a call, as they stand, and what the function value has caught. -/
theorem args_ok {C : Ctx} {e : Env} {st st' : St} {g : Gh} {a : Act} {w : World} (hs : SR C e st' g a w) {fop : Operand} {l : List Operand} (ha : Ag (rd (fop :: l)) st st') {f : Nat} {caps : List RV} (hf : ev st fop = .r (.fn f caps)) {args : Array Operand} (hl : args.toList = l) :
    ∃ vs, a.eval fop = .func (.func f) #[] vs ∧ PW st'.cur g w (e.N st' g) (l.map (ev st) ++ caps.map AV.r) (args.map a.eval ++ vs) := by
  have h1 := arg hs ha (x := fop) (by simp)
  rw [hf] at h1
  obtain ⟨vs, hq, h2, h3⟩ := inv_fn h1
  refine ⟨vs, hq, by simp [← hl, h2], fun j x y hx hy => ?_⟩
  have hargs : (args.map a.eval).size = l.length := by simp [← hl]
  by_cases hj : j < l.length
  · rw [List.getElem?_append_left (by simpa using hj), List.getElem?_map, List.getElem?_eq_getElem hj] at hx
    rw [Array.getElem?_append_left (by omega), Array.getElem?_map] at hy
    have : args[j]? = some l[j] := by rw [← Array.getElem?_toList, hl]; exact List.getElem?_eq_getElem hj
    rw [this] at hy
    simp at hx hy
    subst hx; subst hy
    exact arg hs ha (List.mem_cons_of_mem _ (List.getElem_mem hj))
  · rw [List.getElem?_append_right (by simpa using hj), List.length_map, List.getElem?_map] at hx
    rw [Array.getElem?_append_right (by omega), hargs] at hy
    cases hc : caps[j - l.length]? with
    | none => simp [hc] at hx
    | some z => simp [hc] at hx; subst hx; exact .r (h3 _ _ _ hc hy)

/-- A call of a pure function: what it is handed is read-only. -/
theorem LStep_pure {C : Ctx} {o : Oper} {st : St} {d f : Nat} {c : Call} {fop : Operand} {caps : List RV} {r : AV} (hd : o.dst = some d) (hdn : d < st.n) (ho : o.op = .call c) (hc : c.callee = .value fop) (hf : ev st fop = .r (.fn f caps)) (he : Enters C.P f)
    (hargs : withinL none0 (c.args.toList.map (ev st) ++ caps.map AV.r) = true) (hr : within none0 r = true) (hfc : FC C f (c.args.toList.map (ev st) ++ caps.map AV.r) [] r []) :
    LStep C o st.n ((rd (fop :: c.args.toList)).map fun x => (x, st.get x)) [(.T d, .a r)] := by
  intro e st' a w next Q hn hS ha hnext
  obtain ⟨hG, hgs⟩ := G_of hS
  obtain ⟨heok, g, hs⟩ := hS
  replace ha := Agree_of.1 ha
  obtain ⟨vs, hv, hpw⟩ := args_ok hs ha hf rfl
  refine wp_enter hd (run_callv ho hc hv he) ?_
  refine (hfc.use0 hr hG hgs (av := e.N st' g) (fun b hb => hb.elim (fun h => by have := heok.av b h; have := hs.ext.size; omega) (fun ⟨k, h⟩ => (hs.low k b h).2.1)) hargs hpw).mono ?_
  rintro x w' ⟨v, rfl, hx, hav⟩
  obtain ⟨hs', _⟩ := hs.grow hx
  exact ⟨v, rfl, hnext _ _ ⟨heok, g, hs'.put (by omega) (hav _ _)⟩⟩

/-- A call of a pure function: what it is handed is lent to it. -/
theorem LStep_lend {C : Ctx} {o : Oper} {st : St} {d f : Nat} {c : Call} {fop : Operand} {caps : List RV} {r : AV} {l : List Loc} {ys : List AV} (hd : o.dst = some d) (hdn : d < st.n) (ho : o.op = .call c) (hc : c.callee = .value fop) (hf : ev st fop = .r (.fn f caps)) (he : Enters C.P f)
    (hlen : ys.length = (c.args.toList.map (ev st) ++ caps.map AV.r).length) (hbor : ∀ (j : Nat) (x y : AV), (c.args.toList.map (ev st) ++ caps.map AV.r)[j]? = some x → ys[j]? = some y → Bor l st x y) (hys : withinL none0 ys = true)
    (hr : within none0 r = true) (hflat : flatAV r = true) (hfc : FC C f ys [] r []) :
    LStep C o st.n ((rd (fop :: c.args.toList) ++ l).map fun x => (x, st.get x)) [(.T d, .a r)] := by
  intro e st' a w next Q hn hS ha hnext
  obtain ⟨hG, hgs⟩ := G_of hS
  obtain ⟨heok, g, hs⟩ := hS
  replace ha := Agree_of.1 ha
  obtain ⟨vs, hv, hpw⟩ := args_ok hs ha.left hf rfl
  refine wp_enter hd (run_callv ho hc hv he) ?_
  have hpw' : PW (fun _ => 0) (fun _ => undef) w (fun _ => False) ys (c.args.map a.eval ++ vs) := ⟨by rw [hlen]; exact hpw.1, fun j x y hx hy => by
    have hj : j < (c.args.toList.map (ev st) ++ caps.map AV.r).length := by rw [← hlen]; exact (List.getElem?_eq_some_iff.1 hx).1
    have hj' := List.getElem?_eq_getElem hj
    exact Bor_ok (hbor j _ x hj' hx) hs ha.right (hpw.2 j _ y hj' hy) _ _⟩
  refine (hfc.use0 hr hG hgs (av := fun _ => False) (fun b hb => hb.elim) hys hpw').mono ?_
  rintro x w' ⟨v, rfl, hx, hav⟩
  obtain ⟨hs', _⟩ := hs.grow hx
  exact ⟨v, rfl, hnext _ _ ⟨heok, g, hs'.put (by omega) (AR_flat (hav (fun _ => 0) (fun _ => undef)) hflat)⟩⟩

/-- A call of the function comes to a value; what was there is as it was. -/
def CallOk (C : Ctx) (f : Nat) (args : List AV) (r : AV) : Prop :=
  ∀ (cur : Nat → Nat) (g : Gh) (w : World) (av : Nat → Prop) (vs : Array Value), C.G w → C.gs ≤ w.heap.size → (∀ b, av b → b < w.heap.size) → PW cur g w av args vs →
    (∃ v w', (callFunc f vs).run C.P w = .ok (.value v) w' ∧ Ext w (fun _ => False) w' (fun _ => False) ∧ ∀ cur' g', AR cur' g' w' av r v) ∨
    ((callFunc f vs).run C.P w = .ok (.enter f vs) w ∧ Calls C.P f vs w fun x w' => ∃ v, x = .returned v ∧ Ext w (fun _ => False) w' (fun _ => False) ∧ ∀ cur' g', AR cur' g' w' av r v)

theorem CallOk_of {C : Ctx} {f : Nat} {args : List AV} {r : AV} (hf : FC C f args [] r []) (he : Enters C.P f) (ha : withinL none0 args = true) (hr : within none0 r = true) : CallOk C f args r :=
  fun _ _ w _ vs hG hgs hav hvs => .inr ⟨he vs w, hf.use0 hr hG hgs hav ha hvs⟩

/-- A call of a function that the machine does by itself. -/
theorem CallOk_extern {C : Ctx} {f : Nat} {fn : Func} {e : Array Value → Sem Value} {args : List AV} {r : AV} (hf : C.P.funcs[f]? = some fn) (hname : (fn.name == "runtime.NumGoroutine") = false) (hb : fn.body.isNone = true) (hn : Extern.findNext fn = none) (he : Extern.find fn = some e)
    (h : ∀ (cur : Nat → Nat) (g : Gh) (w : World) (av : Nat → Prop) (vs : Array Value), PW cur g w av args vs → ∃ v, (e vs).run C.P w = .ok v w ∧ ∀ cur' g', AR cur' g' w av r v) : CallOk C f args r := by
  intro cur g w av vs _ _ _ hvs
  obtain ⟨v, h1, h2⟩ := h cur g w av vs hvs
  refine .inl ⟨v, w, ?_, Ext.refl _ _, h2⟩
  rw [run_callFunc_extern hf hname hb hn he, h1]
  rfl

/-- Lent one by one. -/
def lendL (f : AV → (List Loc → RV → Prop) → Prop) : List AV → (List Loc → List RV → Prop) → Prop
  | [], K => K [] []
  | x :: xs, K => f x fun l y => lendL f xs fun l' ys => K (l ++ l') (y :: ys)
def lendR (f : AV → (List Loc → RV → Prop) → Prop) : List (List AV) → (List Loc → List (List RV) → Prop) → Prop
  | [], K => K [] []
  | r :: rs, K => lendL f r fun l y => lendR f rs fun l' ys => K (l ++ l') (y :: ys)

/-- What is owned is lent for reading. -/
def lendC : Nat → St → AV → (List Loc → RV → Prop) → Prop
  | _, _, .r x, K => K [] x
  | n + 1, st, .os k ver, K => match lookR k st.rs with
    | (cv, .sl _ sz rows) => ver = cv ∧ lendR (lendC n st) rows fun l R => K (.R k :: l) (.rs sz R)
    | (cv, .bx cells) => ver = cv ∧ lendL (lendC n st) cells fun l R => K (.R k :: l) (.rp R)
    | _ => False
  | n + 1, st, .rf k ver off, K => match lookR k st.rs with
    | (cv, .bx cells) => ver = cv ∧ lendL (lendC n st) (cells.drop off) fun l R => K (.R k :: l) (.rp R)
    | _ => False
  | _, _, _, _ => False

def lendA (st : St) : AV → (List Loc → AV → Prop) → Prop
  | .agg cs, K => lendL (lendC 4 st) cs fun l ys => K l (.agg (ys.map .r))
  | .any, K => K [] .any
  | x, K => lendC 4 st x fun l y => K l (.r y)

def lendAs (st : St) : List AV → (List Loc → List AV → Prop) → Prop
  | [], K => K [] []
  | x :: xs, K => lendA st x fun l y => lendAs st xs fun l' ys => K (l ++ l') (y :: ys)

theorem Bor.mono {l l' : List Loc} {st : St} {x y : AV} (h : Bor l st x y) (hl : ∀ k, k ∈ l → k ∈ l') : Bor l' st x y := by
  induction h with
  | same x h => exact .same x h
  | sl k ver e sz rows rowsR h1 h2 h3 h4 _ ih => exact .sl k ver e sz rows rowsR (hl _ h1) h2 h3 h4 ih
  | bx k ver cells rowR h1 h2 h3 _ ih => exact .bx k ver cells rowR (hl _ h1) h2 h3 ih
  | rf k ver off cells rowR h1 h2 h3 _ ih => exact .rf k ver off cells rowR (hl _ h1) h2 h3 ih
  | agg cs ys h1 _ ih => exact .agg cs ys h1 ih

theorem lendL_ok {st : St} {f : AV → (List Loc → RV → Prop) → Prop} (hf : ∀ x K, f x K → ∃ l y, K l y ∧ Bor l st x (.r y)) : ∀ {xs : List AV} {K : List Loc → List RV → Prop}, lendL f xs K →
    ∃ l ys, K l ys ∧ ys.length = xs.length ∧ ∀ (j : Nat) (x : AV) (y : RV), xs[j]? = some x → ys[j]? = some y → Bor l st x (.r y)
  | [], K, h => ⟨[], [], h, rfl, fun j x y hx => by simp at hx⟩
  | x :: xs, K, h => by
    obtain ⟨l, y, h1, h2⟩ := hf _ _ h
    obtain ⟨l', ys, h3, h4, h5⟩ := lendL_ok hf h1
    refine ⟨_, _, h3, by simp [h4], fun j x' y' hx hy => ?_⟩
    cases j with
    | zero => simp at hx hy; subst hx; subst hy; exact h2.mono fun k hk => List.mem_append_left _ hk
    | succ j => exact (h5 j x' y' (by simpa using hx) (by simpa using hy)).mono fun k hk => List.mem_append_right _ hk

theorem lendR_ok {st : St} {f : AV → (List Loc → RV → Prop) → Prop} (hf : ∀ x K, f x K → ∃ l y, K l y ∧ Bor l st x (.r y)) : ∀ {xs : List (List AV)} {K : List Loc → List (List RV) → Prop}, lendR f xs K →
    ∃ l ys, K l ys ∧ ys.length = xs.length ∧ (∀ (i : Nat) (row : List AV) (rowR : List RV), xs[i]? = some row → ys[i]? = some rowR → rowR.length = row.length) ∧
      ∀ (i j : Nat) (row : List AV) (rowR : List RV) (x : AV) (y : RV), xs[i]? = some row → ys[i]? = some rowR → row[j]? = some x → rowR[j]? = some y → Bor l st x (.r y)
  | [], K, h => ⟨[], [], h, rfl, fun i row rowR hx => by simp at hx, fun i j row rowR x y hx => by simp at hx⟩
  | x :: xs, K, h => by
    obtain ⟨l, y, h1, h2, h2'⟩ := lendL_ok hf h
    obtain ⟨l', ys, h3, h4, h5, h6⟩ := lendR_ok hf h1
    refine ⟨_, _, h3, by simp [h4], fun i row rowR hx hy => ?_, fun i j row rowR x' y' hx hy hxj hyj => ?_⟩
    · cases i with
      | zero => simp at hx hy; subst hx; subst hy; exact h2
      | succ i => exact h5 i row rowR (by simpa using hx) (by simpa using hy)
    · cases i with
      | zero => simp at hx hy; subst hx; subst hy; exact (h2' j x' y' hxj hyj).mono fun k hk => List.mem_append_left _ hk
      | succ i => exact (h6 i j row rowR x' y' (by simpa using hx) (by simpa using hy) hxj hyj).mono fun k hk => List.mem_append_right _ hk

theorem lendC_ok {st : St} : ∀ (n : Nat) (x : AV) (K : List Loc → RV → Prop), lendC n st x K → ∃ l y, K l y ∧ Bor l st x (.r y) := by
  intro n
  induction n with
  | zero =>
    intro x K h
    cases x <;> simp only [lendC] at h <;> first | exact h.elim | exact ⟨_, _, h, .same _ rfl⟩
  | succ n ih =>
    intro x K h
    cases x with
    | r x => simp only [lendC] at h; exact ⟨_, _, h, .same _ rfl⟩
    | os k ver =>
      simp only [lendC] at h
      split at h
      · rename_i cv e sz rows hk
        obtain ⟨rfl, h⟩ := h
        obtain ⟨l, ys, h1, h2, h3, h4⟩ := lendR_ok ih h
        exact ⟨_, _, h1, .sl k ver e sz rows ys (by simp) hk h2 h3 (fun i j row rowR x y a1 a2 a3 a4 => (h4 i j row rowR x y a1 a2 a3 a4).mono fun k hk => List.mem_cons_of_mem _ hk)⟩
      · rename_i cv cells hk
        obtain ⟨rfl, h⟩ := h
        obtain ⟨l, ys, h1, h2, h3⟩ := lendL_ok ih h
        exact ⟨_, _, h1, .bx k ver cells ys (by simp) hk h2 (fun j x y a1 a2 => (h3 j x y a1 a2).mono fun k hk => List.mem_cons_of_mem _ hk)⟩
      · exact h.elim
    | rf k ver off =>
      simp only [lendC] at h
      split at h
      · rename_i cv cells hk
        obtain ⟨rfl, h⟩ := h
        obtain ⟨l, ys, h1, h2, h3⟩ := lendL_ok ih h
        exact ⟨_, _, h1, .rf k ver off cells ys (by simp) hk (by simpa using h2) (fun j x y a1 a2 => (h3 j x y (by simpa using a1) a2).mono fun k hk => List.mem_cons_of_mem _ hk)⟩
      · exact h.elim
    | _ => simp only [lendC] at h

theorem lendA_ok {st : St} {x : AV} {K : List Loc → AV → Prop} (h : lendA st x K) : ∃ l y, K l y ∧ Bor l st x y := by
  unfold lendA at h
  split at h
  · obtain ⟨l, ys, h1, h2, h3⟩ := lendL_ok (lendC_ok 4) h
    exact ⟨l, _, h1, .agg _ _ h2 h3⟩
  · exact ⟨_, _, h, .same _ rfl⟩
  · obtain ⟨l, y, h1, h2⟩ := lendC_ok 4 _ _ h
    exact ⟨l, _, h1, h2⟩

theorem lendAs_ok {st : St} : ∀ {xs : List AV} {K : List Loc → List AV → Prop}, lendAs st xs K →
    ∃ l ys, K l ys ∧ ys.length = xs.length ∧ ∀ (j : Nat) (x y : AV), xs[j]? = some x → ys[j]? = some y → Bor l st x y
  | [], K, h => ⟨[], [], h, rfl, fun j x y hx => by simp at hx⟩
  | x :: xs, K, h => by
    obtain ⟨l, y, h1, h2⟩ := lendA_ok h
    obtain ⟨l', ys, h3, h4, h5⟩ := lendAs_ok h1
    refine ⟨_, _, h3, by simp [h4], fun j x' y' hx hy => ?_⟩
    cases j with
    | zero => simp at hx hy; subst hx; subst hy; exact h2.mono fun k hk => List.mem_append_left _ hk
    | succ j => exact (h5 j x' y' (by simpa using hx) (by simpa using hy)).mono fun k hk => List.mem_append_right _ hk

theorem Bor_nil {st : St} {x y : AV} (h : Bor [] st x y) {cur : Nat → Nat} {g : Gh} {w : World} {N : Nat → Prop} : ∀ {v : Value}, AR cur g w N x v → AR cur g w N y v := by
  induction h with
  | same x h => exact id
  | sl k ver e sz rows rowsR h1 => simp at h1
  | bx k ver cells rowR h1 => simp at h1
  | rf k ver off cells rowR h1 => simp at h1
  | agg cs ys hn _ ih =>
    intro v hv
    obtain ⟨xs, rfl, p1, p2⟩ := inv_agg hv
    refine .agg _ _ (by simp; omega) (fun j x y hx hy => ?_)
    rw [List.getElem?_map] at hx
    cases hj : ys[j]? with
    | none => simp [hj] at hx
    | some z =>
      simp [hj] at hx
      subst hx
      have hj' := (List.getElem?_eq_some_iff.1 hj).1
      have hc0 : cs[j]? = some cs[j] := List.getElem?_eq_getElem (by omega)
      exact ih j _ z hc0 hj (p2 j _ y hc0 hy)

/-- A call, met by a contract: what it reads, what it writes. -/
def callT (C : Ctx) (sp : List AV → (AV → Prop) → Prop) (c : Call) (fop : Operand) (caps : List RV) (o : Oper) (st : St) (K : List Loc → List (Loc × Cont) → Prop) : Prop :=
  lendAs st (c.args.toList.map (ev st) ++ caps.map AV.r) fun l ys => sp ys fun r => within none0 r = true ∧ (l.isEmpty || flatAV r) = true ∧ match o.dst with
    | some d => d < st.n ∧ K (rd (fop :: c.args.toList) ++ l) [(.T d, .a r)]
    | none => K (rd (fop :: c.args.toList) ++ l) []

theorem upon_val {P : Program} {o : Oper} {a : Act} {w : World} {next : Act → World → Prop} {Q : Exit → Act → World → Prop} {v : Value} {w' : World} (hr : (execOp a.eval o).run P w = .ok (.value v) w') (h : next (a.put o.dst v) w') : o.wp P a w next Q := by
  unfold Oper.wp; rw [hr]; exact h

theorem upon_enter {P : Program} {o : Oper} {f : Nat} {a : Act} {w : World} {args : Array Value} {next : Act → World → Prop} {Q : Exit → Act → World → Prop} (hr : (execOp a.eval o).run P w = .ok (.enter f args) w)
    (h : Calls P f args w fun x w' => ∃ v, x = .returned v ∧ next (a.put o.dst v) w') : o.wp P a w next Q := by
  unfold Oper.wp
  rw [hr]
  show Calls P f args w _
  refine h.mono ?_
  rintro x w' ⟨v, rfl, hv⟩
  exact hv

theorem callT_ok {C : Ctx} {f : Nat} {sp : List AV → (AV → Prop) → Prop} (hok : ∀ args K, sp args K → ∃ r, CallOk C f args r ∧ K r) {c : Call} {fop : Operand} {caps : List RV} {o : Oper} {st : St} {K : List Loc → List (Loc × Cont) → Prop} (ho : o.op = .call c) (hc : c.callee = .value fop) (hf : ev st fop = .r (.fn f caps)) (h : callT C sp c fop caps o st K) :
    ∃ l outs, K l outs ∧ LStep C o st.n (l.map fun x => (x, st.get x)) outs := by
  unfold callT at h
  obtain ⟨l, ys, h1, hlen, hbor⟩ := lendAs_ok h
  obtain ⟨r, hr, hin, hfl, h2⟩ := hok _ _ h1
  have key : ∃ outs, K (rd (fop :: c.args.toList) ++ l) outs ∧ (match o.dst with | some d => d < st.n ∧ outs = [(.T d, .a r)] | none => outs = []) := by
    revert h2
    cases o.dst with
    | none => intro h2; exact ⟨_, h2, rfl⟩
    | some d => intro h2; exact ⟨_, h2.2, h2.1, rfl⟩
  obtain ⟨outs, hK, hdst⟩ := key
  refine ⟨_, outs, hK, ?_⟩
  intro e st' a w next Q hn hS ha hnext
  obtain ⟨hG, hgs⟩ := G_of hS
  obtain ⟨heok, g, hs⟩ := hS
  replace ha := Agree_of.1 ha
  obtain ⟨vs, hv, hpw⟩ := args_ok hs ha.left hf rfl
  have fin : ∀ v w', Ext w (fun _ => False) w' (fun _ => False) → AR st'.cur g w' (e.N st' g) r v → next (a.put o.dst v) w' := by
    intro v w' hx hav
    obtain ⟨hs', _⟩ := hs.grow hx
    refine hnext _ _ ⟨heok, g, ?_⟩
    revert hdst
    cases o.dst with
    | none => intro hd; subst hd; exact hs'
    | some d => rintro ⟨hd, rfl⟩; exact hs'.put (by rw [hn]; exact hd) hav
  have run : ∀ nx w', (callFunc f (c.args.map a.eval ++ vs)).run C.P w = .ok nx w' → (execOp a.eval o).run C.P w = .ok nx w' := by
    intro nx w' hq
    simp [execOp, ho, resolve, hc, Deferred.ofValue, hv, invoke, hq]
  have main : ∀ (av : Nat → Prop), (∀ b, av b → b < w.heap.size) → (∀ w' v, (∀ cur' g', AR cur' g' w' av r v) → AR st'.cur g w' (e.N st' g) r v) → (∃ cur1 g1, PW cur1 g1 w av ys (c.args.map a.eval ++ vs)) → o.wp C.P a w next Q := by
    rintro av hav hback ⟨cur1, g1, hpw'⟩
    rcases hr cur1 g1 w av _ hG hgs hav hpw' with ⟨v, w', k1, k2, k3⟩ | ⟨k1, k2⟩
    · exact upon_val (run _ _ k1) (fin v w' k2 (hback w' v k3))
    · refine upon_enter (run _ _ k1) (k2.mono ?_)
      rintro x w' ⟨v, rfl, hx, hav'⟩
      exact ⟨v, rfl, fin v w' hx (hback w' v hav')⟩
  cases l with
  | nil =>
    refine main (e.N st' g) (fun b hb => hb.elim (fun h => by have := heok.av b h; have := hs.ext.size; omega) (fun ⟨k, h⟩ => (hs.low k b h).2.1)) (fun w' v hq => hq _ _) ⟨st'.cur, g, by rw [hlen]; exact hpw.1, fun j x y hx hy => ?_⟩
    have hj : j < (c.args.toList.map (ev st) ++ caps.map AV.r).length := by rw [← hlen]; exact (List.getElem?_eq_some_iff.1 hx).1
    have hj' := List.getElem?_eq_getElem hj
    exact Bor_nil (hbor j _ x hj' hx) (hpw.2 j _ y hj' hy)
  | cons k0 l0 =>
    refine main (fun _ => False) (fun b hb => hb.elim) (fun w' v hq => AR_flat (hq (fun _ => 0) (fun _ => undef)) (by simpa using hfl)) ⟨fun _ => 0, fun _ => undef, by rw [hlen]; exact hpw.1, fun j x y hx hy => ?_⟩
    have hj : j < (c.args.toList.map (ev st) ++ caps.map AV.r).length := by rw [← hlen]; exact (List.getElem?_eq_some_iff.1 hx).1
    have hj' := List.getElem?_eq_getElem hj
    exact Bor_ok (hbor j _ x hj' hx) hs ha.right (hpw.2 j _ y hj' hy) _ _

end Go.Proofs.YtjbhpoolghfhiaaDoor
