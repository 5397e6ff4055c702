/- The operations that make slices do what is told of them. No condition: plain lemmas. -/
import Derived.Test.YtjbhpoolghfhiaaDoorAv11
import Derived.Laws.OwnMore
import Derived.Laws.MakeOwn
namespace Go.Proofs.YtjbhpoolghfhiaaDoor
set_option linter.unusedVariables false
set_option linter.unusedSimpArgs false
set_option maxHeartbeats 10000000
open Go

section
variable {C : Ctx}

theorem fillRows (sz : Nat) : ∀ (l : List (Nat × Value)) (k : Nat) (xs : Array Value), (∀ (i : Nat) (p : Nat × Value), l[i]? = some p → p.1 = k + i ∧ p.2.cells.size = sz) → (k + l.length) * sz ≤ xs.size →
    ∃ ys, Instr.fill (fun i => some (i * sz, sz)) xs l = some ys ∧ ys.size = xs.size ∧ (∀ p, p < k * sz → ys[p]? = xs[p]?) ∧
      ∀ (i : Nat) (p : Nat × Value), l[i]? = some p → ∀ j, j < sz → ys[(k + i) * sz + j]? = p.2.cells[j]?
  | [], k, xs, _, _ => ⟨xs, rfl, rfl, fun _ _ => rfl, fun i p h => by simp at h⟩
  | (i0, v) :: l, k, xs, h, hs => by
    obtain ⟨e1, e2⟩ := h 0 _ rfl
    simp only [Nat.add_zero] at e1
    subst e1
    have hs' : i0 * sz + sz + l.length * sz ≤ xs.size := by
      have : (i0 + (l.length + 1)) * sz = i0 * sz + sz + l.length * sz := by rw [Nat.add_mul, Nat.succ_mul]; omega
      simp only [List.length_cons] at hs; omega
    obtain ⟨z1, z2⟩ := fold_set v.cells (i0 * sz) xs (by rw [e2]; omega)
    obtain ⟨ys, y1, y2, y3, y4⟩ := fillRows sz l (i0 + 1) (v.cells.zipIdx.foldl (fun cs (c, j) => cs.setIfInBounds (i0 * sz + j) c) xs) (fun i p hp => by
      have := h (i + 1) p (by simpa using hp)
      exact ⟨by omega, this.2⟩) (by rw [z1, Nat.add_mul, Nat.succ_mul]; omega)
    refine ⟨ys, ?_, by rw [y2, z1], fun p hp => ?_, fun i p hp j hj => ?_⟩
    · simp only [Instr.fill]
      rw [if_neg (by dsimp only at e2; simp [e2]; omega)]
      exact y1
    · rw [y3 p (by rw [Nat.succ_mul]; omega), z2, if_neg (by omega)]
    · cases i with
      | zero =>
        simp at hp
        subst hp
        rw [Nat.add_zero, y3 _ (by rw [Nat.succ_mul]; omega), z2, if_pos (by rw [e2]; omega)]
        congr 1; omega
      | succ i =>
        have := y4 i p (by simpa using hp) j hj
        rw [← this]; congr 3; omega

theorem rowsK_ok {sz : Nat} : ∀ {l : List AV} {K : List (List AV) → Prop}, rowsK sz l K → K (l.map avCells) ∧ ∀ x ∈ l, okCells (avCells x) = true ∧ (avCells x).length = sz
  | [], K, h => ⟨h, by simp⟩
  | x :: l, K, h => by
    obtain ⟨h1, h2, h3⟩ := h
    obtain ⟨h4, h5⟩ := rowsK_ok h3
    exact ⟨h4, fun y hy => by rcases List.mem_cons.1 hy with rfl | hy; exact ⟨h1, h2⟩; exact h5 y hy⟩

theorem wrapT {n m : Nat} (h : n * m ≤ 16777216) : ¬ (n * m > 2 ^ 24) := by omega

theorem run_zero {P : Program} {t : Nat} (h : (zeroT P t).isSome = true) : ∃ z i, P.info? t = some i ∧ i.zero = some z := by
  obtain ⟨z, hz⟩ := Option.isSome_iff_exists.1 h
  unfold zeroT at hz
  split at hz
  · rename_i i hi; exact ⟨z, i, hi, hz⟩
  · cases hz

theorem buildSlice_ok {st : St} {d t len : Nat} {parts : Array (Nat × Operand)} {o : Oper} {K : List Loc → List (Loc × Cont) → Prop} (hdst : o.dst = some d) (ho : o.op = .buildSlice t len parts) (hd : d < st.n) {el : Nat} (hel : elemT C.P t = some el)
    (h : knownT C.P el = true ∧ 0 < sizeT C.P el ∧ (zeroT C.P el).isSome = true ∧ len * sizeT C.P el ≤ 16777216 ∧ parts.toList.map (·.1) = List.range len ∧ rowsK (sizeT C.P el) (parts.toList.map fun p => ev st p.2) fun rows =>
          K (.R d :: rd (parts.toList.map (·.2))) [(.R d, .s (st.cur d + 1) (.sl el (sizeT C.P el) rows)), (.T d, .a (.os d (st.cur d + 1)))]) :
    ∃ l outs, K l outs ∧ LStep C o st.n (l.map fun x => (x, st.get x)) outs := by
  obtain ⟨hk, h0, hz, hlen, hidx, hrows⟩ := h
  obtain ⟨hK, hr1⟩ := rowsK_ok hrows
  obtain ⟨z, i, hi, hzi⟩ := run_zero hz
  have hu := elem_of hel
  refine ⟨_, _, hK, fun e st' a w next Q hn ⟨heok, g, hs⟩ ha hnext => ?_⟩
  replace ha := Agree_of.1 ha
  have hcur : st'.cur d = st.cur d := by simp [St.cur, ha.R (k := d) (by simp)]
  have ha2 : Ag (rd (parts.toList.map (·.2))) st st' := fun y hy => ha y (List.mem_cons_of_mem _ hy)
  have hpl : parts.toList.length = len := by have := congrArg List.length hidx; simpa using this
  have hpi : ∀ (j : Nat) (p : Nat × Operand), parts.toList[j]? = some p → p.1 = j := fun j p hp => by
    have h1 : (parts.toList.map (·.1))[j]? = some p.1 := by simp only [List.getElem?_map, hp, Option.map_some]
    rw [hidx] at h1
    have hj := (List.getElem?_eq_some_iff.1 hp).1
    rw [hpl] at hj
    simpa [hj] using h1.symm
  let vs : List (Nat × Value) := parts.toList.map fun p => (p.1, a.eval p.2)
  have hvs : ∀ (j : Nat) (q : Nat × Value), vs[j]? = some q → ∃ p, parts.toList[j]? = some p ∧ q = (p.1, a.eval p.2) := fun j q hq => by
    simp only [vs, List.getElem?_map] at hq
    cases hj : parts.toList[j]? with
    | none => simp [hj] at hq
    | some p => simp [hj] at hq; exact ⟨p, rfl, hq.symm⟩
  have hcells : ∀ (j : Nat) (p : Nat × Operand), parts.toList[j]? = some p → (a.eval p.2).cells.size = sizeT C.P el ∧ (∀ (q : Nat) (y : AV) (u : Value), (avCells (ev st p.2))[q]? = some y → (a.eval p.2).cells[q]? = some u → AR st'.cur g w (e.N st' g) y u) := fun j p hp => by
    have hm := List.mem_of_getElem? hp
    obtain ⟨o1, o2⟩ := hr1 (ev st p.2) (List.mem_map.2 ⟨p, hm, rfl⟩)
    have hx := arg hs ha2 (x := p.2) (List.mem_map.2 ⟨p, hm, rfl⟩)
    obtain ⟨c1, c2, _⟩ := AR_cells hx o1
    exact ⟨by omega, c2⟩
  let zc : Array Value := (Array.range (len * sizeT C.P el)).map fun q => ((if len * sizeT C.P el = 0 then #[] else z.cells) : Array Value)[q % ((if len * sizeT C.P el = 0 then #[] else z.cells) : Array Value).size]!
  obtain ⟨ys, y1, y2, _, y4⟩ := fillRows (sizeT C.P el) vs 0 zc (fun j q hq => by
    obtain ⟨p, hp, rfl⟩ := hvs j q hq
    exact ⟨by simp [hpi j p hp], (hcells j p hp).1⟩) (by simp [vs, zc, hpl])
  have hysz : ys.size = len * sizeT C.P el := by rw [y2]; simp [zc]
  have hr : (execOp a.eval o).run C.P w = .ok (.value (.slice (some ⟨w.heap.size, 0, none⟩) len len)) (w.alloc (.cells ys el)) := by
    have e1 : (parts.map fun (i, x) => (i, a.eval x)).toList = vs := by simp [vs]
    have hn24 : ¬ (16777216 < len * sizeT C.P el) := by omega
    have hsz : i.size = sizeT C.P el := by simp [sizeT, hi]
    have hfill := y1
    simp only [zc] at hfill
    by_cases h00 : len * sizeT C.P el = 0
    · simp only [h00, if_true] at hfill
      simp [execOp, ho, Instr.buildSlice, run_underlying hu, sizeOf, typeInfo, hi, hsz, h00, newRow, vs] at hfill ⊢
      simp [hfill]
    · simp only [h00, if_false] at hfill
      simp [execOp, ho, Instr.buildSlice, run_underlying hu, sizeOf, typeInfo, hi, hsz, h00, hn24, newRow, zeroValue, hzi, vs] at hfill ⊢
      simp [hfill]
  have key := hs.fresh heok (d := d) (by omega) (.cells ys el) (.sl el (sizeT C.P el) ((parts.toList.map fun p => ev st p.2).map avCells)) (.slice (some ⟨w.heap.size, 0, none⟩) len len) rfl rfl (fun cur g' N hg hl => by
    refine ⟨ys.toList, ?_, ?_, ?_⟩
    · rw [hg]
      have hm : len ≤ maxLen := by
        have : len ≤ len * sizeT C.P el := Nat.le_mul_of_pos_right _ h0
        unfold maxLen; omega
      have := World.ownsRow_lit (base := 0) (e := el) (size := sizeT C.P el) w ys len (Nat.zero_le _) hm hysz
      simpa [hpl] using this
    · intro row hrow
      simp only [List.mem_map] at hrow
      obtain ⟨x, ⟨p, hp, rfl⟩, rfl⟩ := hrow
      exact (hr1 _ (List.mem_map.2 ⟨p, hp, rfl⟩)).2
    · intro i2 j row x y hrow hj hy
      simp only [List.map_map, List.getElem?_map] at hrow
      cases hp : parts.toList[i2]? with
      | none => simp [hp] at hrow
      | some p =>
        simp [hp] at hrow
        subst hrow
        have hq : vs[i2]? = some (p.1, a.eval p.2) := by simp only [vs, List.getElem?_map, hp, Option.map_some]
        have hjs : j < sizeT C.P el := by
          rw [← (hr1 _ (List.mem_map.2 ⟨p, List.mem_of_getElem? hp, rfl⟩)).2]; exact (List.getElem?_eq_some_iff.1 hj).1
        have h3 := y4 i2 _ hq j hjs
        rw [Nat.zero_add] at h3
        rw [Array.getElem?_toList, h3] at hy
        exact hl _ _ ((hcells i2 p hp).2 j x y hj hy))
  rw [hcur] at key
  exact wp_val hdst hr (hnext _ _ ⟨heok, _, key⟩)

end

end Go.Proofs.YtjbhpoolghfhiaaDoor
