/- The operations that make slices do what is told of them. No condition: plain lemmas. -/
import Derived.Test.YtbhnmolmkembdaaGreatDoorY1
import Derived.Laws.OwnMore
import Derived.Laws.MakeOwn
import Derived.Laws.Externs
import Derived.WideKeyElems
import Derived.DeepKeys5
namespace Go.Proofs.YtbhnmolmkembdaaGreatDoor
set_option linter.unusedVariables false
set_option linter.unusedSimpArgs false
set_option maxHeartbeats 10000000
open Go
set_option maxRecDepth 10000
section
variable {C : Ctx}
theorem Ks (sz : Nat) : ∀ (l : List (Nat × Value)) (k : Nat) (xs : Array Value), (∀ (i : Nat) (p : Nat × Value), l[i]? = some p → p.1 = k + i ∧ p.2.cells.size = sz) → (k + l.length) * sz ≤ xs.size →
  ∃ ys, Instr.fill (fun i => some (i * sz, sz)) xs l = some ys ∧ ys.size = xs.size ∧ (∀ p, p < k * sz → ys[p]? = xs[p]?) ∧
   ∀ (i : Nat) (p : Nat × Value), l[i]? = some p → ∀ j, j < sz → ys[(k + i) * sz + j]? = p.2.cells[j]?
 | [], k, xs, _, _ => ⟨xs, rfl, rfl, fun _ _ => rfl, fun i p h => by simp at h⟩
 | (i0, v) :: l, k, xs, h, hs => by
  obtain ⟨e1, e2⟩ := h 0 _ rfl
  simp only [Nat.add_zero] at e1
  subst e1
  have hs' : i0 * sz + sz + l.length * sz ≤ xs.size := by
   have : (i0 + (l.length + 1)) * sz = i0 * sz + sz + l.length * sz := by rw [Nat.add_mul, Nat.succ_mul]; omega
   simp only [List.length_cons] at hs; omega
  obtain ⟨z1, z2⟩ := Jc v.cells (i0 * sz) xs (by rw [e2]; omega)
  obtain ⟨ys, y1, y2, y3, y4⟩ := Ks sz l (i0 + 1) (v.cells.zipIdx.foldl (fun cs (c, j) => cs.setIfInBounds (i0 * sz + j) c) xs) (fun i p hp => by
   have := h (i + 1) p (by simpa using hp)
   exact ⟨by omega, this.2⟩) (by rw [z1, Nat.add_mul, Nat.succ_mul]; omega)
  refine ⟨ys, ?_, by rw [y2, z1], fun p hp => ?_, fun i p hp j hj => ?_⟩
  ·simp only [Instr.fill]
   rw [if_neg (by dsimp only at e2; simp [e2]; omega)]
   exact y1
  ·rw [y3 p (by rw [Nat.succ_mul]; omega), z2, if_neg (by omega)]
  ·cases i with
   | zero =>
    simp at hp
    subst hp
    rw [Nat.add_zero, y3 _ (by rw [Nat.succ_mul]; omega), z2, if_pos (by rw [e2]; omega)]
    congr 1; omega
   | succ i =>
    have := y4 i p (by simpa using hp) j hj
    rw [← this]; congr 3; omega
theorem Jj {sz : Nat} : ∀ {l : List AV} {K : List (List AV) → Prop}, Mt sz l K → K (l.map avCells) ∧ ∀ x ∈ l, cW (avCells x) = true ∧ (avCells x).length = sz
 | [], K, h => ⟨h, by simp⟩
 | x :: l, K, h => by
  obtain ⟨h1, h2, h3⟩ := h
  obtain ⟨h4, h5⟩ := Jj h3
  exact ⟨h4, fun y hy => by rcases List.mem_cons.1 hy with rfl | hy; exact ⟨h1, h2⟩; exact h5 y hy⟩
theorem Jn {P : Program} {t : Nat} (h : (gH P t).isSome = true) : ∃ z i, P.info? t = some i ∧ i.zero = some z := by
 obtain ⟨z, hz⟩ := Option.isSome_iff_exists.1 h
 unfold gH at hz
 split at hz
 ·rename_i i hi; exact ⟨z, i, hi, hz⟩
 ·cases hz
theorem Du {st : St} {d t len : Nat} {parts : Array (Nat × Operand)} {o : Oper} {K : List Loc → List (Loc × Cont) → Prop} (hdst : o.dst = some d) (ho : o.op = .buildSlice t len parts) (hd : d < st.n) {el : Nat} (hel : eZ C.P t = some el)
  (h : bD C.P el = true ∧ 0 < aO C.P el ∧ (gH C.P el).isSome = true ∧ len * aO C.P el ≤ 16777216 ∧ parts.toList.map (·.1) = List.range len ∧ Mt (aO C.P el) (parts.toList.map fun p => ev st p.2) fun rows =>
     K (.R d :: rd (parts.toList.map (·.2))) [(.R d, .s (st.cur d + 1) (.sl el (aO C.P el) rows)), (.T d, .a (.os d (st.cur d + 1)))]) :
  ∃ l outs, K l outs ∧ jI C o st.n (l.map fun x => (x, st.get x)) outs := by
 obtain ⟨hk, h0, hz, hlen, hidx, hrows⟩ := h
 obtain ⟨hK, hr1⟩ := Jj hrows
 obtain ⟨z, i, hi, hzi⟩ := Jn hz
 have hu := qI hel
 refine ⟨_, _, hK, fun e st' a w next Q hn ⟨heok, g, hs⟩ ha hnext => ?_⟩
 replace ha := bU.1 ha
 have hcur : st'.cur d = st.cur d := by simp [St.cur, ha.R (k := d) (by simp)]
 have ha2 : Ag (rd (parts.toList.map (·.2))) st st' := fun y hy => ha y (List.mem_cons_of_mem _ hy)
 have hpl : parts.toList.length = len := by have := congrArg List.length hidx; simpa using this
 have hpi : ∀ (j : Nat) (p : Nat × Operand), parts.toList[j]? = some p → p.1 = j := fun j p hp => by
  have h1 : (parts.toList.map (·.1))[j]? = some p.1 := by simp only [List.getElem?_map, hp, Option.map_some]
  rw [hidx] at h1
  have hj := (List.getElem?_eq_some_iff.1 hp).1
  rw [hpl] at hj
  simpa [hj] using h1.symm
 let vs : List (Nat × Value) := parts.toList.map fun p => (p.1, a.eval p.2)
 have hvs : ∀ (j : Nat) (q : Nat × Value), vs[j]? = some q → ∃ p, parts.toList[j]? = some p ∧ q = (p.1, a.eval p.2) := fun j q hq => by
  simp only [vs, List.getElem?_map] at hq
  cases hj : parts.toList[j]? with
  | none => simp [hj] at hq
  | some p => simp [hj] at hq; exact ⟨p, rfl, hq.symm⟩
 have hcells : ∀ (j : Nat) (p : Nat × Operand), parts.toList[j]? = some p → (a.eval p.2).cells.size = aO C.P el ∧ (∀ (q : Nat) (y : AV) (u : Value), (avCells (ev st p.2))[q]? = some y → (a.eval p.2).cells[q]? = some u → AR st'.cur g w (e.N st' g) y u) := fun j p hp => by
  have hm := List.mem_of_getElem? hp
  obtain ⟨o1, o2⟩ := hr1 (ev st p.2) (List.mem_map.2 ⟨p, hm, rfl⟩)
  have hx := arg hs ha2 (x := p.2) (List.mem_map.2 ⟨p, hm, rfl⟩)
  obtain ⟨c1, c2, _⟩ := rY hx o1
  exact ⟨by omega, c2⟩
 let zc : Array Value := (Array.range (len * aO C.P el)).map fun q => ((if len * aO C.P el = 0 then #[] else z.cells) : Array Value)[q % ((if len * aO C.P el = 0 then #[] else z.cells) : Array Value).size]!
 obtain ⟨ys, y1, y2, _, y4⟩ := Ks (aO C.P el) vs 0 zc (fun j q hq => by
  obtain ⟨p, hp, rfl⟩ := hvs j q hq
  exact ⟨by simp [hpi j p hp], (hcells j p hp).1⟩) (by simp [vs, zc, hpl])
 have hysz : ys.size = len * aO C.P el := by rw [y2]; simp [zc]
 have hr : (execOp a.eval o).run C.P w = .ok (.value (.slice (some ⟨w.heap.size, 0, none⟩) len len)) (w.alloc (.cells ys el)) := by
  have e1 : (parts.map fun (i, x) => (i, a.eval x)).toList = vs := by simp [vs]
  have hn24 : ¬ (16777216 < len * aO C.P el) := by omega
  have hsz : i.size = aO C.P el := by simp [aO, hi]
  have hfill := y1
  simp only [zc] at hfill
  by_cases h00 : len * aO C.P el = 0
  ·simp only [h00, if_true] at hfill
   simp [execOp, ho, Instr.buildSlice, run_underlying hu, sizeOf, typeInfo, hi, hsz, h00, newRow, vs] at hfill ⊢
   simp [hfill]
  ·simp only [h00, if_false] at hfill
   simp [execOp, ho, Instr.buildSlice, run_underlying hu, sizeOf, typeInfo, hi, hsz, h00, hn24, newRow, zeroValue, hzi, vs] at hfill ⊢
   simp [hfill]
 have key := hs.fresh heok (d := d) (by omega) (.cells ys el) (.sl el (aO C.P el) ((parts.toList.map fun p => ev st p.2).map avCells)) (.slice (some ⟨w.heap.size, 0, none⟩) len len) rfl rfl (fun cur g' N hg hf hl => by
  refine ⟨ys.toList, ?_, ?_, ?_, ?_⟩
  rotate_right
  ·rw [hf, lK (zW fun row hrow => ?_)]
   ·exact .none
   ·simp only [List.mem_map] at hrow
    obtain ⟨x, ⟨p, hp, rfl⟩, rfl⟩ := hrow
    exact qJ (hr1 _ (List.mem_map.2 ⟨p, hp, rfl⟩)).1
  ·rw [hg]
   have hm : len ≤ maxLen := by
    have : len ≤ len * aO C.P el := Nat.le_mul_of_pos_right _ h0
    unfold maxLen; omega
   have := World.ownsRow_lit (base := 0) (e := el) (size := aO C.P el) w ys len (Nat.zero_le _) hm hysz
   simpa [hpl] using this
  ·intro row hrow
   simp only [List.mem_map] at hrow
   obtain ⟨x, ⟨p, hp, rfl⟩, rfl⟩ := hrow
   exact (hr1 _ (List.mem_map.2 ⟨p, hp, rfl⟩)).2
  ·intro i2 j row x y hrow hj hy
   simp only [List.map_map, List.getElem?_map] at hrow
   cases hp : parts.toList[i2]? with
   | none => simp [hp] at hrow
   | some p =>
    simp [hp] at hrow
    subst hrow
    have hq : vs[i2]? = some (p.1, a.eval p.2) := by simp only [vs, List.getElem?_map, hp, Option.map_some]
    have hjs : j < aO C.P el := by
     rw [← (hr1 _ (List.mem_map.2 ⟨p, List.mem_of_getElem? hp, rfl⟩)).2]; exact (List.getElem?_eq_some_iff.1 hj).1
    have h3 := y4 i2 _ hq j hjs
    rw [Nat.zero_add] at h3
    rw [Array.getElem?_toList, h3] at hy
    exact hl _ _ ((hcells i2 p hp).2 j x y hj hy))
 rw [hcur] at key
 exact qB hdst hr (hnext _ _ ⟨heok, _, key⟩)
end
section
variable {C : Ctx}
theorem rR {st : St} {x : Option Operand} {dflt : Int} {K : Int → Prop} (h : oC st x dflt K) : ∃ n, K n ∧ ((x = none ∧ n = dflt) ∨ ∃ o k, x = some o ∧ ev st o = .r (.v (.int k n))) := by
 unfold oC at h
 cases x with
 | none => exact ⟨dflt, h, .inl ⟨rfl, rfl⟩⟩
 | some o =>
  dsimp only at h
  split at h
  ·rename_i k n hn; exact ⟨n, h, .inr ⟨o, k, rfl, hn⟩⟩
  ·exact h.elim
theorem uN {P : Program} (b : Bool) (len cap : Nat) (w : World) (lo hi : Option Value) (l h : Int) (hlo : (lo = none ∧ l = 0) ∨ ∃ k, lo = some (.int k l)) (hhi : (hi = none ∧ h = len) ∨ ∃ k, hi = some (.int k h))
  (h0 : 0 ≤ l) (h1 : l ≤ h) (h2 : h ≤ cap) : (Instr.sliceBounds b len cap lo hi none).run P w = .ok (l.toNat, h.toNat, cap) w := by
 have h3 : 0 ≤ h := by omega
 have hh : (match hi with | some v => Instr.sliceBound v cap (if b then .sliceAcap else .sliceAlen) | none => pure len : Sem Nat).run P w = .ok h.toNat w := by
  rcases hhi with ⟨rfl, rfl⟩ | ⟨k, rfl⟩
  ·simp
  ·simp [Instr.sliceBound, asIntOf, h3, h2]
 have hl : (match lo with | some v => Instr.sliceBound v h.toNat .sliceB | none => pure 0 : Sem Nat).run P w = .ok l.toNat w := by
  rcases hlo with ⟨rfl, rfl⟩ | ⟨k, rfl⟩
  ·simp
  ·have : l ≤ (h.toNat : Int) := by omega
   simp [Instr.sliceBound, asIntOf, h0, this]
   omega
 unfold Instr.sliceBounds
 cases hi with
 | none =>
  simp only [Sem.run_bind, Sem.run_pure, Result.andThen_ok, Option.isSome_none, Bool.false_eq_true, if_false] at hh ⊢
  simp only [Sem.run_pure, Result.ok.injEq, and_true] at hh
  rw [hh]
  cases lo with
  | none => simp at hl ⊢; omega
  | some v => simp only [Sem.run_bind, Sem.run_pure] at hl ⊢; rw [hl]; rfl
 | some u =>
  simp only [Sem.run_bind, Sem.run_pure, Result.andThen_ok, Option.isSome_none, Bool.false_eq_true, if_false] at hh ⊢
  rw [hh]
  simp only [Result.andThen_ok]
  cases lo with
  | none => simp at hl ⊢; omega
  | some v => simp only [Sem.run_bind, Sem.run_pure] at hl ⊢; rw [hl]; rfl
theorem Jz {e : Env} {st st' : St} {g : Gh} {a : Act} {w : World} (hs : SR C e st' g a w) {l : List Operand} (ha : Ag (rd l) st st') {x : Option Operand} {n dflt : Int} (hx : ∀ o, x = some o → o ∈ l)
  (h : (x = none ∧ n = dflt) ∨ ∃ o k, x = some o ∧ ev st o = .r (.v (.int k n))) : (x.map a.eval = none ∧ n = dflt) ∨ ∃ k, x.map a.eval = some (.int k n) := by
 rcases h with ⟨rfl, rfl⟩ | ⟨o, k, rfl, ho⟩
 ·exact .inl ⟨rfl, rfl⟩
 ·have := arg hs ha (hx o rfl)
  rw [ho] at this
  exact .inr ⟨k, by simp [cC this]⟩
theorem aKp {cur : Nat → Nat} {g : Gh} {w : World} {N : Nat → Prop} {sz : Nat} {rows : List (List RV)} {v : Value} (h : AR cur g w N (.r (.rs sz rows)) v) (l n : Nat) (hl : l ≤ n) (hn : n ≤ rows.length) :
  ∃ o c, v = .slice o rows.length c ∧ rows.length ≤ c ∧ AR cur g w N (.r (.rs sz ((rows.take n).drop l))) (.slice (if c = l then o else o.map (·.add (l * sz))) (n - l) (c - l)) := by
 cases h with | r h => cases h with
  | nil =>
   refine ⟨none, 0, rfl, Nat.le_refl _, ?_⟩
   simp at hn; subst hn; simp at hl; subst hl
   exact .r (.nil sz)
  | rs _ _ a cap c hb hcap hw hc hr =>
   refine ⟨some a, cap, rfl, hcap, ?_⟩
   have hlen : ((rows.take n).drop l).length = n - l := by simp; omega
   have hget : ∀ i, ((rows.take n).drop l)[i]? = if l + i < n then rows[l + i]? else none := fun i => by
    rw [List.getElem?_drop, List.getElem?_take]
   have hmem : ∀ row ∈ (rows.take n).drop l, row ∈ rows := fun row hrow => List.mem_of_mem_take (List.mem_of_mem_drop hrow)
   have key : ∀ (a' : Addr), ((rows.take n).drop l ≠ [] → a'.block = a.block ∧ a'.off = a.off + l * sz ∧ a'.spot = none) →
     AR cur g w N (.r (.rs sz ((rows.take n).drop l))) (.slice (some a') ((rows.take n).drop l).length (cap - l)) := fun a' ha' => by
    refine .r (.rs sz _ a' (cap - l) (fun i j => c (l + i) j) (fun hne => ?_) (by rw [hlen]; omega) (fun row hrow => hw row (hmem row hrow)) (fun i j hi hj => ?_) (fun i j row x hi hx => ?_))
    ·have hne' : rows ≠ [] := by intro e; simp [e] at hne
     obtain ⟨q1, q2, q3⟩ := hb hne'
     obtain ⟨r1, r2, r3⟩ := ha' hne
     exact ⟨by rw [r1]; exact q1, by rw [r1]; exact q2, r3⟩
    ·have hne : (rows.take n).drop l ≠ [] := by intro e; simp [e] at hi
     obtain ⟨r1, r2, r3⟩ := ha' hne
     rw [hlen] at hi
     have := hc (l + i) j (by omega) hj
     rw [r1, r2, ← this]
     congr 2
     rw [Nat.add_mul]; omega
    ·rw [hget] at hi
     split at hi
     ·exact hr (l + i) j row x hi hx
     ·cases hi
   rw [hlen] at key
   by_cases hcl : cap = l
   ·rw [if_pos hcl]
    refine key a (fun hne => ?_)
    have : n - l = 0 := by omega
    exact absurd (List.length_eq_zero_iff.1 (hlen.trans this)) hne
   ·rw [if_neg hcl]
    refine key _ (fun hne => ?_)
    have hne' : rows ≠ [] := by intro e; simp [e] at hne
    have e1 := jG a.block a.off (l * sz)
    rw [← nK (hb hne').2.2] at e1
    show (a.add (l * sz)).block = _ ∧ (a.add (l * sz)).off = _ ∧ (a.add (l * sz)).spot = _
    rw [e1]; exact ⟨rfl, rfl, rfl⟩
theorem Ty {st : St} {d t : Nat} {x : Operand} {lo hi : Option Operand} {o : Oper} {K : List Loc → List (Loc × Cont) → Prop} (hdst : o.dst = some d) (ho : o.op = .slice t x lo hi none) (hd : d < st.n)
  (h : Hm C.P st t (ev st x) lo hi fun l outs r => K (l ++ rd (x :: (lo.toList ++ hi.toList))) (outs ++ [(.T d, .a r)])) :
  ∃ l outs, K l outs ∧ jI C o st.n (l.map fun x => (x, st.get x)) outs := by
 have mlo : ∀ y, lo = some y → y ∈ x :: (lo.toList ++ hi.toList) := fun y hy => by simp [hy]
 have mhi : ∀ y, hi = some y → y ∈ x :: (lo.toList ++ hi.toList) := fun y hy => by simp [hy]
 unfold Hm at h
 split at h
 ·rename_i sz rows hxe
  split at h
  ·rename_i el hel
   obtain ⟨rfl, hk, h⟩ := h
   obtain ⟨l, h, hl⟩ := rR h
   obtain ⟨m, h, hm⟩ := rR h
   obtain ⟨h0, h1, h2, h⟩ := h
   refine ⟨_, _, h, mS hdst hd fun e st' g a w hs ha => ?_⟩
   replace ha := (bU.1 ha).right
   have hx := arg hs ha (x := x) (by simp)
   rw [hxe] at hx
   obtain ⟨ob, c, hv, hc, hcut⟩ := aKp hx l.toNat m.toNat (by omega) (by omega)
   refine ⟨_, w, ?_, rfl, rfl, rfl, rfl, hcut⟩
   have hb := uN (P := C.P) true rows.length c w (lo.map a.eval) (hi.map a.eval) l m (Jz hs ha mlo hl) (Jz hs ha mhi hm) h0 h1 (by omega)
   have hu := qI hel
   simp only [execOp, ho, Option.map_none, Sem.run_bind, Instr.sliceAt, run_underlying hu, Result.andThen_ok, hv, Instr.slice, hb, dN hk, Sem.run_pure]
  ·exact h.elim
 ·rename_i s hxe
  obtain ⟨ht, h⟩ := h
  obtain ⟨l, h, hl⟩ := rR h
  obtain ⟨m, h, hm⟩ := rR h
  obtain ⟨h0, h1, h2, h⟩ := h
  refine ⟨_, _, h, mS hdst hd fun e st' g a w hs ha => ?_⟩
  replace ha := (bU.1 ha).right
  have hx := arg hs ha (x := x) (by simp)
  rw [hxe] at hx
  refine ⟨_, w, ?_, rfl, rfl, rfl, rfl, .r (.v _)⟩
  have hb := uN (P := C.P) false s.size s.size w (lo.map a.eval) (hi.map a.eval) l m (Jz hs ha mlo hl) (Jz hs ha mhi hm) h0 h1 (by omega)
  have hu := qS ht
  simp only [execOp, ho, Option.map_none, Sem.run_bind, Instr.sliceAt, run_underlying hu, Result.andThen_ok, cC hx, Instr.slice, hb, Option.isSome_none, Bool.false_eq_true, if_false, Sem.run_pure]
 ·rename_i k ver hxe
  split at h
  ·rename_i cv el sz rows el' hk hel
   obtain ⟨rfl, hkn, h⟩ := h
   obtain ⟨m, h, hm⟩ := rR h
   obtain ⟨h0, h1, h⟩ := h
   refine ⟨_, _, h, fun e st' a w next Q hn ⟨heok, g, hs⟩ ha hnext => ?_⟩
   have ha0 := bU.1 ha
   have hk' := (ha0.R (k := k) (by simp)).trans hk
   replace ha := ha0.right
   have hx := arg hs ha (x := x) (by simp)
   rw [hxe] at hx
   have hv := jA hx (curk k hk').symm
   obtain ⟨xs, hown, hw, har, hnest⟩ := rE hs hk'
   obtain ⟨ob, c, hg, hnil, hc⟩ := aBu hs hk'
   have hu := qI hel
   have hb := uN (P := C.P) true rows.length c w none (hi.map a.eval) 0 m (.inl ⟨rfl, rfl⟩) (Jz hs ha mhi hm) (by omega) h0 (by omega)
   have hob : (if c = 0 then ob else ob.map (·.add (0 * aO C.P el'))) = ob := by
    split
    ·rfl
    ·cases ob <;> simp [Addr.add]
   have hr : (execOp a.eval o).run C.P w = .ok (.value (.slice ob m.toNat c)) w := by
    simp only [execOp, ho, Option.map_none, Sem.run_bind, Instr.sliceAt, run_underlying hu, Result.andThen_ok, hv, hg, Instr.slice, hb, dN hkn, Sem.run_pure, Int.toNat_zero, Nat.sub_zero, hob]
   have hmn : m.toNat ≤ rows.length := by omega
   have hvv : bV (.slice ob m.toNat c) = bV (g k) := by rw [hg]; cases ob <;> rfl
   have hfl : (rows.take m.toNat).flatten.length = m.toNat * sz := by rw [pW fun row hrow => hw row (List.mem_of_mem_take hrow), List.length_take, Nat.min_eq_left hmn]
   have hnds : nds rows.flatten xs = nds (rows.take m.toNat).flatten (xs.take (m.toNat * sz)) ++ nds (rows.drop m.toNat).flatten (xs.drop (m.toNat * sz)) := by
    have hle := Nat.mul_le_mul_right sz hmn
    rw [← sW (by rw [hfl, List.length_take, hown.1, Nat.min_eq_left hle]), ← List.flatten_append, List.take_append_drop, List.take_append_drop]
   obtain ⟨f', f1, f2⟩ := hnest.sub (by rw [hnds]; exact List.sublist_append_left ..) hvv
   have key := (hs.turn (w' := w) k (ver + 1) (.sl el sz (rows.take m.toNat)) (.slice ob m.toNat c) f' rfl rfl rfl (Nat.le_refl _) (fun _ _ _ => rfl) (.inl (by rw [curk k hk']; omega))
    (fun b hne hb => by
     have hbk : blk st' g k b := ⟨by rw [hk']; simp, hb.imp (fun hb => by rw [← hvv]; exact hb) fun hb => f1.subset hb⟩
     exact ⟨(hs.low k b hbk).2.1, .inl hbk⟩) heok
    (fun st'' g' hst hg' hl hN => by
     refine ⟨xs.take (m.toNat * sz), ⟨?_, ?_⟩, fun row hrow => hw row (List.mem_of_mem_take hrow), fun i j row y u hi2 hj hu2 => ?_, ?_⟩
     rotate_right
     ·rw [show g' k = .slice ob m.toNat c from by rw [hg']; exact if_pos rfl, show g'.f k = f' from by rw [hg']; exact if_pos rfl]
      exact f2.lift (Nat.le_refl _) hN fun _ _ => rfl
     ·have hle := Nat.mul_le_mul_right sz hmn
      rw [List.length_take, List.length_take, hown.1, Nat.min_eq_left hle, Nat.min_eq_left hmn]
     ·rw [hg']; simp only [gput, if_true, List.length_take, Nat.min_eq_left hmn]
      rcases hown.2 with ⟨h4, h5⟩ | ⟨b, cap, cu, hv', hb0, hh, hnc, hcm, hcs, ht⟩
      ·left
       rw [hg] at h4; simp at h4
       have : m.toNat = 0 := by omega
       rw [h4.1, h4.2.2, this]; simp
      ·right
       rw [hg] at hv'; simp at hv'
       obtain ⟨rfl, rfl⟩ := hv'
       refine ⟨b, c, cu, rfl, hb0, hh, by omega, hcm, hcs, ?_⟩
       rw [← ht, List.take_take]; congr 1
       have hle := Nat.mul_le_mul_right sz hmn
       omega
     ·rw [List.getElem?_take] at hi2
      split at hi2
      ·rw [List.getElem?_take] at hu2
       split at hu2
       ·exact hl _ _ (har i j row y u hi2 hj hu2)
       ·cases hu2
      ·cases hi2)).1
   refine qB hdst hr (hnext _ _ ⟨heok, _, key.put (d := d) (v := .slice ob m.toNat c) (by show d < st'.n; omega) (.os k (ver + 1) _ rfl (.inr ⟨by simp [St.cur, cX], by simp [gput]⟩))⟩)
  ·exact h.elim
 ·exact h.elim
theorem Lv {st : St} {d f : Nat} {first captured : Array Operand} {o : Oper} {K : List Loc → List (Loc × Cont) → Prop} (hdst : o.dst = some d) (ho : o.op = .makeFunc (.func f) first captured) (hd : d < st.n)
  (h : first.toList = [] ∧ K (rd captured.toList) [(.T d, .a (fnAV f (captured.toList.map (ev st))))]) :
  ∃ l outs, K l outs ∧ jI C o st.n (l.map fun x => (x, st.get x)) outs := by
 obtain ⟨hf, h⟩ := h
 refine ⟨_, _, h, mS hdst hd fun e st' g a w hs ha => ?_⟩
 replace ha := bU.1 ha
 have hf' : first = #[] := arr1 hf
 have hcl : AR st'.cur g w (e.N st' g) (.cl f (captured.toList.map (ev st))) (.func (.func f) #[] (captured.map a.eval)) := by
  refine .cl _ _ _ (by simp) fun j x y hx hy => ?_
  rw [Array.getElem?_map] at hy
  rw [List.getElem?_map] at hx
  cases hj : captured[j]? with
  | none => simp [hj] at hy
  | some z =>
   simp [hj] at hy hx
   subst hy; subst hx
   exact arg hs ha (x := z) (List.mem_of_getElem? (i := j) (by simpa using hj))
 refine ⟨.func (.func f) #[] (captured.map a.eval), w, by simp [execOp, ho, Instr.makeFunc, hf'], rfl, rfl, rfl, rfl, ?_⟩
 unfold fnAV
 split
 ·rename_i r hr
  have hcaps := Iu hr
  rw [hcaps] at hcl
  cases hcl with
  | cl _ _ vs h1 h2 =>
   refine .r (.fn _ _ _ (by simpa using h1) fun j x y hx hy => ?_)
   have := h2 j (.r x) y (by rw [List.getElem?_map, hx]; rfl) hy
   cases this with | r h => exact h
 ·exact hcl
theorem Oq {st : St} {d t : Nat} {o : Oper} {K : List Loc → List (Loc × Cont) → Prop} (hdst : o.dst = some d) (ho : o.op = .makeMap t none) (hd : d < st.n)
  (h : K [.R d] [(.R d, .s (st.cur d + 1) (.mp (fun _ => none) 0)), (.T d, .a (.os d (st.cur d + 1)))]) :
  ∃ l outs, K l outs ∧ jI C o st.n (l.map fun x => (x, st.get x)) outs := by
 refine ⟨_, _, h, fun e st' a w next Q hn ⟨heok, g, hs⟩ ha hnext => ?_⟩
 replace ha := bU.1 ha
 have hcur : st'.cur d = st.cur d := by simp [St.cur, ha.R (k := d) (by simp)]
 have hr : (execOp a.eval o).run C.P w = .ok (.value (.map (some w.heap.size))) (w.alloc (.map #[] 0)) := by
  simp [execOp, ho, Instr.makeMap]
 have key := hs.fresh heok (d := d) (by omega) (.map #[] 0) (.mp (fun _ => none) 0) (.map (some w.heap.size)) rfl rfl (fun cur g' N hg _ hl =>
  ⟨w.heap.size, #[], 0, hg, vV w _, rfl, fun k x => by simp, by simp⟩)
 rw [hcur] at key
 exact qB hdst hr (hnext _ _ ⟨heok, _, key⟩)
theorem Gq {st : St} {d t : Nat} {l c : Operand} {o : Oper} {K : List Loc → List (Loc × Cont) → Prop} (hdst : o.dst = some d) (ho : o.op = .makeSlice t l c) (hd : d < st.n) {el : Nat} {n m : Int} (hel : eZ C.P t = some el)
  (hl : ev st l = .r (.v (.int .i64 n))) (hc : ev st c = .r (.v (.int .i64 m)))
  (h : bD C.P el = true ∧ 0 < aO C.P el ∧ 0 ≤ n ∧ n ≤ m ∧ m ≤ 9223372036854775807 ∧ dX C.P el * m ≤ 281474976710656 ∧ bG C.P el fun z => z.length = aO C.P el ∧ cW z = true ∧
     K (.R d :: rd [l, c]) [(.R d, .s (st.cur d + 1) (.sl el (aO C.P el) (List.replicate n.toNat z))), (.T d, .a (.os d (st.cur d + 1)))]) :
  ∃ l outs, K l outs ∧ jI C o st.n (l.map fun x => (x, st.get x)) outs := by
 obtain ⟨hk, h0, hn0, hnm, hm, hby, h⟩ := h
 obtain ⟨z, hz, ⟨hzl, hzo, hK⟩, hzr⟩ := sD h
 obtain ⟨z', i, hi, hzi⟩ := Jn (P := C.P) (t := el) (by simp [hz])
 have hzz : z' = z := by simp [gH, hi] at hz; rw [hz] at hzi; simpa using hzi.symm
 subst hzz
 have hsz : i.size = aO C.P el := by simp [aO, hi]
 have hbt : i.bytes = dX C.P el := by simp [dX, hi]
 refine ⟨_, _, hK, fun e st' a w next Q hn ⟨heok, g, hs⟩ ha hnext => ?_⟩
 replace ha := bU.1 ha
 have hcur : st'.cur d = st.cur d := by simp [St.cur, ha.R (k := d) (by simp)]
 have ha2 : Ag (rd [l, c]) st st' := fun y hy => ha y (List.mem_cons_of_mem _ hy)
 have e1 := arg hs ha2 (x := l) (by simp)
 have e2 := arg hs ha2 (x := c) (by simp)
 rw [hl] at e1; rw [hc] at e2
 have hr : (execOp a.eval o).run C.P w = .ok (.value (.slice (some ⟨w.heap.size, 0, none⟩) n.toNat m.toNat)) (w.alloc (.cells (madeCells z'.cells (m.toNat * i.size)) el)) := by
  have := run_make (P := C.P) w t el i z' (qI hel) hi hzi .i64 .i64 n m hn0 hnm (by rw [hbt]; exact hby) hm
  simp only [execOp, ho, cC e1, cC e2, Sem.run_bind, this, Result.andThen_ok, Sem.run_pure]
 have hzs : z'.cells.size = aO C.P el := by simpa using hzl
 have hmc : ∀ p, p < m.toNat * i.size → (madeCells z'.cells (m.toNat * i.size))[p]? = z'.cells[p % aO C.P el]? := fun p hp => by
  have hlt : p % z'.cells.size < z'.cells.size := Nat.mod_lt _ (by omega)
  simp only [madeCells, Array.getElem?_map, Array.getElem?_range, hp, if_true, Option.map_some]
  rw [hzs] at hlt
  rw [hzs, Array.getElem?_eq_getElem (by omega)]
  simp [hzs, hlt]
 have key := hs.fresh heok (d := d) (by omega) (.cells (madeCells z'.cells (m.toNat * i.size)) el) (.sl el (aO C.P el) (List.replicate n.toNat (z'.cells.toList.map fun v => .r (.v v)))) (.slice (some ⟨w.heap.size, 0, none⟩) n.toNat m.toNat) rfl rfl (fun cur g' N hg hf hl => by
  refine ⟨(madeCells z'.cells (m.toNat * i.size)).toList.take (n.toNat * aO C.P el), ⟨?_, .inr ⟨w.heap.size, m.toNat, _, ?_, Nat.zero_le _, vV w _, ?_, ?_, ?_, ?_⟩⟩, ?_, ?_, ?_⟩
  rotate_right
  ·rw [hf, lK (zW fun row hrow => by rw [(List.mem_replicate.1 hrow).2]; exact Qr)]; exact .none
  ·have hle : n.toNat * aO C.P el ≤ m.toNat * aO C.P el := Nat.mul_le_mul_right _ (by omega)
   have hms : (madeCells z'.cells (m.toNat * i.size)).toList.length = m.toNat * aO C.P el := by simp [madeCells, hsz]
   rw [List.length_take, hms, List.length_replicate, Nat.min_eq_left hle]
  ·rw [hg, List.length_replicate]
  ·rw [List.length_replicate]; omega
  ·unfold maxLen; omega
  ·simp [madeCells, hsz]
  ·rw [List.length_replicate]
  ·intro row hrow
   rw [(List.mem_replicate.1 hrow).2]; exact hzl
  ·intro i2 j row x y hrow hj hy
   rw [List.getElem?_replicate] at hrow
   split at hrow
   ·rename_i hlt
    simp at hrow
    subst hrow
    rw [List.getElem?_take] at hy
    split at hy
    ·rename_i hlt2
     have hle : n.toNat * aO C.P el ≤ m.toNat * aO C.P el := Nat.mul_le_mul_right _ (by omega)
     rw [Array.getElem?_toList, hmc _ (by rw [hsz]; omega)] at hy
     have hjs : j < aO C.P el := by rw [← hzl]; exact (List.getElem?_eq_some_iff.1 hj).1
     have hmod : (i2 * aO C.P el + j) % aO C.P el = j := by
      rw [Nat.add_comm, Nat.add_mul_mod_self_right, Nat.mod_eq_of_lt hjs]
     rw [hmod] at hy
     rw [List.getElem?_map] at hj
     have : z'.cells.toList[j]? = some y := by simpa using hy
     rw [this] at hj
     simp at hj
     subst hj
     exact .r (.v y)
    ·cases hy
   ·cases hrow)
 rw [hcur] at key
 exact qB hdst hr (hnext _ _ ⟨heok, _, key⟩)
end
theorem zJ {P : Program} (w : World) (t ty e : TypeId) (i : TypeInfo) (z : Value) (size bytes : Nat) (ht : P.underlying t = some (.slice e)) (hi : P.info? e = some i) (hz : i.zero = some z)
  (hsize : i.size = size) (hby : i.bytes = bytes) (hzs : z.cells.size = size) (hsz : 0 < size)
  (v : Value) (n : Nat) (xs : List Value) (hown : w.ownsRow 0 e size v n xs)
  (a : Addr) (m c : Nat) (news : List Value) (hl : news.length = m * size) (hnews : ∀ j u, news[j]? = some u → w.cell? (a.add j) = some u) (h1 : ∀ u ∈ news, u.oneCell' = true)
  (h63 : n + m ≤ maxLen) (hbytes : (n + m) * bytes ≤ 140737488355328) :
  ∃ v' w', (Builtin.append_ #[t, t] ty #[v, .slice (some a) m c]).run P w = .ok v' w' ∧ w'.ownsRow 0 e size v' (n + m) (xs ++ news) ∧ w.grownBy w' v.ownBlock ∧
   (∀ b, v'.ownBlock = some b → v.ownBlock = some b ∨ w.heap.size ≤ b) := by
 obtain ⟨v', w', r1, r2, r3, _⟩ := run_append_own (P := P) w 0 t ty e i z size bytes ht hi hz hsize hby hzs hsz v n xs hown a m c news hl hnews h1 h63 hbytes (Nat.zero_le _)
 refine ⟨v', w', r1, r2, r3, fun b hb => ?_⟩
 rcases hown.2 with ⟨rfl, rfl⟩ | ⟨g, cap, cur, rfl, hbg, hg, hnc, hcm, hcs, htake⟩
 ·right
  have hx : xs = [] := List.eq_nil_of_length_eq_zero (by simpa using hown.1)
  subst hx
  obtain ⟨v2, w2, q1, q2, _, _⟩ := run_append_own (P := P) w w.heap.size t ty e i z size bytes ht hi hz hsize hby hzs hsz (.slice none 0 0) 0 [] (World.ownsRow_nil w _ e size) a m c news hl hnews h1 h63 hbytes (Nat.le_refl _)
  rw [r1] at q1
  simp only [Result.ok.injEq] at q1
  obtain ⟨rfl, rfl⟩ := q1
  exact (q2.lt b hb).1
 ·subst hsize
  by_cases hroom : n + m ≤ cap
  ·left
   have hfit : n * i.size + news.length ≤ cur.size := by rw [hl, hcs, ← Nat.add_mul]; exact Nat.mul_le_mul_right _ hroom
   have hr := run_append_room (P := P) w t ty e i ht hi g n cap cur hg a m c news hl hnews h1 hroom hfit
   rw [r1] at hr
   simp only [Result.ok.injEq] at hr
   rw [hr.1] at hb
   exact hb
  ·right
   have holds : ∀ j u, xs[j]? = some u → w.cell? ((⟨g, 0, none⟩ : Addr).add j) = some u := hown.cells (g := g) rfl
   have hr := run_append_grow (P := P) w t ty e i z ht hi hz ⟨g, 0, none⟩ n cap xs hown.1 holds a m c news hl hnews (by omega) (by simp only [maxLen] at h63; omega) (growslice_fits (by omega) (by rw [hby]; exact hbytes))
   rw [r1] at hr
   simp only [Result.ok.injEq] at hr
   rw [hr.1] at hb
   simp [Value.ownBlock] at hb
   omega
theorem uV {w : World} {base e size n : Nat} {v : Value} {xs : List Value} (h : w.ownsRow base e size v n xs) : bV v = v.ownBlock := by
 rcases h.2 with ⟨rfl, _⟩ | ⟨g, cap, cur, rfl, _⟩ <;> rfl
section
variable {C : Ctx}
structure Src (cur : Nat → Nat) (g : Gh) (w : World) (N : Nat → Prop) (sz : Nat) (news : List (List AV)) (v : Value) : Prop where
 rows : ∀ row ∈ news, row.length = sz
 val : (v = .slice none 0 0 ∧ news = []) ∨ ∃ (a : Addr) (c : Nat) (xs : List Value), v = .slice (some a) news.length c ∧ xs.length = news.length * sz ∧ (∀ j u, xs[j]? = some u → w.cell? (a.add j) = some u) ∧
  ∀ (i j : Nat) (row : List AV) (x : AV) (y : Value), news[i]? = some row → row[j]? = some x → xs[i * sz + j]? = some y → AR cur g w N x y
theorem Oe {p n sz : Nat} (h : p < n * sz) : p / sz < n ∧ p % sz < sz ∧ p / sz * sz + p % sz = p := by
 have hs : 0 < sz := by rcases Nat.eq_zero_or_pos sz with rfl | h0; simp at h; exact h0
 refine ⟨(Nat.div_lt_iff_lt_mul hs).2 h, Nat.mod_lt _ hs, ?_⟩
 rw [Nat.mul_comm]; exact Nat.div_add_mod p sz
theorem aLx {e : Env} {st : St} {g : Gh} {a : Act} {w : World} (_h : SR C e st g a w) {sz : Nat} {rows : List (List RV)} {v : Value} (hv : AR st.cur g w (e.N st g) (.r (.rs sz rows)) v) : Src st.cur g w (e.N st g) sz (rows.map fun r => r.map .r) v := by
 cases hv with | r hv => cases hv with
  | nil => exact ⟨by simp, .inl ⟨rfl, rfl⟩⟩
  | rs _ _ ad cap c hb hcap hw hc hr =>
   refine ⟨fun row hrow => ?_, ?_⟩
   ·obtain ⟨r, hr', rfl⟩ := List.mem_map.1 hrow
    simpa using hw r hr'
   ·by_cases hne : rows = []
    ·subst hne
     exact .inr ⟨ad, cap, [], rfl, by simp, by simp, by simp⟩
    ·refine .inr ⟨ad, cap, (List.range (rows.length * sz)).map fun p => c (p / sz) (p % sz), by simp, by simp, fun j u hu => ?_, fun i j row x y hi hj hy => ?_⟩
     ·rw [List.getElem?_map] at hu
      cases hj : (List.range (rows.length * sz))[j]? with
      | none => simp [hj] at hu
      | some q =>
       have hlt : j < rows.length * sz := by simpa using (List.getElem?_eq_some_iff.1 hj).1
       have hq : q = j := by simpa [hlt] using hj.symm
       subst hq
       simp [hj] at hu
       subst hu
       obtain ⟨d1, d2, d3⟩ := Oe hlt
       rw [nK (hb hne).2.2, jG, ← d3]
       rw [d3]
       have := hc _ _ d1 d2
       rw [d3] at this
       exact this
     ·rw [List.getElem?_map] at hi
      cases hri : rows[i]? with
      | none => simp [hri] at hi
      | some r0 =>
       simp [hri] at hi
       subst hi
       rw [List.getElem?_map] at hj
       cases hrj : r0[j]? with
       | none => simp [hrj] at hj
       | some x0 =>
        simp [hrj] at hj
        subst hj
        have hjs : j < sz := by rw [← hw r0 (List.mem_of_getElem? hri)]; exact (List.getElem?_eq_some_iff.1 hrj).1
        have hi' : i < rows.length := (List.getElem?_eq_some_iff.1 hri).1
        have hlt : i * sz + j < rows.length * sz := by
         have := Nat.mul_le_mul_right sz (Nat.succ_le_of_lt hi')
         rw [Nat.succ_mul] at this; omega
        have hs : 0 < sz := by omega
        have e1 : (i * sz + j) / sz = i := by rw [Nat.add_comm, Nat.add_mul_div_right _ _ hs, Nat.div_eq_of_lt hjs]; omega
        have e2 : (i * sz + j) % sz = j := by rw [Nat.add_comm, Nat.add_mul_mod_self_right, Nat.mod_eq_of_lt hjs]
        simp [hlt, e1, e2] at hy
        subst hy
        exact .r (hr i j r0 x0 hri hrj)
theorem aKa {st : St} {x : AV} {sz : Nat} {K : List Loc → List (List AV) → Prop} (h : srcK st x sz K) : ∃ rx news, K rx news ∧
  ∀ (e : Env) (st' : St) (g : Gh) (a : Act) (w : World) (vx : Value), SR C e st' g a w → Ag rx st st' → AR st'.cur g w (e.N st' g) x vx → Src st'.cur g w (e.N st' g) sz news vx := by
 unfold srcK at h
 split at h
 ·obtain ⟨rfl, h⟩ := h
  exact ⟨_, _, h, fun e st' g a w vx hs _ hx => aLx hs hx⟩
 ·exact ⟨_, _, h, fun e st' g a w vx hs _ hx => ⟨by simp, .inl ⟨cC hx, rfl⟩⟩⟩
 ·rename_i k ver
  split at h
  ·rename_i cv el sz' rows hk
   obtain ⟨rfl, rfl, h⟩ := h
   refine ⟨_, _, h, fun e st' g a w vx hs ha hx => ?_⟩
   have hk' := (ha.R (k := k) (by simp)).trans hk
   obtain ⟨xs, hown, hw, har⟩ := Df hs hk'
   have hv := jA hx (curk k hk').symm
   refine ⟨hw, ?_⟩
   rcases hown.2 with ⟨h4, h5⟩ | ⟨b, cap, cu, hv', hb0, hh, hnc, hcm, hcs, ht⟩
   ·exact .inl ⟨hv.trans h4, List.length_eq_zero_iff.1 h5⟩
   ·refine .inr ⟨⟨b, 0, none⟩, cap, xs, hv.trans hv', hown.1, fun j u hu => ?_, har⟩
    exact hown.cells (g := b) (by rw [hv']; rfl) j u hu
  ·exact h.elim
 ·exact h.elim
theorem Eo {e : Env} {st : St} {g : Gh} {a : Act} {w : World} (h : SR C e st g a w) (hok : e.ok C) {k t ty el sz ver : Nat} {rows news : List (List AV)} {v vx : Value} {xs : List Value} (hel : eZ C.P t = some el) (hk : bD C.P el = true) (h0 : 0 < aO C.P el)
  {z : Value} (hz : gH C.P el = some z) (hzl : z.cells.size = aO C.P el) (hsz : sz = aO C.P el)
  (hown : w.ownsRow 0 el sz v rows.length xs) (hrows : ∀ row ∈ rows, row.length = sz) (har : ∀ (i j : Nat) (row : List AV) (x : AV) (y : Value), rows[i]? = some row → row[j]? = some x → xs[i * sz + j]? = some y → AR st.cur g w (e.N st g) x y)
  (hsrc : Src st.cur g w (e.N st g) sz news vx) (hoc : ∀ row ∈ news, ∀ c ∈ row, fQ c = true) (hlen : rows.length + news.length ≤ 9223372036854775807) (hby : (rows.length + news.length) * dX C.P el ≤ 140737488355328)
  (hver : ver = st.cur k + 1) {fp : List Nat} (hblk : ∀ b, bV v = some b ∨ b ∈ fp → blk st g k b) (hnest : Nest w (e.N st g) v (nds rows.flatten xs) fp) :
  ∃ v' w', (Builtin.append_ #[t, t] ty #[v, vx]).run C.P w = .ok v' w' ∧ v'.oneCell' = true ∧ SR C e { st with rs := putR k (ver, .sl el sz (rows ++ news)) st.rs } (gput g k v' fp) a w' := by
 subst hsz
 obtain ⟨_, i, hu', hi⟩ := uU hk
 have hzi : i.zero = some z := by simpa [gH, hi] using hz
 have hisz : i.size = aO C.P el := by simp [aO, hi]
 have hib : i.bytes = dX C.P el := by simp [dX, hi]
 have hu := qI hel
 have fin : ∀ (v' : Value) (w' : World) (ys : List Value), w'.ownsRow 0 el (aO C.P el) v' (rows.length + news.length) (xs ++ ys) → w.grownBy w' v.ownBlock → (∀ b, v'.ownBlock = some b → v.ownBlock = some b ∨ w.heap.size ≤ b) →
   (∀ (i j : Nat) (row : List AV) (x : AV) (y : Value), news[i]? = some row → row[j]? = some x → ys[i * aO C.P el + j]? = some y → AR st.cur g w (e.N st g) x y) →
   v'.oneCell' = true ∧ SR C e { st with rs := putR k (ver, .sl el (aO C.P el) (rows ++ news)) st.rs } (gput g k v' fp) a w' := by
  intro v' w' ys q1 q2 q3 q4
  have hvo := uV hown
  have hv1 : v'.oneCell' = true := by
   rcases q1.2 with ⟨rfl, _⟩ | ⟨g, cap, cur, rfl, _⟩ <;> rfl
  refine ⟨hv1, (h.turn (w' := w') k ver (.sl el (aO C.P el) (rows ++ news)) v' fp q2.os q2.tape q2.output q2.size (fun b hb hne => q2.block b hb (fun hc => ?_)) (.inl (by omega)) (fun b _ hb => ?_) hok (fun st' g' hst hg hl hN => ?_)).1⟩
  ·have : bV v = some b := by rw [hvo]; exact hc.symm
   exact hne (hblk b (.inl this))
  ·rcases hb with hb | hb
   rotate_left
   ·have hbk := hblk b (.inr hb)
    exact ⟨Nat.lt_of_lt_of_le (h.low k b hbk).2.1 q2.size, .inl hbk⟩
   rw [uV q1] at hb
   refine ⟨(q1.lt b hb).2, ?_⟩
   rcases q3 b hb with q | q
   ·exact .inl (hblk b (.inl (by rw [hvo]; exact q)))
   ·exact .inr q
  ·refine ⟨xs ++ ys, by rw [hg]; simpa [gput] using q1, fun row hrow => ?_, fun i j row x y hi hj hy => ?_, ?_⟩
   rotate_right
   ·rw [show g' k = v' from by rw [hg]; exact if_pos rfl, show g'.f k = fp from by rw [hg]; exact if_pos rfl, List.flatten_append, sW (by rw [pW hrows, hown.1]), lK (zW fun row hrow c hc => Ey (hoc row hrow c hc)), List.append_nil]
    have hl2 := hnest.lift q2.size hN fun b hb => q2.block b (h.low k b (hblk b (.inr hb))).2.1 fun hc => hnest.apart (by rw [hvo]; exact hc.symm) b hb rfl
    refine ⟨hl2.nd, ?_⟩
    cases hv' : bV v' with
    | none => exact (List.nodup_append.1 hl2.dup).2.1
    | some b =>
     refine List.nodup_cons.2 ⟨fun hb => ?_, (List.nodup_append.1 hl2.dup).2.1⟩
     rw [uV q1] at hv'
     rcases q3 b hv' with q | q
     ·exact hnest.apart (by rw [hvo]; exact q) b hb rfl
     ·have := (h.low k b (hblk b (.inr hb))).2.1; omega
   ·rcases List.mem_append.1 hrow with hr | hr
    ·exact hrows row hr
    ·exact hsrc.rows row hr
   ·have hjl := (List.getElem?_eq_some_iff.1 hj).1
    by_cases hir : i < rows.length
    ·rw [List.getElem?_append_left hir] at hi
     have hrl := hrows row (List.mem_of_getElem? hi)
     have hlt : i * aO C.P el + j < xs.length := by
      rw [hown.1]
      have := Nat.mul_le_mul_right (aO C.P el) (Nat.succ_le_of_lt hir)
      rw [Nat.succ_mul] at this; omega
     rw [List.getElem?_append_left hlt] at hy
     exact hl _ _ (har i j row x y hi hj hy)
    ·rw [List.getElem?_append_right (by omega)] at hi
     have hge : xs.length ≤ i * aO C.P el + j := by
      rw [hown.1]
      have := Nat.mul_le_mul_right (aO C.P el) (Nat.le_of_not_lt hir)
      omega
     rw [List.getElem?_append_right hge] at hy
     refine hl _ _ (q4 (i - rows.length) j row x y hi hj ?_)
     rw [← hy]; congr 1
     rw [hown.1, Nat.sub_mul]
     have := Nat.mul_le_mul_right (aO C.P el) (Nat.le_of_not_lt hir)
     omega
 rcases hsrc.val with ⟨rfl, rfl⟩ | ⟨ad, c, ys, rfl, hyl, hyc, hya⟩
 ·refine ⟨v, w, run_append_owned_none (P := C.P) (w := w) 0 t ty el i (aO C.P el) hu hi v rows.length xs hown, ?_⟩
  refine fin v w [] (by simpa using hown) ⟨rfl, rfl, rfl, Nat.le_refl _, fun _ _ _ => rfl⟩ (fun b hb => .inl hb) (by simp)
 ·have hone : ∀ u ∈ ys, u.oneCell' = true := fun u hu => by
   obtain ⟨p, hp, rfl⟩ := List.getElem_of_mem hu
   rw [hyl] at hp
   obtain ⟨d1, d2, d3⟩ := Oe hp
   have hr : news[p / aO C.P el]? = some news[p / aO C.P el] := List.getElem?_eq_getElem d1
   have hrl := hsrc.rows _ (List.mem_of_getElem? hr)
   have hx : news[p / aO C.P el][p % aO C.P el]? = some news[p / aO C.P el][p % aO C.P el] := List.getElem?_eq_getElem (by omega)
   have hy : ys[p / aO C.P el * aO C.P el + p % aO C.P el]? = some ys[p] := by rw [d3]; exact List.getElem?_eq_getElem _
   exact Nq (hya _ _ _ _ _ hr hx hy) (hoc _ (List.mem_of_getElem? hr) _ (List.mem_of_getElem? hx))
  obtain ⟨v', w', r1, r2, r3, r4⟩ := zJ (P := C.P) w t ty el i z (aO C.P el) (dX C.P el) hu hi hzi hisz hib hzl h0 v rows.length xs hown ad news.length c ys hyl hyc hone (by simp only [maxLen]; omega) hby
  exact ⟨v', w', r1, fin v' w' ys r2 r3 r4 hya⟩
theorem Ni {st : St} {d t : Nat} {s x : Operand} {o : Oper} {K : List Loc → List (Loc × Cont) → Prop} (hdst : o.dst = some d) {c : Call} (ho : o.op = .call c) (hc : c.callee = .builtin .append) (hca : c.args = #[s, x]) (hct : c.argTypes = #[t, t]) (hd : d < st.n)
  (h : Aa C.P d t st (ev st s) (ev st x) (rd [s, x]) K) :
  ∃ l outs, K l outs ∧ jI C o st.n (l.map fun x => (x, st.get x)) outs := by
 unfold Aa at h
 split at h
 ·exact h.elim
 ·rename_i el hel
  obtain ⟨hkn, h0, h⟩ := h
  obtain ⟨z, hz, ⟨hzl, h⟩, hzr⟩ := sD h
  obtain ⟨rx, news, ⟨hoc, h⟩, hsrc⟩ := aKa (C := C) h
  replace hoc := Av hoc
  have run : ∀ (a : Act) (w w' : World) (v' : Value), (Builtin.append_ #[t, t] o.type #[a.eval s, a.eval x]).run C.P w = .ok v' w' → (execOp a.eval o).run C.P w = .ok (.value v') w' := fun a w w' v' hr => by
   simp [execOp, ho, resolve, hc, hca, hct, invoke, builtin, hr]
  split at h
  ·rename_i k ver hse
   split at h
   ·rename_i cv el' sz rows hk
    obtain ⟨rfl, rfl, rfl, hlen, hby, h⟩ := h
    refine ⟨_, _, h, fun e st' a w next Q hn ⟨heok, g, hs⟩ ha hnext => ?_⟩
    have ha0 := bU.1 ha
    have hk' := (ha0.R (k := k) (by simp)).trans hk
    have harx : Ag rx st st' := fun y hy => ha0 y (by simp [hy])
    have hard : Ag (rd [s, x]) st st' := fun y hy => ha0 y (by simp [hy])
    have h1 := arg hs hard (x := s) (by simp)
    have h2 := arg hs hard (x := x) (by simp)
    rw [hse] at h1
    have hv := jA h1 (curk k hk').symm
    obtain ⟨xs, hown, hw, har, hnest⟩ := rE hs hk'
    obtain ⟨v', w', r1, r2, r3⟩ := Eo hs heok (ty := o.type) (ver := ver + 1) hel hkn h0 hz (by simpa using hzl) rfl hown hw har (hsrc e st' g a w _ hs harx h2) hoc hlen hby (by rw [curk k hk']) (fp := g.f k) (fun b hb => ⟨by rw [hk']; simp, hb⟩) hnest
    refine qB hdst (run a w w' v' (by rw [hv]; exact r1)) (hnext _ _ ⟨heok, _, r3.put (d := d) (v := v') (by show d < st'.n; omega) (.os k (ver + 1) _ r2 (.inr ⟨by simp [St.cur, cX], by simp [gput]⟩))⟩)
   ·exact h.elim
  ·rename_i hse
   obtain ⟨hlen, hby, h⟩ := h
   refine ⟨_, _, h, fun e st' a w next Q hn ⟨heok, g, hs⟩ ha hnext => ?_⟩
   have ha0 := bU.1 ha
   have hcur : st'.cur d = st.cur d := by simp [St.cur, ha0.R (k := d) (by simp)]
   have harx : Ag rx st st' := fun y hy => ha0 y (by simp [hy])
   have hard : Ag (rd [s, x]) st st' := fun y hy => ha0 y (by simp [hy])
   have h1 := arg hs hard (x := s) (by simp)
   have h2 := arg hs hard (x := x) (by simp)
   rw [hse] at h1
   have hv := cC h1
   obtain ⟨v', w', r1, r2, r3⟩ := Eo hs heok (k := d) (ty := o.type) (ver := st.cur d + 1) (rows := []) (xs := []) (v := .slice none 0 0) hel hkn h0 hz (by simpa using hzl) rfl (World.ownsRow_nil w 0 el _) (by simp) (by simp) (hsrc e st' g a w _ hs harx h2) hoc (by simpa using hlen) (by simpa using hby) (by rw [hcur]) (fp := []) (fun b hb => by simp [bV] at hb) .none
   simp only [List.nil_append] at r3
   refine qB hdst (run a w w' v' (by rw [hv]; exact r1)) (hnext _ _ ⟨heok, _, r3.put (d := d) (v := v') (by show d < st'.n; omega) (.os d (st.cur d + 1) _ r2 (.inr ⟨by simp [St.cur, cX], by simp [gput]⟩))⟩)
  ·exact h.elim
theorem aAs {o : Oper} {st : St} {d : Nat} {K : List Loc → List (Loc × Cont) → Prop} (hdst : o.dst = some d) (hd : d < st.n) (h : valK C o.op st fun l x => K l [(.T d, .a x)]) :
  ∃ l outs, K l outs ∧ jI C o st.n (l.map fun x => (x, st.get x)) outs := by
 obtain ⟨l, r, hK, h1⟩ := aEx h
 refine ⟨l, _, hK, mS hdst hd fun e st' g a w hs ha => ?_⟩
 obtain ⟨v, w', r1, r2, r3⟩ := h1 e st' g a w hs (bU.1 ha)
 exact ⟨v, w', r1, r2.heap, r2.os, r2.tape, r2.output, r3⟩
theorem Hk {o : Oper} {st : St} {K : List Loc → List (Loc × Cont) → Prop} (h : opK C o st K) :
  ∃ l outs, K l outs ∧ jI C o st.n (l.map fun x => (x, st.get x)) outs := by
 unfold opK at h
 split at h
 ·rename_i hdst
  split at h
  ·rename_i t x v ho; exact Tj hdst ho h
  ·exact h.elim
 ·rename_i d hdst
  obtain ⟨hd, h⟩ := h
  split at h
  ·rename_i t ho; exact Wx hdst ho hd h.2
  ·rename_i t x ho; exact aLk hdst ho hd h
  ·rename_i t len parts ho
   split at h
   ·rename_i e hel; exact Du hdst ho hd hel h
   ·exact h.elim
  ·rename_i t x lo hi ho; exact Ty hdst ho hd h
  ·rename_i t l c ho
   split at h
   ·rename_i e n m hel hl hc; exact Gq hdst ho hd hel hl hc h
   ·exact h.elim
  ·rename_i f first captured ho; exact Lv hdst ho hd h
  ·rename_i t ho; exact Oq hdst ho hd h
  ·rename_i c ho
   split at h
   ·rename_i s x t t' hc hca hct
    obtain ⟨rfl, h⟩ := h
    exact Ni hdst ho hc (arr1 hca) (arr1 hct) hd h
   ·exact aAs hdst hd h
  ·exact aAs hdst hd h
end
mutual
def bK (ok : Nat → Bool) : AV → Bool
 | .r _ => true
 | .os k _ => ok k
 | .rf k _ _ => ok k
 | .re k _ _ _ _ => ok k
 | .agg cs => aX ok cs
 | .tup cs => aX ok cs
 | .any => true
 | .cl _ cs => aX ok cs
 | .nd _ _ _ => true
def aX (ok : Nat → Bool) : List AV → Bool
 | [] => true
 | x :: l => bK ok x && aX ok l
end
mutual
def ren (σ δ : Nat → Nat) : AV → AV
 | .r x => .r x
 | .os k v => .os (σ k) (v + δ k)
 | .rf k v o => .rf (σ k) (v + δ k) o
 | .re k v s i o => .re (σ k) (v + δ k) s i o
 | .agg cs => .agg (renL σ δ cs)
 | .tup cs => .tup (renL σ δ cs)
 | .any => .any
 | .cl f cs => .cl f (renL σ δ cs)
 | .nd e sz rows => .nd e sz rows
def renL (σ δ : Nat → Nat) : List AV → List AV
 | [] => []
 | x :: l => ren σ δ x :: renL σ δ l
end
def dQ (σ δ : Nat → Nat) : Res → Res
 | .gone => .gone
 | .bx cells => .bx (renL σ δ cells)
 | .sl e sz rows => .sl e sz (rows.map (renL σ δ))
 | .mp f n => .mp f n
def bP (ok : Nat → Bool) : Res → Prop
 | .gone => True
 | .bx cells => aX ok cells = true
 | .sl _ _ rows => ∀ row ∈ rows, aX ok row = true
 | .mp _ _ => True
theorem cH {ok : Nat → Bool} : ∀ {l : List AV}, aX ok l = true → ∀ (j : Nat) (x : AV), l[j]? = some x → bK ok x = true
 | y :: l, h, 0, x, hx => by
  simp only [aX, Bool.and_eq_true] at h
  simp at hx; subst hx; exact h.1
 | y :: l, h, j + 1, x, hx => by
  simp only [aX, Bool.and_eq_true] at h
  exact cH h.2 j x (by simpa using hx)
theorem gJ {σ δ : Nat → Nat} : ∀ {l : List AV} (j : Nat), (renL σ δ l)[j]? = (l[j]?).map (ren σ δ)
 | [], j => by simp [renL]
 | x :: l, 0 => by simp [renL]
 | x :: l, j + 1 => by simp only [renL, List.getElem?_cons_succ]; exact gJ j
theorem gN {σ δ : Nat → Nat} : ∀ {l : List AV}, (renL σ δ l).length = l.length
 | [] => rfl
 | x :: l => by simp [renL, gN]
theorem Bd {σ δ : Nat → Nat} : ∀ {l : List AV}, renL σ δ l = l.map (ren σ δ)
 | [] => rfl
 | x :: l => by simp only [renL, List.map_cons, Bd (l := l)]
theorem Lh {σ δ : Nat → Nat} (x : AV) (v : Value) : ndOf (ren σ δ x, v) = ndOf (x, v) := by cases x <;> rfl
theorem Ri {σ δ : Nat → Nat} {xs : List AV} {vs : List Value} : nds (renL σ δ xs) vs = nds xs vs := by rw [Bd]; exact xE Lh
theorem Kf {σ δ : Nat → Nat} {rows : List (List AV)} {vs : List Value} : nds (rows.map (renL σ δ)).flatten vs = nds rows.flatten vs := by
 rw [show renL σ δ = List.map (ren σ δ) from funext fun l => Bd, ← List.map_flatten]; exact xE Lh
theorem AR.limit {cur cur' : Nat → Nat} {g g' : Gh} {w w' : World} {N N' : Nat → Prop} {x : AV} {v : Value} (h : AR cur g w N x v) {ok : Nat → Bool} (hw : bK ok x = true) (σ δ : Nat → Nat) (hs : w.heap.size ≤ w'.heap.size)
  (hk : ∀ b, b < w.heap.size → ¬ N b → w'.heap[b]? = w.heap[b]? ∧ ¬ N' b) (hc : ∀ k, ok k = true → cur k + δ k < cur' (σ k) ∨ cur k + δ k = cur' (σ k) ∧ g k = g' (σ k)) : AR cur' g' w' N' (ren σ δ x) v := by
 induction h with
 | r h => exact .r (h.mono hs hk)
 | os k ver v h1 h =>
  simp only [bK] at hw
  refine .os _ _ v h1 ?_
  rcases hc k hw with h2 | ⟨h2, h3⟩ <;> rcases h with h | ⟨h, h4⟩
  ·left; omega
  ·left; omega
  ·left; omega
  ·right; exact ⟨by omega, by rw [← h3]; exact h4⟩
 | rf k ver off v h1 h =>
  simp only [bK] at hw
  refine .rf _ _ _ v h1 ?_
  rcases hc k hw with h2 | ⟨h2, h3⟩ <;> rcases h with h | ⟨h, h4⟩
  ·left; omega
  ·left; omega
  ·left; omega
  ·right; exact ⟨by omega, by rw [← h3]; exact h4⟩
 | re k ver sz i off v h1 h =>
  simp only [bK] at hw
  refine .re _ _ _ _ _ v h1 ?_
  rcases hc k hw with h2 | ⟨h2, h3⟩ <;> rcases h with h | ⟨h, h4⟩
  ·left; omega
  ·left; omega
  ·left; omega
  ·right; exact ⟨by omega, by rw [← h3]; exact h4⟩
 | agg cs xs hs' _ ih =>
  simp only [bK] at hw
  refine .agg _ xs (by rw [gN]; exact hs') (fun j x y hx hy => ?_)
  rw [gJ] at hx
  cases hj : cs[j]? with
  | none => simp [hj] at hx
  | some z => simp [hj] at hx; subst hx; exact ih j z y hj hy (cH hw j z hj)
 | tup cs xs hs' _ ih =>
  simp only [bK] at hw
  refine .tup _ xs (by rw [gN]; exact hs') (fun j x y hx hy => ?_)
  rw [gJ] at hx
  cases hj : cs[j]? with
  | none => simp [hj] at hx
  | some z => simp [hj] at hx; subst hx; exact ih j z y hj hy (cH hw j z hj)
 | any v => exact .any v
 | cl f cs xs hs' _ ih =>
  simp only [bK] at hw
  refine .cl f _ xs (by rw [gN]; exact hs') (fun j x y hx hy => ?_)
  rw [gJ] at hx
  cases hj : cs[j]? with
  | none => simp [hj] at hx
  | some z => simp [hj] at hx; subst hx; exact ih j z y hj hy (cH hw j z hj)
 | nd e sz rows v => exact .nd e sz rows v
theorem AR.unren {cur cur' : Nat → Nat} {g g' : Gh} {w w' : World} {N N' : Nat → Prop} {ok : Nat → Bool} {σ δ : Nat → Nat} (hs : w.heap.size ≤ w'.heap.size)
  (hk : ∀ b, b < w.heap.size → ¬ N b → w'.heap[b]? = w.heap[b]? ∧ ¬ N' b) (hc : ∀ k, ok k = true → cur (σ k) = cur' k + δ k ∧ g (σ k) = g' k) : ∀ {y : AV} {v : Value}, AR cur g w N y v → ∀ {x : AV}, y = ren σ δ x → bK ok x = true → AR cur' g' w' N' x v := by
 intro y v h
 induction h with
 | r h => intro x hx hw; cases x <;> simp [ren] at hx; subst hx; exact .r (h.mono hs hk)
 | os k ver v h1 h =>
  intro x hx hw; cases x <;> simp [ren] at hx
  obtain ⟨rfl, rfl⟩ := hx
  obtain ⟨c1, c2⟩ := hc _ hw
  exact .os _ _ v h1 (h.imp (fun h => by omega) (fun h => ⟨by omega, by rw [← c2]; exact h.2⟩))
 | rf k ver off v h1 h =>
  intro x hx hw; cases x <;> simp [ren] at hx
  obtain ⟨rfl, rfl, rfl⟩ := hx
  obtain ⟨c1, c2⟩ := hc _ hw
  exact .rf _ _ _ v h1 (h.imp (fun h => by omega) (fun h => ⟨by omega, by rw [← c2]; exact h.2⟩))
 | re k ver sz i off v h1 h =>
  intro x hx hw; cases x <;> simp [ren] at hx
  obtain ⟨rfl, rfl, rfl, rfl, rfl⟩ := hx
  obtain ⟨c1, c2⟩ := hc _ hw
  exact .re _ _ _ _ _ v h1 (h.imp (fun h => by omega) (fun h => ⟨by omega, by rw [← c2]; exact h.2⟩))
 | agg cs xs hs' _ ih =>
  intro x hx hw; cases x <;> simp [ren] at hx
  subst hx
  simp only [bK] at hw
  refine .agg _ xs (by rw [gN] at hs'; exact hs') (fun j x y hj hy => ih j (ren σ δ x) y (by rw [gJ, hj]; rfl) hy rfl (cH hw j x hj))
 | tup cs xs hs' _ ih =>
  intro x hx hw; cases x <;> simp [ren] at hx
  subst hx
  simp only [bK] at hw
  refine .tup _ xs (by rw [gN] at hs'; exact hs') (fun j x y hj hy => ih j (ren σ δ x) y (by rw [gJ, hj]; rfl) hy rfl (cH hw j x hj))
 | any v => intro x hx hw; cases x <;> simp [ren] at hx; exact .any v
 | cl f cs xs hs' _ ih =>
  intro x hx hw; cases x <;> simp [ren] at hx
  obtain ⟨rfl, rfl⟩ := hx
  simp only [bK] at hw
  refine .cl f _ xs (by rw [gN] at hs'; exact hs') (fun j x y hj hy => ih j (ren σ δ x) y (by rw [gJ, hj]; rfl) hy rfl (cH hw j x hj))
 | nd e sz rows v => intro x hx hw; cases x <;> simp [ren] at hx; exact .nd _ _ _ v
abbrev stR (rs : List (Nat × Nat × Res)) : St := ⟨0, [], rs⟩
abbrev act0 : Act := { tmps := #[], defers := [] }
def domR (rs : List (Nat × Nat × Res)) (k : Nat) : Bool := match (aB k rs).2 with | .gone => false | _ => true
structure FC (C : Ctx) (f : Nat) (args : List AV) (rs0 : List (Nat × Nat × Res)) (r : AV) (rs1 : List (Nat × Nat × Res)) : Prop where
 run : ∀ (e : Env) (g : Gh) (w : World) (vs : Array Value), e.ok C → SR C e (stR rs0) g act0 w → PW (stR rs0).cur g w (e.N (stR rs0) g) args vs →
  Calls C.P f vs w fun x w' => ∃ v g', x = .returned v ∧ SR C (e.re (stR rs1) g') (stR rs1) g' act0 w' ∧ AR (stR rs1).cur g' w' (e.N (stR rs1) g') r v ∧ ∀ k, domR rs1 k = true → e.cur0 k < (stR rs1).cur k ∨ e.cur0 k = (stR rs1).cur k ∧ g' k = e.g0 k
def argT : Nat → List AV → List (Nat × AV)
 | _, [] => []
 | i, x :: l => (i, x) :: argT (i + 1) l
theorem xX : ∀ (l : List AV) (i d : Nat), bB d (argT i l) = if i ≤ d then l.getD (d - i) .any else .any
 | [], i, d => by simp [argT, bB]
 | x :: l, i, d => by
  simp only [argT, bB, xX l (i + 1) d]
  by_cases h : d = i
  ·subst h; simp
  ·rw [if_neg h]
   by_cases h2 : i ≤ d
   ·rw [if_pos (by omega), if_pos h2]
    have : d - i = (d - (i + 1)) + 1 := by omega
    rw [this]; rfl
   ·rw [if_neg (by omega), if_neg h2]
def resK (st : St) (P : Program) : List ResultVar → List AV → Prop
 | [], [] => True
 | .tmp t :: l, x :: xs => bB t st.t = x ∧ resK st P l xs
 | .cell t ty :: l, x :: xs => (∃ k ver cells, bB t st.t = .os k ver ∧ aB k st.rs = (ver, .bx cells) ∧ Sn P ty cells x) ∧ resK st P l xs
 | _, _ => False
def resV : List AV → AV
 | [x] => x
 | l => .tup l
structure Fin (C : Ctx) (fn : Func) (r : AV) (rs1 : List (Nat × Nat × Res)) (x : Exit) (st : St) : Prop where
 exit : x = .normal ∨ x = .ret
 res : ∃ l, resK st C.P fn.results.toList l ∧ r = resV l
 sub : ∀ k, domR rs1 k = true → aB k st.rs = aB k rs1
 inr : bK (domR rs1) r = true
 ins : ∀ k, bP (domR rs1) (aB k rs1).2
mutual
theorem Nx : ∀ (x : AV), ren id (fun _ => 0) x = x
 | .r _ => rfl
 | .os _ _ => rfl
 | .rf _ _ _ => rfl
 | .re _ _ _ _ _ => rfl
 | .agg cs => by simp only [ren, An cs]
 | .tup cs => by simp only [ren, An cs]
 | .any => rfl
 | .cl _ cs => by simp only [ren, An cs]
 | .nd _ _ _ => rfl
theorem An : ∀ (l : List AV), renL id (fun _ => 0) l = l
 | [] => rfl
 | x :: l => by simp only [renL, Nx x, An l]
end
theorem Gx {rs : List (Nat × Nat × Res)} {k : Nat} (h : (aB k rs).2 ≠ .gone) : domR rs k = true := by
 unfold domR; split
 ·rename_i h2; exact absurd h2 h
 ·rfl
theorem Gg {rs : List (Nat × Nat × Res)} {k : Nat} (h : ¬ domR rs k = true) : (aB k rs).2 = .gone := by
 unfold domR at h; split at h
 ·rename_i h2; exact h2
 ·simp at h
theorem SR.final {C : Ctx} {e : Env} {st : St} {g : Gh} {a : Act} {w : World} (h : SR C e st g a w) {rs1 : List (Nat × Nat × Res)} (hsub : ∀ k, domR rs1 k = true → aB k st.rs = aB k rs1) (hin : ∀ k, bP (domR rs1) (aB k rs1).2) :
  SR C (e.re (stR rs1) g) (stR rs1) g act0 w ∧ ∀ x v, bK (domR rs1) x = true → AR st.cur g w (e.N st g) x v → AR (stR rs1).cur g w (e.N (stR rs1) g) x v := by
 have hbl : ∀ k b, blk (stR rs1) g k b → blk st g k b := fun k b hb => by
  have hd : domR rs1 k = true := Gx hb.1
  rw [← xT (st := st) (st' := stR rs1) (g := g) (g' := g) (by show (aB k rs1).2 = _; rw [hsub k hd]) rfl rfl]; exact hb
 have hown : ∀ b, own (stR rs1) g b → own st g b := fun b ⟨k, hk⟩ => ⟨k, hbl k b hk⟩
 have hx : Ext w (own st g) w (own (stR rs1) g) := ⟨rfl, rfl, rfl, Nat.le_refl _, fun b _ hb => ⟨rfl, fun h1 => hb (hown b h1)⟩⟩
 have hl : ∀ x v, bK (domR rs1) x = true → AR st.cur g w (e.N st g) x v → AR (stR rs1).cur g w (e.N (stR rs1) g) x v := fun x v hw hv => by
  have := hv.limit hw id (fun _ => 0) (w' := w) (g' := g) (cur' := (stR rs1).cur) (N' := e.N (stR rs1) g) (Nat.le_refl _) (fun b hb hn => ⟨rfl, fun hn' => hn'.elim (fun h1 => hn (.inl h1)) (fun h1 => hn (.inr (hown b h1)))⟩)
   (fun k hk => .inr ⟨by simp only [St.cur, id, Nat.add_zero]; rw [hsub k hk], rfl⟩)
  rwa [Nx] at this
 refine ⟨⟨rfl, rfl, fun d => .any _, fun k => ?_, fun k k' b hk hk' => h.uniq k k' b (hbl k b hk) (hbl k' b hk'), fun k b hk => h.low k b (hbl k b hk), h.ext.trans hx, fun _ => .inr ⟨rfl, rfl⟩⟩, hl⟩
 by_cases hd : domR rs1 k = true
 ·have h1 := h.res k
  rw [hsub k hd] at h1
  have h2 := hin k
  revert h1 h2
  show ResR _ _ _ _ _ (aB k rs1).2 → _ → ResR _ _ _ _ _ (aB k rs1).2
  cases (aB k rs1).2 with
  | gone => intro _ _; trivial
  | bx cells =>
   rintro ⟨b, C', el, q1, q2, q3, q4, q6⟩ q5
   exact ⟨b, C', el, q1, q2, q3, fun j x y hj hy => hl _ _ (cH q5 j x hj) (q4 j x y hj hy), q6.lift (Nat.le_refl _) (pC hx) fun _ _ => rfl⟩
  | sl el sz rows =>
   rintro ⟨xs, q1, q2, q3, q6⟩ q5
   exact ⟨xs, q1, q2, fun i j row x y hi hj hy => hl _ _ (cH (q5 row (List.mem_of_getElem? hi)) j x hj) (q3 i j row x y hi hj hy), q6.lift (Nat.le_refl _) (pC hx) fun _ _ => rfl⟩
  | mp f n => intro q _; exact q
 ·show ResR _ _ _ _ _ (aB k rs1).2
  rw [Gg hd]; trivial
def rvS (a : Act) : ResultVar → Sem Value
 | .tmp t => pure (a.tmps.getD t undef)
 | .cell q t => do loadVar t (← asAddr (a.tmps.getD q undef))
theorem Cj (fn : Func) (a : Act) : results fn a.tmps = (do let vs ← fn.results.mapM (rvS a); pure (if h : vs.size = 1 then vs[0] else .tuple vs)) := by
 have : ∀ f g : ResultVar → Sem Value, f = g → (do let vs ← fn.results.mapM f; pure (if h : vs.size = 1 then vs[0] else .tuple vs) : Sem Value) = (do let vs ← fn.results.mapM g; pure (if h : vs.size = 1 then vs[0] else .tuple vs)) := fun f g h => by rw [h]
 exact this _ _ (funext fun x => by cases x <;> rfl)
theorem vK {C : Ctx} {e : Env} {st : St} {g : Gh} {a : Act} {w : World} (h : SR C e st g a w) : ∀ {l : List ResultVar} {xs : List AV}, resK st C.P l xs →
  ∃ vs, (l.mapM (rvS a)).run C.P w = .ok vs w ∧ vs.length = xs.length ∧
   ∀ (j : Nat) (x : AV) (y : Value), xs[j]? = some x → vs[j]? = some y → AR st.cur g w (e.N st g) x y
 | [], [], _ => ⟨[], rfl, rfl, fun j x y hx => by simp at hx⟩
 | .tmp t :: l, x :: xs, hr => by
  obtain ⟨h1, h2⟩ := hr
  obtain ⟨vs, q1, q2, q3⟩ := vK h h2
  have ht := h.temps t
  rw [h1] at ht
  refine ⟨a.tmps.getD t undef :: vs, by simp only [List.mapM_cons, Sem.run_bind, q1, rvS, Sem.run_pure, Result.andThen_ok], by simp [q2], fun j x' y hx hy => ?_⟩
  cases j with
  | zero => simp at hx; subst hx; simp only [List.getElem?_cons_zero, Option.some.injEq] at hy; rw [← hy]; exact ht
  | succ j => exact q3 j x' y (by simpa using hx) (by simpa using hy)
 | .cell t ty :: l, x :: xs, hr => by
  obtain ⟨⟨k, ver, cells, h1, hk, hl⟩, h2⟩ := hr
  obtain ⟨vs, q1, q2, q3⟩ := vK h h2
  have ht := h.temps t
  rw [h1] at ht
  obtain ⟨b, hb, hh⟩ := pZ h hk
  have hv := jA ht (curk k hk).symm
  obtain ⟨u, hu, hux⟩ := lL (P := C.P) hl hh
  have hrun : (rvS a (.cell t ty)).run C.P w = .ok u w := by
   simp only [rvS]
   rw [hv, hb]
   simpa [Instr.loadAt, Instr.sureAddr, asAddr] using hu
  refine ⟨u :: vs, by simp only [List.mapM_cons, Sem.run_bind, hrun, q1, Result.andThen_ok, Sem.run_pure], by simp [q2], fun j x' y hx hy => ?_⟩
  cases j with
  | zero => simp at hx hy; subst hx; subst hy; exact hux
  | succ j => exact q3 j x' y (by simpa using hx) (by simpa using hy)
 | [], _ :: _, hr => hr.elim
 | .tmp _ :: _, [], hr => hr.elim
 | .cell _ _ :: _, [], hr => hr.elim
theorem Gd {C : Ctx} {f : Nat} {fn : Func} {body : Code} {args : List AV} {rs0 rs1 : List (Nat × Nat × Res)} {r : AV} (hf : C.P.funcs[f]? = some fn) (hb : fn.body = some body) (hn : args.length ≤ fn.ntmps)
  (h : lwp C body ⟨fn.ntmps, argT 0 args, rs0⟩ (Fin C fn r rs1)) : FC C f args rs0 r rs1 := by
 refine ⟨?_⟩
 intro e g w vs hok hs hvs
 refine calls_of_wp hf hb ?_
 have h0 : S C e ⟨fn.ntmps, argT 0 args, rs0⟩ { tmps := vs ++ Array.replicate (fn.ntmps - vs.size) undef, defers := [] } w := by
  refine ⟨hok, g, ⟨rfl, ?_, fun d => ?_, hs.res, hs.uniq, hs.low, hs.ext, hs.hist⟩⟩
  ·have := hvs.1; simp; omega
  ·show AR (stR rs0).cur g w (e.N (stR rs0) g) (bB d (argT 0 args)) _
   rw [xX]
   simp only [Nat.zero_le, if_true, Nat.sub_zero]
   cases hd : args[d]? with
   | none => simp [List.getD, hd]; exact .any _
   | some x =>
    have hlt : d < vs.size := by rw [hvs.1]; exact (List.getElem?_eq_some_iff.1 hd).1
    have hv : vs[d]? = some vs[d] := Array.getElem?_eq_getElem hlt
    have : (vs ++ Array.replicate (fn.ntmps - vs.size) undef).getD d undef = vs[d] := by
     simp [Array.getD_eq_getD_getElem?, Array.getElem?_append_left hlt, hv]
    rw [this]
    simp only [List.getD, hd, Option.getD_some]
    exact hvs.2 d x _ hd hv
 refine wp_mono (h e _ w h0) ?_
 rintro x a' w' ⟨st', ⟨_, g', hs'⟩, hfin⟩
 obtain ⟨l, hl, rfl⟩ := hfin.res
 obtain ⟨us, r1, r2, r3⟩ := vK hs' hl
 obtain ⟨f1, f2⟩ := hs'.final hfin.sub hfin.ins
 have key : ∃ v, (results fn a'.tmps).run C.P w' = .ok v w' ∧ AR st'.cur g' w' (e.N st' g') (resV l) v := by
  have hm : (fn.results.mapM (rvS a')).run C.P w' = .ok us.toArray w' := by
   rw [Array.mapM_eq_mapM_toList]
   simp only [Sem.run_map, r1, Result.andThen_ok]
  refine ⟨if h : us.toArray.size = 1 then us.toArray[0] else .tuple us.toArray, ?_, ?_⟩
  ·rw [Cj, Sem.run_bind, hm]; rfl
  ·by_cases h1 : us.toArray.size = 1
   ·rw [dif_pos h1]
    have hl1 : l.length = 1 := by rw [← r2]; simpa using h1
    match l, hl1 with
    | [x], _ =>
     refine r3 0 x _ rfl ?_
     rw [List.getElem?_eq_getElem (by simpa using (by simpa using h1 : us.length = 1) ▸ Nat.one_pos)]
     rfl
   ·rw [dif_neg h1]
    have hne : l.length ≠ 1 := by rw [← r2]; simpa using h1
    have : resV l = .tup l := by
     match l, hne with
     | [], _ => rfl
     | [_], h => simp at h
     | _ :: _ :: _, _ => rfl
    rw [this]
    exact .tup _ _ (by simpa using r2) (fun j x y hx hy => r3 j x y hx (by simpa using hy))
 obtain ⟨v, k1, k2⟩ := key
 have fin : a'.defers = [] ∧ ∃ v, (results fn a'.tmps).run C.P w' = .ok v w' ∧ ∃ v' g', Ending.returned v = .returned v' ∧ SR C (e.re (stR rs1) g') (stR rs1) g' act0 w' ∧ AR (stR rs1).cur g' w' (e.N (stR rs1) g') (resV l) v' ∧ ∀ k, domR rs1 k = true → e.cur0 k < (stR rs1).cur k ∨ e.cur0 k = (stR rs1).cur k ∧ g' k = e.g0 k :=
  ⟨hs'.defers, v, k1, v, g', rfl, f1, f2 _ _ hfin.inr k2, fun k hk => by
   have := hs'.hist k
   have hc : st'.cur k = (stR rs1).cur k := by simp only [St.cur]; rw [hfin.sub k hk]
   rwa [hc] at this⟩
 rcases hfin.exit with rfl | rfl
 ·exact fin
 ·exact fin
def aF (P : Program) (f : Nat) : Prop := ∀ (args : Array Value) (w : World), (callFunc f args).run P w = .ok (.enter f args) w
def bR : Nat → Bool := fun _ => false
def gh0 : Gh := ⟨fun _ => undef, fun _ => []⟩
theorem AR.any_cur {cur cur' : Nat → Nat} {g g' : Gh} {w w' : World} {N N' : Nat → Prop} {x : AV} {v : Value} (h : AR cur g w N x v) (hw : bK bR x = true) (hs : w.heap.size ≤ w'.heap.size)
  (hk : ∀ b, b < w.heap.size → ¬ N b → w'.heap[b]? = w.heap[b]? ∧ ¬ N' b) : AR cur' g' w' N' x v := by
 have := h.limit hw id (fun _ => 0) (cur' := cur') (g' := g') hs hk (fun k hk => by simp [bR] at hk)
 rwa [Nx] at this
theorem FC.use0 {C : Ctx} {f : Nat} {args : List AV} {r : AV} (hf : FC C f args [] r []) (hr : bK bR r = true) {w : World} (hG : C.G w) (hgs : C.gs ≤ w.heap.size) {av : Nat → Prop} (hav : ∀ b, av b → b < w.heap.size)
  {cur : Nat → Nat} {g : Gh} {vs : Array Value} (ha : aX bR args = true) (hvs : PW cur g w av args vs) :
  Calls C.P f vs w fun x w' => ∃ v, x = .returned v ∧ Ext w (fun _ => False) w' (fun _ => False) ∧ ∀ cur' g', AR cur' g' w' av r v := by
 let e : Env := ⟨w, fun _ => False, av, (stR []).cur, g⟩
 have hok : e.ok C := ⟨hG, hgs, fun b h => h.elim, hav⟩
 have hno : ∀ g b, ¬ own (stR []) g b := fun g b ⟨k, hk⟩ => by simp [blk, aB] at hk
 have hs : SR C e (stR []) g act0 w := ⟨rfl, rfl, fun d => .any _, fun k => trivial, fun k k' b hk => by simp [blk, aB] at hk, fun k b hk => by simp [blk, aB] at hk, ⟨rfl, rfl, rfl, Nat.le_refl _, fun b _ _ => ⟨rfl, hno g b⟩⟩, fun _ => .inr ⟨rfl, rfl⟩⟩
 refine (hf.run e g w vs hok hs ⟨hvs.1, fun j x y hx hy => ?_⟩).mono ?_
 ·exact (hvs.2 j x y hx hy).any_cur (cH ha j x hx) (Nat.le_refl _) (fun b _ hn => ⟨rfl, fun h => h.elim hn (hno g b)⟩)
 ·rintro x w' ⟨v, g', rfl, hs', hv, _⟩
  refine ⟨v, rfl, ⟨hs'.ext.os, hs'.ext.tape, hs'.ext.output, hs'.ext.size, fun b hb hn => ⟨(hs'.ext.block b hb hn).1, hn⟩⟩, fun cur' g'' => ?_⟩
  exact hv.any_cur hr (Nat.le_refl _) (fun b _ hn => ⟨rfl, fun h => hn (.inl h)⟩)
mutual
def ndV : NV → RV
 | .r x => x
 | .nd _ sz rows => .rs sz (ndRs rows)
def ndL : List NV → List RV
 | [] => []
 | x :: l => ndV x :: ndL l
def ndRs : List (List NV) → List (List RV)
 | [] => []
 | r :: l => ndL r :: ndRs l
end
theorem Si : ∀ {l : List NV}, ndL l = l.map ndV
 | [] => rfl
 | x :: l => by simp only [ndL, List.map_cons, Si (l := l)]
theorem sC : ∀ {l : List (List NV)}, ndRs l = l.map fun r => r.map ndV
 | [] => rfl
 | x :: l => by simp only [ndRs, List.map_cons, sC (l := l), Si]
theorem lS {α : Type} {sz : Nat} : ∀ {rows : List (List α)}, (∀ row ∈ rows, row.length = sz) → ∀ {i j : Nat} {row : List α} {x : α}, rows[i]? = some row → row[j]? = some x → rows.flatten[i * sz + j]? = some x
 | [], _, i, j, row, x, hi, _ => by simp at hi
 | r :: rows, h, 0, j, row, x, hi, hj => by
  simp at hi; subst hi
  have := (List.getElem?_eq_some_iff.1 hj).1
  rw [List.flatten_cons, Nat.zero_mul, Nat.zero_add, List.getElem?_append_left this]; exact hj
 | r :: rows, h, i + 1, j, row, x, hi, hj => by
  have hr := h r (List.mem_cons_self ..)
  have ih := lS (fun row hrow => h row (List.mem_cons_of_mem _ hrow)) (i := i) (j := j) (by simpa using hi) hj
  have e : (i + 1) * sz + j = r.length + (i * sz + j) := by rw [Nat.succ_mul, hr]; omega
  rw [List.flatten_cons, e, List.getElem?_append_right (by omega), Nat.add_sub_cancel_left]; exact ih
theorem NDL.rr {w : World} {N N' : Nat → Prop} (hN : ∀ b, N' b → N b) {l : List (NV × Value)} {f : List Nat} (h : NDL w N l f) : (∀ b ∈ f, b < w.heap.size ∧ ¬ N' b) → ∀ p ∈ l, RR w N' (ndV p.1) p.2 := by
 induction h with
 | nil => intro _ p hp; simp at hp
 | r h _ ih =>
  intro hf p hp
  rcases List.mem_cons.1 hp with rfl | hp
  ·exact h.mono (Nat.le_refl _) fun b _ hn => ⟨rfl, fun h' => hn (hN b h')⟩
  ·exact ih hf p hp
 | @nd e sz rows v xs l f f' ho hw hi hl ih1 ih2 =>
  intro hf p hp
  rcases List.mem_cons.1 hp with rfl | hp
  rotate_left
  ·exact ih2 (fun b hb => hf b (by simp [hb])) p hp
  have ih := ih1 fun b hb => hf b (by simp [hb])
  show RR w N' (.rs sz (ndRs rows)) v
  have hlen : (ndRs rows).length = rows.length := by rw [sC, List.length_map]
  rcases ho.2 with ⟨h4, h5⟩ | ⟨b, cap, cu, hv', hb0, hh, hnc, hcm, hcs, ht⟩
  ·have : ndRs rows = [] := List.length_eq_zero_iff.1 (by omega)
   rw [h4, this]; exact .nil sz
  ·have hbf := hf b (by rw [hv']; simp [bV])
   have hlt : ∀ i j, i < rows.length → j < sz → i * sz + j < xs.length := fun i j hi hj => by
    rw [ho.1]
    have := Nat.mul_le_mul_right sz (show i + 1 ≤ rows.length by omega)
    rw [Nat.succ_mul] at this; omega
   have hget : ∀ (i : Nat) (rowR : List RV), (ndRs rows)[i]? = some rowR → ∃ row, rows[i]? = some row ∧ rowR = row.map ndV ∧ row.length = sz := fun i rowR hr => by
    rw [sC, List.getElem?_map] at hr
    cases hi' : rows[i]? with
    | none => simp [hi'] at hr
    | some row => simp [hi'] at hr; exact ⟨row, rfl, hr.symm, hw row (List.mem_of_getElem? hi')⟩
   rw [hv', ← hlen]
   refine .rs sz (ndRs rows) ⟨b, 0, none⟩ cap (fun i j => xs.getD (i * sz + j) undef) (fun _ => ⟨hbf.1, hbf.2, rfl⟩) (by omega) (fun row hrow => ?_) (fun i j hi' hj => ?_) (fun i j row x hi' hj => ?_)
   ·obtain ⟨i, hi', rfl⟩ := List.getElem_of_mem hrow
    obtain ⟨row, _, h2, h3⟩ := hget i _ (List.getElem?_eq_getElem hi')
    rw [h2, List.length_map, h3]
   ·have hl2 := hlt i j (by omega) hj
    have := ho.cells (g := b) (by rw [hv']; rfl) (i * sz + j) _ (List.getElem?_eq_getElem hl2)
    rw [jG] at this
    simp only [List.getD, List.getElem?_eq_getElem hl2, Option.getD_some]
    exact this
   ·obtain ⟨row0, h1, rfl, h3⟩ := hget i _ hi'
    have hir := (List.getElem?_eq_some_iff.1 h1).1
    rw [List.getElem?_map] at hj
    cases hj0 : row0[j]? with
    | none => simp [hj0] at hj
    | some x0 =>
     simp [hj0] at hj
     subst hj
     have hjs : j < sz := by rw [← h3]; exact (List.getElem?_eq_some_iff.1 hj0).1
     have hl2 := hlt i j hir hjs
     have hx := List.getElem?_eq_getElem hl2
     simp only [List.getD, hx, Option.getD_some]
     exact ih (x0, xs[i * sz + j]) (List.mem_of_getElem? (i := i * sz + j) (List.getElem?_zip_eq_some.2 ⟨lS hw h1 hj0, hx⟩))
theorem Nest.rr {w : World} {N N' : Nat → Prop} {v0 : Value} {cells : List AV} {vs : List Value} {f : List Nat} (h : Nest w N v0 (nds cells vs) f) (hN : ∀ b, N' b → N b) (hf : ∀ b ∈ f, b < w.heap.size ∧ ¬ N' b) {p e sz : Nat} {rows : List (List NV)} {v : Value}
  (hc : cells[p]? = some (.nd e sz rows)) (hv : vs[p]? = some v) : RR w N' (.rs sz (ndRs rows)) v :=
 h.nd.rr hN hf (.nd e sz rows, v) (List.mem_filterMap.2 ⟨(AV.nd e sz rows, v), List.mem_of_getElem? (i := p) (List.getElem?_zip_eq_some.2 ⟨hc, hv⟩), rfl⟩)
inductive Bor (l : List Loc) (st : St) : AV → AV → Prop
 | same (x : AV) (h : bK bR x = true) : Bor l st x x
 | sl (k ver e sz : Nat) (rows : List (List AV)) (rowsR : List (List RV)) (hl : .R k ∈ l) (hk : aB k st.rs = (ver, .sl e sz rows)) (hn : rowsR.length = rows.length) (hm : ∀ (i : Nat) (row : List AV) (rowR : List RV), rows[i]? = some row → rowsR[i]? = some rowR → rowR.length = row.length)
   (h : ∀ (i j : Nat) (row : List AV) (rowR : List RV) (x : AV) (y : RV), rows[i]? = some row → rowsR[i]? = some rowR → row[j]? = some x → rowR[j]? = some y → Bor l st x (.r y)) : Bor l st (.os k ver) (.r (.rs sz rowsR))
 | bx (k ver : Nat) (cells : List AV) (rowR : List RV) (hl : .R k ∈ l) (hk : aB k st.rs = (ver, .bx cells)) (hn : rowR.length = cells.length)
   (h : ∀ (j : Nat) (x : AV) (y : RV), cells[j]? = some x → rowR[j]? = some y → Bor l st x (.r y)) : Bor l st (.os k ver) (.r (.rp rowR))
 | rf (k ver off : Nat) (cells : List AV) (rowR : List RV) (hl : .R k ∈ l) (hk : aB k st.rs = (ver, .bx cells)) (hn : rowR.length = cells.length - off)
   (h : ∀ (j : Nat) (x : AV) (y : RV), cells[off + j]? = some x → rowR[j]? = some y → Bor l st x (.r y)) : Bor l st (.rf k ver off) (.r (.rp rowR))
 | agg (cs : List AV) (ys : List RV) (hd : ∀ x ∈ cs, isNd x = false) (hn : ys.length = cs.length) (h : ∀ (j : Nat) (x : AV) (y : RV), cs[j]? = some x → ys[j]? = some y → Bor l st x (.r y)) : Bor l st (.agg cs) (.agg (ys.map .r))
 | un (x : AV) : Bor l st x (.r .un)
 | cl (f : Nat) (cs : List AV) (ys : List RV) (hd : ∀ x ∈ cs, isNd x = false) (hn : ys.length = cs.length) (h : ∀ (j : Nat) (x : AV) (y : RV), cs[j]? = some x → ys[j]? = some y → Bor l st x (.r y)) : Bor l st (.cl f cs) (.r (.fn f ys))
 | nd (e sz : Nat) (rows : List (List NV)) : Bor l st (.nd e sz rows) (.r (.rs sz (ndRs rows)))
theorem Bt {l : List Loc} {st : St} {x : AV} {y : RV} {w : World} {N' : Nat → Prop} {v : Value} {cur' : Nat → Nat} {g' : Gh} (hb : Bor l st x (.r y)) (h1 : ∀ e sz rows, x = .nd e sz rows → RR w N' (.rs sz (ndRs rows)) v) (h2 : isNd x = false → AR cur' g' w N' (.r y) v) : RR w N' y v := by
 cases hx : isNd x with
 | false => cases h2 hx with | r h => exact h
 | true =>
  cases x with
  | nd e sz rows =>
   cases hb with
   | nd => exact h1 _ _ _ rfl
   | un => exact .un _
  | _ => cases hx
theorem Lb {C : Ctx} {e : Env} {st' : St} {g : Gh} {a : Act} {w : World} (h : SR C e st' g a w) {k ver : Nat} {cells : List AV} (hk : aB k st'.rs = (ver, .bx cells)) {N' : Nat → Prop} (hN2 : ∀ b, N' b → e.N st' g b) (hN : ∀ b, blk st' g k b → ¬ N' b) :
  ∃ b, g k = .pointer (some ⟨b, 0, none⟩) ∧ Held st'.cur g w (e.N st' g) (.pointer (some ⟨b, 0, none⟩)) cells ∧
   ∀ (j e' sz : Nat) (rows : List (List NV)) (v : Value), cells[j]? = some (.nd e' sz rows) → w.cell? ⟨b, j, none⟩ = some v → RR w N' (.rs sz (ndRs rows)) v := by
 obtain ⟨b, hb, hh⟩ := pZ h hk
 refine ⟨b, hb, hh, fun j e' sz rows v hj hv => ?_⟩
 have hr := h.res k
 rw [hk] at hr
 obtain ⟨b', C', el, h1, h2, h3, h4, h5⟩ := hr
 have : b' = b := by rw [hb] at h1; simp at h1; exact h1.symm
 subst this
 refine h5.rr hN2 (fun c hc => ?_) hj ?_
 ·have hbk : blk st' g k c := ⟨by rw [hk]; simp, .inr hc⟩
  exact ⟨(h.low k c hbk).2.1, hN c hbk⟩
 ·have hjl : j < C'.size := by rw [h3]; exact (List.getElem?_eq_some_iff.1 hj).1
  simp [World.cell?, h2, hjl] at hv
  simp [hjl, hv]
theorem wJ {C : Ctx} {l : List Loc} {st st' : St} {x y : AV} (h : Bor l st x y) {e : Env} {g : Gh} {a : Act} {w : World} (hs : SR C e st' g a w) (hl : Ag l st st') {N' : Nat → Prop} (hN : ∀ k b, Loc.R k ∈ l → blk st' g k b → ¬ N' b) (hN2 : ∀ b, N' b → e.N st' g b) : isNd x = false → ∀ {v : Value}, AR st'.cur g w (e.N st' g) x v → ∀ cur' g', AR cur' g' w N' y v := by
 induction h with
 | same x h => intro _ v hv cur' g'; exact hv.any_cur h (Nat.le_refl _) (fun _ _ hn => ⟨rfl, fun h => hn (hN2 _ h)⟩)
 | sl k ver el sz rows rowsR hl' hk hn hm hB ih =>
  intro _ v hv cur' g'
  have hk' := (hl.R hl').trans hk
  obtain ⟨xs, hown, hw, har, hnest⟩ := rE hs hk'
  have hfp : ∀ b ∈ g.f k, b < w.heap.size ∧ ¬ N' b := fun b hb => by
   have hbk : blk st' g k b := ⟨by rw [hk']; simp, .inr hb⟩
   exact ⟨(hs.low k b hbk).2.1, hN k b hl' hbk⟩
  rw [jA hv (curk k hk').symm]
  rcases hown.2 with ⟨h4, h5⟩ | ⟨b, cap, cu, hv', hb0, hh, hnc, hcm, hcs, ht⟩
  ·have : rowsR = [] := List.length_eq_zero_iff.1 (by omega)
   rw [h4, this]; exact .r (.nil sz)
  ·rw [hv', ← hn]
   have hlt : ∀ i j, i < rowsR.length → j < sz → i * sz + j < xs.length := fun i j hi hj => by
    rw [hown.1]
    have := Nat.mul_le_mul_right sz (show i + 1 ≤ rows.length by omega)
    rw [Nat.succ_mul] at this; omega
   have hmr : ∀ (i : Nat) (rowR : List RV), rowsR[i]? = some rowR → ∃ row, rows[i]? = some row ∧ rowR.length = row.length ∧ row.length = sz := fun i rowR hr => by
    have hi := (List.getElem?_eq_some_iff.1 hr).1
    have hr' : rows[i]? = some rows[i] := List.getElem?_eq_getElem (by omega)
    exact ⟨_, hr', hm i _ _ hr' hr, hw _ (List.mem_of_getElem? hr')⟩
   refine .r (.rs sz rowsR ⟨b, 0, none⟩ cap (fun i j => xs.getD (i * sz + j) undef) (fun _ => ⟨?_, fun h => ?_, rfl⟩) (by omega) (fun row hrow => ?_) (fun i j hi hj => ?_) (fun i j row x hi hj => ?_))
   ·exact (hs.low k b ⟨by rw [hk']; simp, .inl (by rw [hv']; rfl)⟩).2.1
   ·exact hN k b hl' ⟨by rw [hk']; simp, .inl (by rw [hv']; rfl)⟩ h
   ·obtain ⟨i, hi, rfl⟩ := List.getElem_of_mem hrow
    obtain ⟨row, _, h2, h3⟩ := hmr i _ (List.getElem?_eq_getElem hi)
    omega
   ·have := hown.cells (g := b) (by rw [hv']; rfl) (i * sz + j) _ (List.getElem?_eq_getElem (hlt i j hi hj))
    rw [jG] at this
    simp only [List.getD, List.getElem?_eq_getElem (hlt i j hi hj), Option.getD_some]
    exact this
   ·obtain ⟨row0, h1, h2, h3⟩ := hmr i _ hi
    have hi' := (List.getElem?_eq_some_iff.1 hi).1
    have hj' := (List.getElem?_eq_some_iff.1 hj).1
    have hx0 : row0[j]? = some row0[j] := List.getElem?_eq_getElem (by omega)
    have hy := List.getElem?_eq_getElem (hlt i j hi' (by omega))
    simp only [List.getD, hy, Option.getD_some]
    refine Bt (cur' := cur') (g' := g') (hB i j row0 row _ x h1 hi hx0 hj) (fun e' sz' rows' he => ?_) fun hd => ih i j row0 row _ x h1 hi hx0 hj hd (har i j row0 _ _ h1 hx0 hy) cur' g'
    exact hnest.rr hN2 hfp (lS hw h1 (he ▸ hx0)) hy
 | bx k ver cells rowR hl' hk hn hB ih =>
  intro _ v hv cur' g'
  have hk' := (hl.R hl').trans hk
  obtain ⟨b, hb, hh, hnd⟩ := Lb hs hk' hN2 fun b hbk => hN k b hl' hbk
  rw [jA hv (curk k hk').symm, hb]
  obtain ⟨ad, c, he, _, hc⟩ := hh
  simp only [Value.pointer.injEq, Option.some.injEq] at he
  subst he
  refine .r (.rp rowR ⟨b, 0, none⟩ c (fun _ => ⟨(hs.low k b (yF hk' hb)).2.1, fun h => hN k b hl' (yF hk' hb) h, rfl⟩) (fun j hj => ?_) (fun j x hj => ?_))
  ·exact (hc j _ (List.getElem?_eq_getElem (by omega))).1
  ·have hj' := (List.getElem?_eq_some_iff.1 hj).1
   have hx0 : cells[j]? = some cells[j] := List.getElem?_eq_getElem (by omega)
   exact Bt (cur' := cur') (g' := g') (hB j _ x hx0 hj) (fun e' sz' rows' he => hnd j _ _ _ _ (he ▸ hx0) (by simpa using (hc j _ hx0).1)) fun hd => ih j _ x hx0 hj hd (hc j _ hx0).2 cur' g'
 | rf k ver off cells rowR hl' hk hn hB ih =>
  intro _ v hv cur' g'
  have hk' := (hl.R hl').trans hk
  obtain ⟨b, hb, hh, hnd⟩ := Lb hs hk' hN2 fun b hbk => hN k b hl' hbk
  obtain ⟨b', hb', rfl⟩ := As hv (curk k hk').symm
  have : b' = b := by rw [hb] at hb'; simp at hb'; exact hb'.symm
  subst this
  obtain ⟨ad, c, he, _, hc⟩ := hh
  simp only [Value.pointer.injEq, Option.some.injEq] at he
  subst he
  refine .r (.rp rowR ⟨b', off, none⟩ (fun j => c (off + j)) (fun _ => ⟨(hs.low k b' (yF hk' hb)).2.1, fun h => hN k b' hl' (yF hk' hb) h, rfl⟩) (fun j hj => ?_) (fun j x hj => ?_))
  ·have := (hc (off + j) _ (List.getElem?_eq_getElem (by omega))).1
   simpa using this
  ·have hj' := (List.getElem?_eq_some_iff.1 hj).1
   have hx0 : cells[off + j]? = some cells[off + j] := List.getElem?_eq_getElem (by omega)
   exact Bt (cur' := cur') (g' := g') (hB j _ x hx0 hj) (fun e' sz' rows' he => hnd (off + j) _ _ _ _ (he ▸ hx0) (by simpa using (hc (off + j) _ hx0).1)) fun hd => ih j _ x hx0 hj hd (hc (off + j) _ hx0).2 cur' g'
 | agg cs ys hd hn _ ih =>
  intro _ v hv cur' g'
  obtain ⟨xs, rfl, p1, p2⟩ := rG hv
  refine .agg _ _ (by simp; omega) (fun j x y hx hy => ?_)
  rw [List.getElem?_map] at hx
  cases hj : ys[j]? with
  | none => simp [hj] at hx
  | some z =>
   simp [hj] at hx
   subst hx
   have hj' := (List.getElem?_eq_some_iff.1 hj).1
   have hc0 : cs[j]? = some cs[j] := List.getElem?_eq_getElem (by omega)
   exact ih j _ z hc0 hj (hd _ (List.mem_of_getElem? hc0)) (p2 j _ y hc0 hy) cur' g'
 | un x => intro _ v _ _ _; exact .r (.un _)
 | cl f cs ys hd hn _ ih =>
  intro _ v hv cur' g'
  cases hv with
  | cl _ _ xs h1 h2 =>
   refine .r (.fn f ys xs (by omega) fun j z y hz hy => ?_)
   have hj' := (List.getElem?_eq_some_iff.1 hz).1
   have hc0 : cs[j]? = some cs[j] := List.getElem?_eq_getElem (by omega)
   have h6 := ih j _ z hc0 hz (hd _ (List.mem_of_getElem? hc0)) (h2 j _ y hc0 hy) cur' g'
   cases h6 with | r h6 => exact h6
 | nd e sz rows => intro h; cases h
theorem aK0 {C : Ctx} {l : List Loc} {st st' : St} {x y : AV} (h : Bor l st x y) {e : Env} {g : Gh} {a : Act} {w : World} (hs : SR C e st' g a w) (hl : Ag l st st') (hd : isNd x = false) {v : Value} (hv : AR st'.cur g w (e.N st' g) x v) (cur' : Nat → Nat) (g' : Gh) : AR cur' g' w (fun _ => False) y v :=
 wJ h hs hl (fun _ _ _ _ h => h) (fun _ h => h.elim) hd hv cur' g'
def Zu : RV → Bool
 | .v _ => true
 | .nan => true
 | .ln _ => true
 | .un => true
 | _ => false
mutual
def kZ : AV → Bool
 | .r x => Zu x
 | .agg cs => Ck cs
 | .tup cs => Ck cs
 | .any => true
 | _ => false
def Ck : List AV → Bool
 | [] => true
 | x :: l => kZ x && Ck l
end
theorem xS : ∀ {l : List AV}, Ck l = true → ∀ (j : Nat) (x : AV), l[j]? = some x → kZ x = true
 | y :: l, h, 0, x, hx => by
  simp only [Ck, Bool.and_eq_true] at h
  simp at hx; subst hx; exact h.1
 | y :: l, h, j + 1, x, hx => by
  simp only [Ck, Bool.and_eq_true] at h
  exact xS h.2 j x (by simpa using hx)
theorem aEy {cur cur' : Nat → Nat} {g g' : Gh} {w w' : World} {N N' : Nat → Prop} {x : AV} {v : Value} (h : AR cur g w N x v) (hf : kZ x = true) : AR cur' g' w' N' x v := by
 induction h with
 | r h => cases h <;> first | exact .r (.v _) | (simp [kZ, Zu] at hf; done) | exact .r (.nan _ ‹_›) | exact .r (.ln _ _ _) | exact .r (.un _)
 | os _ _ _ _ _ => simp [kZ] at hf
 | rf _ _ _ _ _ _ => simp [kZ] at hf
 | re _ _ _ _ _ _ _ _ => simp [kZ] at hf
 | agg cs xs hs _ ih => exact .agg cs xs hs (fun j x y hx hy => ih j x y hx hy (xS (by simpa [kZ] using hf) j x hx))
 | tup cs xs hs _ ih => exact .tup cs xs hs (fun j x y hx hy => ih j x y hx hy (xS (by simpa [kZ] using hf) j x hx))
 | any v => exact .any v
 | cl _ _ _ _ _ => simp [kZ] at hf
 | nd _ _ _ _ => simp [kZ] at hf
theorem Vf {P : Program} {o : Oper} {c : Call} {fop : Operand} {f : Nat} {vs : Array Value} {a : Act} {w : World} (ho : o.op = .call c) (hc : c.callee = .value fop) (hf : a.eval fop = .func (.func f) #[] vs) (he : aF P f) :
  (execOp a.eval o).run P w = .ok (.enter f (c.args.map a.eval ++ vs)) w := by
 simp [execOp, ho, resolve, hc, Deferred.ofValue, hf, invoke, he _ w]
theorem G_of {C : Ctx} {e : Env} {st : St} {a : Act} {w : World} (h : S C e st a w) : C.G w ∧ C.gs ≤ w.heap.size := by
 refine ⟨h.G, ?_⟩
 obtain ⟨ho, g, h⟩ := h
 have := ho.gs; have := h.ext.size; omega
theorem SR.grow {C : Ctx} {e : Env} {st : St} {g : Gh} {a : Act} {w w' : World} (h : SR C e st g a w) (hx : Ext w (fun _ => False) w' (fun _ => False)) : SR C e st g a w' ∧ ∀ x v, AR st.cur g w (e.N st g) x v → AR st.cur g w' (e.N st g) x v := by
 have hx' : Ext w (own st g) w' (own st g) := ⟨hx.os, hx.tape, hx.output, hx.size, fun b hb hn => ⟨(hx.block b hb (fun h => h)).1, hn⟩⟩
 have hc : ∀ k, st.cur k < st.cur k ∨ st.cur k = st.cur k ∧ g k = g k := fun k => .inr ⟨rfl, rfl⟩
 refine ⟨⟨h.defers, h.size, fun d => (h.temps d).lift hx' hc, fun k => (h.res k).lift hx' hc rfl rfl (fun hne b hb => ?_), h.uniq, fun k b hb => ?_, h.ext.trans hx', h.hist⟩, fun x v hv => hv.lift hx' hc⟩
 ·have hbk : blk st g k b := ⟨hne, hb⟩
  exact (hx.block b (h.low k b hbk).2.1 (fun h => h)).1
 ·obtain ⟨h1, h2, h3⟩ := h.low k b hb
  exact ⟨h1, by have := hx.size; omega, h3⟩
def FnIs (x : AV) (f : Nat) (caps : List AV) : Prop := (∃ cs, x = .r (.fn f cs) ∧ caps = cs.map .r) ∨ x = .cl f caps
theorem aMp {cur : Nat → Nat} {g : Gh} {w : World} {N : Nat → Prop} {f : Nat} {x : AV} {caps : List AV} {v : Value} (h : AR cur g w N x v) (hx : FnIs x f caps) : ∃ vs, v = .func (.func f) #[] vs ∧ vs.size = caps.length ∧ ∀ (j : Nat) (x : AV) (y : Value), caps[j]? = some x → vs[j]? = some y → AR cur g w N x y := by
 rcases hx with ⟨cs, rfl, rfl⟩ | rfl
 ·cases h with | r h => cases h with | fn _ _ vs h1 h2 => exact ⟨vs, rfl, by simpa using h1, fun j x y hx hy => by
   rw [List.getElem?_map] at hx
   cases hj : cs[j]? with
   | none => simp [hj] at hx
   | some z => simp [hj] at hx; subst hx; exact .r (h2 j z y hj hy)⟩
 ·cases h with | cl _ _ vs h1 h2 => exact ⟨vs, rfl, h1, h2⟩
theorem Px {C : Ctx} {e : Env} {st st' : St} {g : Gh} {a : Act} {w : World} (hs : SR C e st' g a w) {fop : Operand} {l : List Operand} (ha : Ag (rd (fop :: l)) st st') {f : Nat} {caps : List AV} (hf : FnIs (ev st fop) f caps) {args : Array Operand} (hl : args.toList = l) :
  ∃ vs, a.eval fop = .func (.func f) #[] vs ∧ PW st'.cur g w (e.N st' g) (l.map (ev st) ++ caps) (args.map a.eval ++ vs) := by
 have h1 := arg hs ha (x := fop) (by simp)
 obtain ⟨vs, hq, h2, h3⟩ := aMp h1 hf
 refine ⟨vs, hq, by simp [← hl, h2], fun j x y hx hy => ?_⟩
 have hargs : (args.map a.eval).size = l.length := by simp [← hl]
 by_cases hj : j < l.length
 ·rw [List.getElem?_append_left (by simpa using hj), List.getElem?_map, List.getElem?_eq_getElem hj] at hx
  rw [Array.getElem?_append_left (by omega), Array.getElem?_map] at hy
  have : args[j]? = some l[j] := by rw [← Array.getElem?_toList, hl]; exact List.getElem?_eq_getElem hj
  rw [this] at hy
  simp at hx hy
  subst hx; subst hy
  exact arg hs ha (List.mem_cons_of_mem _ (List.getElem_mem hj))
 ·rw [List.getElem?_append_right (by simpa using hj), List.length_map] at hx
  rw [Array.getElem?_append_right (by omega), hargs] at hy
  exact h3 _ _ _ hx hy
def aQ (C : Ctx) (f : Nat) (args : List AV) (r : AV) : Prop :=
 ∀ (cur : Nat → Nat) (g : Gh) (w : World) (av : Nat → Prop) (vs : Array Value), C.G w → C.gs ≤ w.heap.size → (∀ b, av b → b < w.heap.size) → PW cur g w av args vs →
  (∃ v w', (callFunc f vs).run C.P w = .ok (.value v) w' ∧ Ext w (fun _ => False) w' (fun _ => False) ∧ ∀ cur' g', AR cur' g' w' av r v) ∨
  ((callFunc f vs).run C.P w = .ok (.enter f vs) w ∧ Calls C.P f vs w fun x w' => ∃ v, x = .returned v ∧ Ext w (fun _ => False) w' (fun _ => False) ∧ ∀ cur' g', AR cur' g' w' av r v)
theorem aA {C : Ctx} {f : Nat} {args : List AV} {r : AV} (hf : FC C f args [] r []) (he : aF C.P f) (ha : aX bR args = true) (hr : bK bR r = true) : aQ C f args r :=
 fun _ _ w _ vs hG hgs hav hvs => .inr ⟨he vs w, hf.use0 hr hG hgs hav ha hvs⟩
theorem Dx {C : Ctx} {f : Nat} {fn : Func} {e : Array Value → Sem Value} {args : List AV} {r : AV} (hf : C.P.funcs[f]? = some fn) (hname : (fn.name == "runtime.NumGoroutine") = false) (hb : fn.body.isNone = true) (hn : Extern.findNext fn = none) (he : Extern.find fn = some e)
  (h : ∀ (cur : Nat → Nat) (g : Gh) (w : World) (av : Nat → Prop) (vs : Array Value), PW cur g w av args vs → ∃ v, (e vs).run C.P w = .ok v w ∧ ∀ cur' g', AR cur' g' w av r v) : aQ C f args r := by
 intro cur g w av vs _ _ _ hvs
 obtain ⟨v, h1, h2⟩ := h cur g w av vs hvs
 refine .inl ⟨v, w, ?_, Ext.refl _ _, h2⟩
 rw [run_callFunc_extern hf hname hb hn he, h1]
 rfl
def oM (f : AV → (List Loc → RV → Prop) → Prop) : List AV → (List Loc → List RV → Prop) → Prop
 | [], K => K [] []
 | x :: xs, K => f x fun l y => oM f xs fun l' ys => K (l ++ l') (y :: ys)
def nS (f : AV → (List Loc → RV → Prop) → Prop) : List (List AV) → (List Loc → List (List RV) → Prop) → Prop
 | [], K => K [] []
 | r :: rs, K => oM f r fun l y => nS f rs fun l' ys => K (l ++ l') (y :: ys)
def gB : Nat → St → AV → (List Loc → RV → Prop) → Prop
 | _, _, .r x, K => K [] x
 | _, _, .nd _ sz rows, K => K [] (.rs sz (ndRs rows))
 | n + 1, st, .os k ver, K => match aB k st.rs with
  | (cv, .sl _ sz rows) => ver = cv ∧ nS (gB n st) rows fun l R => K (.R k :: l) (.rs sz R)
  | (cv, .bx cells) => ver = cv ∧ oM (gB n st) cells fun l R => K (.R k :: l) (.rp R)
  | (cv, .mp _ _) => ver = cv ∧ K [] .un
  | _ => False
 | n + 1, st, .rf k ver off, K => match aB k st.rs with
  | (cv, .bx cells) => ver = cv ∧ oM (gB n st) (cells.drop off) fun l R => K (.R k :: l) (.rp R)
  | _ => False
 | _, _, _, _ => False
def noNd : List AV → Bool
 | [] => true
 | x :: l => !isNd x && noNd l
theorem sH : ∀ {l : List AV}, noNd l = true → ∀ x ∈ l, isNd x = false
 | y :: l, h, x, hx => by
  simp only [noNd, Bool.and_eq_true, Bool.not_eq_true'] at h
  rcases List.mem_cons.1 hx with rfl | hx
  ·exact h.1
  ·exact sH h.2 x hx
def vT (st : St) : AV → (List Loc → AV → Prop) → Prop
 | .agg cs, K => noNd cs = true ∧ oM (gB 4 st) cs fun l ys => K l (.agg (ys.map .r))
 | .cl f cs, K => noNd cs = true ∧ oM (gB 4 st) cs fun l ys => K l (.r (.fn f ys))
 | .nd _ _ _, _ => False
 | .any, K => K [] .any
 | x, K => gB 4 st x fun l y => K l (.r y)
def sA (st : St) : List AV → (List Loc → List AV → Prop) → Prop
 | [], K => K [] []
 | x :: xs, K => vT st x fun l y => sA st xs fun l' ys => K (l ++ l') (y :: ys)
theorem Bor.mono {l l' : List Loc} {st : St} {x y : AV} (h : Bor l st x y) (hl : ∀ k, k ∈ l → k ∈ l') : Bor l' st x y := by
 induction h with
 | same x h => exact .same x h
 | sl k ver e sz rows rowsR h1 h2 h3 h4 _ ih => exact .sl k ver e sz rows rowsR (hl _ h1) h2 h3 h4 ih
 | bx k ver cells rowR h1 h2 h3 _ ih => exact .bx k ver cells rowR (hl _ h1) h2 h3 ih
 | rf k ver off cells rowR h1 h2 h3 _ ih => exact .rf k ver off cells rowR (hl _ h1) h2 h3 ih
 | agg cs ys h0 h1 _ ih => exact .agg cs ys h0 h1 ih
 | un x => exact .un x
 | cl f cs ys h0 h1 _ ih => exact .cl f cs ys h0 h1 ih
 | nd e sz rows => exact .nd e sz rows
theorem pH {st : St} {f : AV → (List Loc → RV → Prop) → Prop} (hf : ∀ x K, f x K → ∃ l y, K l y ∧ Bor l st x (.r y)) : ∀ {xs : List AV} {K : List Loc → List RV → Prop}, oM f xs K →
  ∃ l ys, K l ys ∧ ys.length = xs.length ∧ ∀ (j : Nat) (x : AV) (y : RV), xs[j]? = some x → ys[j]? = some y → Bor l st x (.r y)
 | [], K, h => ⟨[], [], h, rfl, fun j x y hx => by simp at hx⟩
 | x :: xs, K, h => by
  obtain ⟨l, y, h1, h2⟩ := hf _ _ h
  obtain ⟨l', ys, h3, h4, h5⟩ := pH hf h1
  refine ⟨_, _, h3, by simp [h4], fun j x' y' hx hy => ?_⟩
  cases j with
  | zero => simp at hx hy; subst hx; subst hy; exact h2.mono fun k hk => List.mem_append_left _ hk
  | succ j => exact (h5 j x' y' (by simpa using hx) (by simpa using hy)).mono fun k hk => List.mem_append_right _ hk
theorem Lf {st : St} {f : AV → (List Loc → RV → Prop) → Prop} (hf : ∀ x K, f x K → ∃ l y, K l y ∧ Bor l st x (.r y)) : ∀ {xs : List (List AV)} {K : List Loc → List (List RV) → Prop}, nS f xs K →
  ∃ l ys, K l ys ∧ ys.length = xs.length ∧ (∀ (i : Nat) (row : List AV) (rowR : List RV), xs[i]? = some row → ys[i]? = some rowR → rowR.length = row.length) ∧
   ∀ (i j : Nat) (row : List AV) (rowR : List RV) (x : AV) (y : RV), xs[i]? = some row → ys[i]? = some rowR → row[j]? = some x → rowR[j]? = some y → Bor l st x (.r y)
 | [], K, h => ⟨[], [], h, rfl, fun i row rowR hx => by simp at hx, fun i j row rowR x y hx => by simp at hx⟩
 | x :: xs, K, h => by
  obtain ⟨l, y, h1, h2, h2'⟩ := pH hf h
  obtain ⟨l', ys, h3, h4, h5, h6⟩ := Lf hf h1
  refine ⟨_, _, h3, by simp [h4], fun i row rowR hx hy => ?_, fun i j row rowR x' y' hx hy hxj hyj => ?_⟩
  ·cases i with
   | zero => simp at hx hy; subst hx; subst hy; exact h2
   | succ i => exact h5 i row rowR (by simpa using hx) (by simpa using hy)
  ·cases i with
   | zero => simp at hx hy; subst hx; subst hy; exact (h2' j x' y' hxj hyj).mono fun k hk => List.mem_append_left _ hk
   | succ i => exact (h6 i j row rowR x' y' (by simpa using hx) (by simpa using hy) hxj hyj).mono fun k hk => List.mem_append_right _ hk
theorem Bz {st : St} : ∀ (n : Nat) (x : AV) (K : List Loc → RV → Prop), gB n st x K → ∃ l y, K l y ∧ Bor l st x (.r y) := by
 intro n
 induction n with
 | zero =>
  intro x K h
  cases x <;> simp only [gB] at h <;> first | exact h.elim | exact ⟨_, _, h, .same _ rfl⟩ | exact ⟨_, _, h, .nd _ _ _⟩
 | succ n ih =>
  intro x K h
  cases x with
  | r x => simp only [gB] at h; exact ⟨_, _, h, .same _ rfl⟩
  | nd e sz rows => simp only [gB] at h; exact ⟨_, _, h, .nd _ _ _⟩
  | os k ver =>
   simp only [gB] at h
   split at h
   ·rename_i cv e sz rows hk
    obtain ⟨rfl, h⟩ := h
    obtain ⟨l, ys, h1, h2, h3, h4⟩ := Lf ih h
    exact ⟨_, _, h1, .sl k ver e sz rows ys (by simp) hk h2 h3 (fun i j row rowR x y a1 a2 a3 a4 => (h4 i j row rowR x y a1 a2 a3 a4).mono fun k hk => List.mem_cons_of_mem _ hk)⟩
   ·rename_i cv cells hk
    obtain ⟨rfl, h⟩ := h
    obtain ⟨l, ys, h1, h2, h3⟩ := pH ih h
    exact ⟨_, _, h1, .bx k ver cells ys (by simp) hk h2 (fun j x y a1 a2 => (h3 j x y a1 a2).mono fun k hk => List.mem_cons_of_mem _ hk)⟩
   ·exact ⟨_, _, h.2, .un _⟩
   ·exact h.elim
  | rf k ver off =>
   simp only [gB] at h
   split at h
   ·rename_i cv cells hk
    obtain ⟨rfl, h⟩ := h
    obtain ⟨l, ys, h1, h2, h3⟩ := pH ih h
    exact ⟨_, _, h1, .rf k ver off cells ys (by simp) hk (by simpa using h2) (fun j x y a1 a2 => (h3 j x y (by simpa using a1) a2).mono fun k hk => List.mem_cons_of_mem _ hk)⟩
   ·exact h.elim
  | _ => simp only [gB] at h
theorem Zw {st : St} {x : AV} {K : List Loc → AV → Prop} (h : vT st x K) : ∃ l y, K l y ∧ Bor l st x y ∧ isNd x = false := by
 unfold vT at h
 split at h
 ·obtain ⟨l, ys, h1, h2, h3⟩ := pH (Bz 4) h.2
  exact ⟨l, _, h1, .agg _ _ (sH h.1) h2 h3, rfl⟩
 ·obtain ⟨l, ys, h1, h2, h3⟩ := pH (Bz 4) h.2
  exact ⟨l, _, h1, .cl _ _ _ (sH h.1) h2 h3, rfl⟩
 ·exact h.elim
 ·exact ⟨_, _, h, .same _ rfl, rfl⟩
 ·rename_i hnd _
  obtain ⟨l, y, h1, h2⟩ := Bz 4 _ _ h
  refine ⟨l, _, h1, h2, ?_⟩
  cases x <;> first | rfl | exact absurd rfl (hnd _ _ _)
theorem yI {st : St} : ∀ {xs : List AV} {K : List Loc → List AV → Prop}, sA st xs K →
  ∃ l ys, K l ys ∧ ys.length = xs.length ∧ ∀ (j : Nat) (x y : AV), xs[j]? = some x → ys[j]? = some y → Bor l st x y ∧ isNd x = false
 | [], K, h => ⟨[], [], h, rfl, fun j x y hx => by simp at hx⟩
 | x :: xs, K, h => by
  obtain ⟨l, y, h1, h2, h2'⟩ := Zw h
  obtain ⟨l', ys, h3, h4, h5⟩ := yI h1
  refine ⟨_, _, h3, by simp [h4], fun j x' y' hx hy => ?_⟩
  cases j with
  | zero => simp at hx hy; subst hx; subst hy; exact ⟨h2.mono fun k hk => List.mem_append_left _ hk, h2'⟩
  | succ j => exact (h5 j x' y' (by simpa using hx) (by simpa using hy)).imp (fun h => h.mono fun k hk => List.mem_append_right _ hk) id
theorem aEz {st : St} {x y : AV} (h : Bor [] st x y) {cur : Nat → Nat} {g : Gh} {w : World} {N : Nat → Prop} : isNd x = false → ∀ {v : Value}, AR cur g w N x v → AR cur g w N y v := by
 induction h with
 | same x h => exact fun _ => id
 | sl k ver e sz rows rowsR h1 => simp at h1
 | bx k ver cells rowR h1 => simp at h1
 | rf k ver off cells rowR h1 => simp at h1
 | agg cs ys hd hn _ ih =>
  intro _ v hv
  obtain ⟨xs, rfl, p1, p2⟩ := rG hv
  refine .agg _ _ (by simp; omega) (fun j x y hx hy => ?_)
  rw [List.getElem?_map] at hx
  cases hj : ys[j]? with
  | none => simp [hj] at hx
  | some z =>
   simp [hj] at hx
   subst hx
   have hj' := (List.getElem?_eq_some_iff.1 hj).1
   have hc0 : cs[j]? = some cs[j] := List.getElem?_eq_getElem (by omega)
   exact ih j _ z hc0 hj (hd _ (List.mem_of_getElem? hc0)) (p2 j _ y hc0 hy)
 | un x => intro _ v _; exact .r (.un _)
 | cl f cs ys hd hn _ ih =>
  intro _ v hv
  cases hv with
  | cl _ _ xs h1 h2 =>
   refine .r (.fn f ys xs (by omega) fun j z y hz hy => ?_)
   have hj' := (List.getElem?_eq_some_iff.1 hz).1
   have hc0 : cs[j]? = some cs[j] := List.getElem?_eq_getElem (by omega)
   have h6 := ih j _ z hc0 hz (hd _ (List.mem_of_getElem? hc0)) (h2 j _ y hc0 hy)
   cases h6 with | r h6 => exact h6
 | nd e sz rows => intro h; cases h
def vY (C : Ctx) (sp : List AV → (AV → Prop) → Prop) (c : Call) (fop : Operand) (caps : List AV) (o : Oper) (st : St) (K : List Loc → List (Loc × Cont) → Prop) : Prop :=
 sA st (c.args.toList.map (ev st) ++ caps) fun l ys => sp ys fun r => bK bR r = true ∧ (l.isEmpty || kZ r) = true ∧ match o.dst with
  | some d => d < st.n ∧ K (rd (fop :: c.args.toList) ++ l) [(.T d, .a r)]
  | none => K (rd (fop :: c.args.toList) ++ l) []
theorem aBq {P : Program} {o : Oper} {a : Act} {w : World} {next : Act → World → Prop} {Q : Exit → Act → World → Prop} {v : Value} {w' : World} (hr : (execOp a.eval o).run P w = .ok (.value v) w') (h : next (a.put o.dst v) w') : o.wp P a w next Q := by
 unfold Oper.wp; rw [hr]; exact h
theorem Cm {P : Program} {o : Oper} {f : Nat} {a : Act} {w : World} {args : Array Value} {next : Act → World → Prop} {Q : Exit → Act → World → Prop} (hr : (execOp a.eval o).run P w = .ok (.enter f args) w)
  (h : Calls P f args w fun x w' => ∃ v, x = .returned v ∧ next (a.put o.dst v) w') : o.wp P a w next Q := by
 unfold Oper.wp
 rw [hr]
 show Calls P f args w _
 refine h.mono ?_
 rintro x w' ⟨v, rfl, hv⟩
 exact hv
theorem Yz {C : Ctx} {f : Nat} {sp : List AV → (AV → Prop) → Prop} (hok : ∀ args K, sp args K → ∃ r, aQ C f args r ∧ K r) {c : Call} {fop : Operand} {caps : List AV} {o : Oper} {st : St} {K : List Loc → List (Loc × Cont) → Prop} (ho : o.op = .call c) (hc : c.callee = .value fop) (hf : FnIs (ev st fop) f caps) (h : vY C sp c fop caps o st K) :
  ∃ l outs, K l outs ∧ jI C o st.n (l.map fun x => (x, st.get x)) outs := by
 unfold vY at h
 obtain ⟨l, ys, h1, hlen, hbor⟩ := yI h
 obtain ⟨r, hr, hin, hfl, h2⟩ := hok _ _ h1
 have key : ∃ outs, K (rd (fop :: c.args.toList) ++ l) outs ∧ (match o.dst with | some d => d < st.n ∧ outs = [(.T d, .a r)] | none => outs = []) := by
  revert h2
  cases o.dst with
  | none => intro h2; exact ⟨_, h2, rfl⟩
  | some d => intro h2; exact ⟨_, h2.2, h2.1, rfl⟩
 obtain ⟨outs, hK, hdst⟩ := key
 refine ⟨_, outs, hK, ?_⟩
 intro e st' a w next Q hn hS ha hnext
 obtain ⟨hG, hgs⟩ := G_of hS
 obtain ⟨heok, g, hs⟩ := hS
 replace ha := bU.1 ha
 obtain ⟨vs, hv, hpw⟩ := Px hs ha.left hf rfl
 have fin : ∀ v w', Ext w (fun _ => False) w' (fun _ => False) → AR st'.cur g w' (e.N st' g) r v → next (a.put o.dst v) w' := by
  intro v w' hx hav
  obtain ⟨hs', _⟩ := hs.grow hx
  refine hnext _ _ ⟨heok, g, ?_⟩
  revert hdst
  cases o.dst with
  | none => intro hd; subst hd; exact hs'
  | some d => rintro ⟨hd, rfl⟩; exact hs'.put (by rw [hn]; exact hd) hav
 have run : ∀ nx w', (callFunc f (c.args.map a.eval ++ vs)).run C.P w = .ok nx w' → (execOp a.eval o).run C.P w = .ok nx w' := by
  intro nx w' hq
  simp [execOp, ho, resolve, hc, Deferred.ofValue, hv, invoke, hq]
 have main : ∀ (av : Nat → Prop), (∀ b, av b → b < w.heap.size) → (∀ w' v, (∀ cur' g', AR cur' g' w' av r v) → AR st'.cur g w' (e.N st' g) r v) → (∃ cur1 g1, PW cur1 g1 w av ys (c.args.map a.eval ++ vs)) → o.wp C.P a w next Q := by
  rintro av hav hback ⟨cur1, g1, hpw'⟩
  rcases hr cur1 g1 w av _ hG hgs hav hpw' with ⟨v, w', k1, k2, k3⟩ | ⟨k1, k2⟩
  ·exact aBq (run _ _ k1) (fin v w' k2 (hback w' v k3))
  ·refine Cm (run _ _ k1) (k2.mono ?_)
   rintro x w' ⟨v, rfl, hx, hav'⟩
   exact ⟨v, rfl, fin v w' hx (hback w' v hav')⟩
 cases l with
 | nil =>
  refine main (e.N st' g) (fun b hb => hb.elim (fun h => by have := heok.av b h; have := hs.ext.size; omega) (fun ⟨k, h⟩ => (hs.low k b h).2.1)) (fun w' v hq => hq _ _) ⟨st'.cur, g, by rw [hlen]; exact hpw.1, fun j x y hx hy => ?_⟩
  have hj : j < (c.args.toList.map (ev st) ++ caps).length := by rw [← hlen]; exact (List.getElem?_eq_some_iff.1 hx).1
  have hj' := List.getElem?_eq_getElem hj
  exact aEz (hbor j _ x hj' hx).1 (hbor j _ x hj' hx).2 (hpw.2 j _ y hj' hy)
 | cons k0 l0 =>
  refine main (fun _ => False) (fun b hb => hb.elim) (fun w' v hq => aEy (hq (fun _ => 0) gh0) (by simpa using hfl)) ⟨fun _ => 0, gh0, by rw [hlen]; exact hpw.1, fun j x y hx hy => ?_⟩
  have hj : j < (c.args.toList.map (ev st) ++ caps).length := by rw [← hlen]; exact (List.getElem?_eq_some_iff.1 hx).1
  have hj' := List.getElem?_eq_getElem hj
  exact aK0 (hbor j _ x hj' hx).1 hs ha.right (hbor j _ x hj' hx).2 (hpw.2 j _ y hj' hy) _ _
def jT (δ : Nat → Nat) (σ : Nat → Nat) (rs1 : List (Nat × Nat × Res)) (st : St) (k : Nat) : Nat := if domR rs1 k = true then (aB k rs1).1 + δ k else st.cur (σ k) + 1
def sO (σ δ : Nat → Nat) (rs1 : List (Nat × Nat × Res)) (st : St) : List Nat → List (Nat × Nat × Res) → List (Nat × Nat × Res)
 | [], rs => rs
 | k :: l, rs => sO σ δ rs1 st l (putR (σ k) (jT δ σ rs1 st k, dQ σ δ (aB k rs1).2) rs)
theorem Bw {σ δ : Nat → Nat} {rs1 : List (Nat × Nat × Res)} {st : St} {j : Nat} : ∀ {l : List Nat} {rs : List (Nat × Nat × Res)}, (∀ k ∈ l, σ k ≠ j) → aB j (sO σ δ rs1 st l rs) = aB j rs
 | [], rs, _ => rfl
 | k :: l, rs, h => by
  unfold sO
  rw [Bw (fun k hk => h k (List.mem_cons_of_mem _ hk)), cX, if_neg]
  exact fun he => h k (List.mem_cons_self ..) he.symm
theorem Et {σ δ : Nat → Nat} {rs1 : List (Nat × Nat × Res)} {st : St} : ∀ {l : List Nat} {rs : List (Nat × Nat × Res)}, (∀ j ∈ l, ∀ k ∈ l, σ j = σ k → j = k) → ∀ k ∈ l, aB (σ k) (sO σ δ rs1 st l rs) = (jT δ σ rs1 st k, dQ σ δ (aB k rs1).2)
 | [], rs, _, k, hk => by simp at hk
 | i :: l, rs, h, k, hk => by
  unfold sO
  by_cases hkl : k ∈ l
  ·exact Et (fun a ha b hb => h a (List.mem_cons_of_mem _ ha) b (List.mem_cons_of_mem _ hb)) k hkl
  ·have hki : k = i := by rcases List.mem_cons.1 hk with h1 | h1; exact h1; exact absurd h1 hkl
   subst hki
   rw [Bw (fun j hj he => hkl (by rw [h k (List.mem_cons_self ..) j (List.mem_cons_of_mem _ hj) he.symm]; exact hj)), cX, if_pos rfl]
theorem Mi {σ δ : Nat → Nat} {rs1 : List (Nat × Nat × Res)} {st0 : St} : ∀ {l : List Nat} {st : St}, st.upd (l.map fun k => (.R (σ k), .s (jT δ σ rs1 st0 k) (dQ σ δ (aB k rs1).2))) = { st with rs := sO σ δ rs1 st0 l st.rs }
 | [], st => rfl
 | k :: l, st => by
  simp only [List.map_cons, St.upd, sO]
  rw [Mi (l := l)]
  rfl
theorem Sz : ∀ {l l' : List (Loc × Cont)} {st : St}, st.upd (l ++ l') = (st.upd l).upd l'
 | [], l', st => rfl
 | (x, c) :: l, l', st => by simp only [List.cons_append, St.upd]; exact Sz
theorem Qk {st st' : St} {g g' : Gh} {j k : Nat} {σ δ : Nat → Nat} (h : (aB j st.rs).2 = dQ σ δ (aB k st'.rs).2) (hg : g j = g' k) (hf : g.f j = g'.f k) : blk st g j = blk st' g' k := by
 funext b
 simp only [blk, h, hg, hf]
 cases (aB k st'.rs).2 <;> simp [dQ]
open Classical in
theorem We {C : Ctx} {f : Nat} {args : List AV} {rs0 rs1 : List (Nat × Nat × Res)} {r : AV} (hfc : FC C f args rs0 r rs1) {e : Env} {st : St} {g : Gh} {a : Act} {w : World} (hok : e.ok C) (hs : SR C e st g a w) (hG : C.G w) (hgs : C.gs ≤ w.heap.size)
  (σ δ : Nat → Nat) (ks : List Nat) (hks0 : ∀ k, domR rs0 k = true → k ∈ ks) (hks1 : ∀ k, domR rs1 k = true → k ∈ ks) (hinj : ∀ j ∈ ks, ∀ k ∈ ks, σ j = σ k → j = k)
  (hin0 : ∀ k, bP (domR rs0) (aB k rs0).2) (h0 : ∀ k, domR rs0 k = true → aB (σ k) st.rs = ((aB k rs0).1 + δ k, dQ σ δ (aB k rs0).2))
  (h1 : ∀ k ∈ ks, domR rs0 k = false → domR rs1 k = true → st.cur (σ k) < (aB k rs1).1 + δ k) (hin1 : ∀ k, bP (domR rs1) (aB k rs1).2) (hr : bK (domR rs1) r = true)
  {vs : Array Value} (hvs : PW st.cur g w (e.N st g) (renL σ δ args) vs) (hargs : aX (domR rs0) args = true) :
  Calls C.P f vs w fun x w' => ∃ v g2, x = .returned v ∧ SR C e { st with rs := sO σ δ rs1 st ks st.rs } g2 a w' ∧
   AR ({ st with rs := sO σ δ rs1 st ks st.rs } : St).cur g2 w' (e.N { st with rs := sO σ δ rs1 st ks st.rs } g2) (ren σ δ r) v := by
 let g1 : Gh := ⟨fun k => g (σ k), fun k => g.f (σ k)⟩
 let e1 : Env := ⟨w, fun b => ∃ k, domR rs0 k = true ∧ blk st g (σ k) b, fun b => e.av0 b ∨ ∃ j, (∀ k, domR rs0 k = true → σ k ≠ j) ∧ blk st g j b, (stR rs0).cur, g1⟩
 have hb1 : ∀ k, domR rs0 k = true → blk st g (σ k) = blk (stR rs0) g1 k := fun k hk => Qk (σ := σ) (δ := δ) (by rw [h0 k hk]) rfl rfl
 have hd0 : ∀ k b, blk (stR rs0) g1 k b → domR rs0 k = true := fun k b hb => Gx hb.1
 have hN1 : ∀ b, e1.N (stR rs0) g1 b → e.N st g b := by
  rintro b ((h | ⟨j, _, hj⟩) | ⟨k, hk⟩)
  ·exact .inl h
  ·exact .inr ⟨j, hj⟩
  ·exact .inr ⟨σ k, by rw [hb1 k (hd0 k b hk)]; exact hk⟩
 have hNl : ∀ b, b < w.heap.size → ¬ e.N st g b → w.heap[b]? = w.heap[b]? ∧ ¬ e1.N (stR rs0) g1 b := fun b _ hn => ⟨rfl, fun h => hn (hN1 b h)⟩
 have hun : ∀ x v, bK (domR rs0) x = true → AR st.cur g w (e.N st g) (ren σ δ x) v → AR (stR rs0).cur g1 w (e1.N (stR rs0) g1) x v := fun x v hw hv =>
  AR.unren (cur := st.cur) (g := g) (g' := g1) (σ := σ) (δ := δ) (ok := domR rs0) (Nat.le_refl _) (fun b _ hn => ⟨rfl, fun h => hn (hN1 b h)⟩) (fun k hk => ⟨by simp only [St.cur]; rw [h0 k hk], rfl⟩) hv rfl hw
 have hs1 : SR C e1 (stR rs0) g1 act0 w := by
  refine ⟨rfl, rfl, fun d => .any _, fun k => ?_, fun k k' b hk hk' => ?_, fun k b hk => ?_, ⟨rfl, rfl, rfl, Nat.le_refl _, fun b _ hn => ⟨rfl, fun ⟨k, hk⟩ => hn ⟨k, hd0 k b hk, by rw [hb1 k (hd0 k b hk)]; exact hk⟩⟩⟩, fun _ => .inr ⟨rfl, rfl⟩⟩
  ·by_cases hk : domR rs0 k = true
   ·have q := hs.res (σ k)
    have hin := hin0 k
    rw [h0 k hk] at q
    revert q hin
    show ResR _ _ _ _ _ (dQ σ δ (aB k rs0).2) → _ → ResR _ _ _ _ _ (aB k rs0).2
    cases (aB k rs0).2 with
    | gone => intro _ _; trivial
    | bx cells =>
     rintro ⟨b, C', el, q1, q2, q3, q4, q5⟩ hin
     exact ⟨b, C', el, q1, q2, by rw [gN] at q3; exact q3, fun j x y hj hy => hun _ _ (cH hin j x hj) (q4 j _ y (by rw [gJ, hj]; rfl) hy), by rw [Ri] at q5; exact q5.lift (Nat.le_refl _) hNl fun _ _ => rfl⟩
    | sl el sz rows =>
     rintro ⟨xs, q1, q2, q3, q5⟩ hin
     refine ⟨xs, by rw [List.length_map] at q1; exact q1, fun row hrow => ?_, fun i j row x y hi hj hy => ?_, by rw [Kf] at q5; exact q5.lift (Nat.le_refl _) hNl fun _ _ => rfl⟩
     ·have := q2 (renL σ δ row) (List.mem_map.2 ⟨row, hrow, rfl⟩)
      rwa [gN] at this
     ·exact hun _ _ (cH (hin row (List.mem_of_getElem? hi)) j x hj) (q3 i j (renL σ δ row) _ y (by rw [List.getElem?_map, hi]; rfl) (by rw [gJ, hj]; rfl) hy)
    | mp f n => intro q _; exact q
   ·show ResR _ _ _ _ _ (aB k rs0).2
    rw [Gg hk]; trivial
  ·have d1 := hd0 k b hk
   have d2 := hd0 k' b hk'
   rw [← hb1 k d1] at hk
   rw [← hb1 k' d2] at hk'
   exact hinj k (hks0 k d1) k' (hks0 k' d2) (hs.uniq _ _ b hk hk')
  ·have d1 := hd0 k b hk
   rw [← hb1 k d1] at hk
   obtain ⟨q1, q2, q3⟩ := hs.low _ b hk
   exact ⟨q1, q2, fun hav => hav.elim q3 fun ⟨j, hne, hj⟩ => hne k d1 (hs.uniq _ _ b hk hj)⟩
 have hok1 : e1.ok C := ⟨hG, hgs, fun b ⟨k, _, hk⟩ => ⟨(hs.low _ b hk).1, (hs.low _ b hk).2.1⟩, fun b hb => hb.elim (fun h => by have := hok.av b h; have := hs.ext.size; exact Nat.lt_of_lt_of_le ‹b < _› this) fun ⟨j, _, hj⟩ => (hs.low j b hj).2.1⟩
 refine (hfc.run e1 g1 w vs hok1 hs1 ⟨by have := hvs.1; rw [gN] at this; exact this, fun j x y hx hy => hun _ _ (cH hargs j x hx) (hvs.2 j _ y (by rw [gJ, hx]; rfl) hy)⟩).mono ?_
 rintro x w' ⟨v, g', rfl, hs', hv, hh⟩
 let g2 : Gh := ⟨fun j => if h : ∃ k, k ∈ ks ∧ σ k = j then g' (Classical.choose h) else g j, fun j => if h : ∃ k, k ∈ ks ∧ σ k = j then g'.f (Classical.choose h) else g.f j⟩
 have G1 : ∀ k ∈ ks, g2 (σ k) = g' k := fun k hk => by
  have h : ∃ k', k' ∈ ks ∧ σ k' = σ k := ⟨k, hk, rfl⟩
  show (if h : ∃ k', k' ∈ ks ∧ σ k' = σ k then g' (Classical.choose h) else g (σ k)) = g' k
  rw [dif_pos h]
  obtain ⟨h2, h3⟩ := Classical.choose_spec h
  rw [hinj _ h2 _ hk h3]
 have G2 : ∀ j, (∀ k ∈ ks, σ k ≠ j) → g2 j = g j := fun j hj => by
  show (if h : ∃ k', k' ∈ ks ∧ σ k' = j then g' (Classical.choose h) else g j) = g j
  rw [dif_neg]
  rintro ⟨k, hk, he⟩
  exact hj k hk he
 have F1 : ∀ k ∈ ks, g2.f (σ k) = g'.f k := fun k hk => by
  have h : ∃ k', k' ∈ ks ∧ σ k' = σ k := ⟨k, hk, rfl⟩
  show (if h : ∃ k', k' ∈ ks ∧ σ k' = σ k then g'.f (Classical.choose h) else g.f (σ k)) = g'.f k
  rw [dif_pos h]
  obtain ⟨h2, h3⟩ := Classical.choose_spec h
  rw [hinj _ h2 _ hk h3]
 have F2 : ∀ j, (∀ k ∈ ks, σ k ≠ j) → g2.f j = g.f j := fun j hj => by
  show (if h : ∃ k', k' ∈ ks ∧ σ k' = j then g'.f (Classical.choose h) else g.f j) = g.f j
  rw [dif_neg]
  rintro ⟨k, hk, he⟩
  exact hj k hk he
 generalize hst2 : ({ st with rs := sO σ δ rs1 st ks st.rs } : St) = st2
 have L1 : ∀ k ∈ ks, aB (σ k) st2.rs = (jT δ σ rs1 st k, dQ σ δ (aB k rs1).2) := fun k hk => by rw [← hst2]; exact Et hinj k hk
 have L2 : ∀ j, (∀ k ∈ ks, σ k ≠ j) → aB j st2.rs = aB j st.rs := fun j hj => by rw [← hst2]; exact Bw hj
 have hd1 : ∀ k b, blk (stR rs1) g' k b → domR rs1 k = true := fun k b hb => Gx hb.1
 have B1 : ∀ k ∈ ks, blk st2 g2 (σ k) = blk (stR rs1) g' k := fun k hk => Qk (σ := σ) (δ := δ) (by rw [L1 k hk]) (G1 k hk) (F1 k hk)
 have B2 : ∀ j, (∀ k ∈ ks, σ k ≠ j) → blk st2 g2 j = blk st g j := fun j hj => xT (by rw [L2 j hj]) (G2 j hj) (F2 j hj)
 have two : ∀ j, (∃ k ∈ ks, σ k = j) ∨ ∀ k ∈ ks, σ k ≠ j := fun j => by
  by_cases h : ∃ k ∈ ks, σ k = j
  ·exact .inl h
  ·exact .inr fun k hk he => h ⟨k, hk, he⟩
 have oth : ∀ j, (∀ k ∈ ks, σ k ≠ j) → ∀ b, blk st g j b → e1.av0 b := fun j hj b hb => .inr ⟨j, fun k hk => hj k (hks0 k hk), hb⟩
 have hcur : ∀ j, st.cur j < st2.cur j ∨ st.cur j = st2.cur j ∧ g j = g2 j := fun j => by
  rcases two j with ⟨k, hk, rfl⟩ | hj
  ·have hv2 : st2.cur (σ k) = jT δ σ rs1 st k := by simp only [St.cur]; rw [L1 k hk]
   rw [hv2]
   unfold jT
   by_cases d1 : domR rs1 k = true
   ·rw [if_pos d1]
    by_cases d0 : domR rs0 k = true
    ·have hc0 : st.cur (σ k) = (aB k rs0).1 + δ k := by simp only [St.cur]; rw [h0 k d0]
     rw [hc0]
     rcases hh k d1 with h2 | ⟨h2, h3⟩
     ·left; have : (aB k rs0).1 < (aB k rs1).1 := h2; omega
     ·right
      refine ⟨by have : (aB k rs0).1 = (aB k rs1).1 := h2; omega, ?_⟩
      rw [G1 k hk, h3]
    ·left; exact h1 k hk (by simpa using d0) d1
   ·rw [if_neg d1]; left; omega
  ·right
   exact ⟨by simp only [St.cur]; rw [L2 j hj], (G2 j hj).symm⟩
 have own2 : ∀ b, own st2 g2 b → own (stR rs1) g' b ∨ ∃ j, (∀ k ∈ ks, σ k ≠ j) ∧ blk st g j b := by
  rintro b ⟨j, hj⟩
  rcases two j with ⟨k, hk, rfl⟩ | hn
  ·rw [B1 k hk] at hj; exact .inl ⟨k, hj⟩
  ·rw [B2 j hn] at hj; exact .inr ⟨j, hn, hj⟩
 have hx : Ext w (own st g) w' (own st2 g2) := by
  refine ⟨hs'.ext.os, hs'.ext.tape, hs'.ext.output, hs'.ext.size, fun b hb hn => ?_⟩
  have hno : ¬ e1.own0 b := fun ⟨k, _, hk⟩ => hn ⟨σ k, hk⟩
  obtain ⟨q1, q2⟩ := hs'.ext.block b hb hno
  exact ⟨q1, fun h => (own2 b h).elim q2 fun ⟨j, _, hj⟩ => hn ⟨j, hj⟩⟩
 have hN2 : ∀ b, b < w'.heap.size → ¬ e1.N (stR rs1) g' b → w'.heap[b]? = w'.heap[b]? ∧ ¬ e.N st2 g2 b := fun b _ hn => ⟨rfl, fun h => hn (h.elim (fun h => .inl (.inl h)) fun h => (own2 b h).elim .inr fun ⟨j, hj, hb⟩ => .inl (oth j hj b hb))⟩
 have hback : ∀ x v, bK (domR rs1) x = true → AR (stR rs1).cur g' w' (e1.N (stR rs1) g') x v → AR st2.cur g2 w' (e.N st2 g2) (ren σ δ x) v := fun x v hw hv =>
  hv.limit hw σ δ (Nat.le_refl _) (fun b _ hn => ⟨rfl, fun h => hn (h.elim (fun h => .inl (.inl h)) fun h => (own2 b h).elim .inr fun ⟨j, hj, hb⟩ => .inl (oth j hj b hb))⟩)
   (fun k hk => .inr ⟨by simp only [St.cur]; rw [L1 k (hks1 k hk)]; unfold jT; rw [if_pos hk], (G1 k (hks1 k hk)).symm⟩)
 have ht : st2.t = st.t := by rw [← hst2]
 have hn : st2.n = st.n := by rw [← hst2]
 refine ⟨v, g2, rfl, ⟨hs.defers, by rw [hn]; exact hs.size, fun d => by rw [ht]; exact (hs.temps d).lift hx hcur, fun j => ?_, fun j j' b hj hj' => ?_, fun j b hj => ?_, hs.ext.trans hx, mY hs.hist hcur⟩, hback _ _ hr hv⟩
 ·rcases two j with ⟨k, hk, rfl⟩ | hj
  ·rw [L1 k hk]
   show ResR _ _ _ _ _ (dQ σ δ (aB k rs1).2)
   have q := hs'.res k
   have hin := hin1 k
   revert q hin
   show ResR _ _ _ _ _ (aB k rs1).2 → _ → _
   cases (aB k rs1).2 with
   | gone => intro _ _; trivial
   | bx cells =>
    rintro ⟨b, C', el, q1, q2, q3, q4, q5⟩ hin
    refine ⟨b, C', el, by rw [G1 k hk]; exact q1, q2, by rw [gN]; exact q3, fun j x y hj hy => ?_, by rw [Ri, G1 k hk, F1 k hk]; exact q5.lift (Nat.le_refl _) hN2 fun _ _ => rfl⟩
    rw [gJ] at hj
    cases hc : cells[j]? with
    | none => simp [hc] at hj
    | some z => simp [hc] at hj; subst hj; exact hback _ _ (cH hin j z hc) (q4 j z y hc hy)
   | sl el sz rows =>
    rintro ⟨xs, q1, q2, q3, q5⟩ hin
    refine ⟨xs, by rw [G1 k hk, List.length_map]; exact q1, fun row hrow => ?_, fun i j row x y hi hj hy => ?_, by rw [Kf, G1 k hk, F1 k hk]; exact q5.lift (Nat.le_refl _) hN2 fun _ _ => rfl⟩
    ·obtain ⟨row0, hr0, rfl⟩ := List.mem_map.1 hrow
     rw [gN]; exact q2 row0 hr0
    ·rw [List.getElem?_map] at hi
     cases hi0 : rows[i]? with
     | none => simp [hi0] at hi
     | some row0 =>
      simp [hi0] at hi
      subst hi
      rw [gJ] at hj
      cases hc : row0[j]? with
      | none => simp [hc] at hj
      | some z => simp [hc] at hj; subst hj; exact hback _ _ (cH (hin row0 (List.mem_of_getElem? hi0)) j z hc) (q3 i j row0 z y hi0 hc hy)
   | mp f n => intro q _; show ResR _ _ _ _ _ (.mp f n); unfold ResR at q ⊢; rw [G1 k hk]; exact q
  ·rw [L2 j hj]
   refine (hs.res j).lift hx hcur (G2 j hj) (F2 j hj) fun hne b hb => ?_
   have hbj : blk st g j b := ⟨hne, hb⟩
   exact (hs'.ext.block b (hs.low j b hbj).2.1 fun ⟨k, dk, hk⟩ => hj k (hks0 k dk) (hs.uniq _ _ b hk hbj)).1
 ·rcases two j with ⟨k, hk, rfl⟩ | hn1 <;> rcases two j' with ⟨k', hk', rfl⟩ | hn2
  ·rw [B1 k hk] at hj; rw [B1 k' hk'] at hj'
   rw [hs'.uniq k k' b hj hj']
  ·rw [B1 k hk] at hj; rw [B2 j' hn2] at hj'
   exact absurd (oth j' hn2 b hj') (hs'.low k b hj).2.2
  ·rw [B2 j hn1] at hj; rw [B1 k' hk'] at hj'
   exact absurd (oth j hn1 b hj) (hs'.low k' b hj').2.2
  ·rw [B2 j hn1] at hj; rw [B2 j' hn2] at hj'
   exact hs.uniq j j' b hj hj'
 ·rcases two j with ⟨k, hk, rfl⟩ | hn1
  ·rw [B1 k hk] at hj
   obtain ⟨q1, q2, q3⟩ := hs'.low k b hj
   exact ⟨q1, q2, fun h => q3 (.inl h)⟩
  ·rw [B2 j hn1] at hj
   obtain ⟨q1, q2, q3⟩ := hs.low j b hj
   exact ⟨q1, Nat.lt_of_lt_of_le q2 hs'.ext.size, q3⟩
mutual
theorem aA6 {σ δ : Nat → Nat} : ∀ {x : AV}, bK bR x = true → ren σ δ x = x
 | .r _, _ => rfl
 | .os _ _, h => by simp [bK, bR] at h
 | .rf _ _ _, h => by simp [bK, bR] at h
 | .re _ _ _ _ _, h => by simp [bK, bR] at h
 | .agg cs, h => by simp only [ren, iT (show aX bR cs = true from h)]
 | .tup cs, h => by simp only [ren, iT (show aX bR cs = true from h)]
 | .any, _ => rfl
 | .cl _ cs, h => by simp only [ren, iT (show aX bR cs = true from h)]
 | .nd _ _ _, _ => rfl
theorem iT {σ δ : Nat → Nat} : ∀ {l : List AV}, aX bR l = true → renL σ δ l = l
 | [], _ => rfl
 | x :: l, h => by
  simp only [aX, Bool.and_eq_true] at h
  simp only [renL, aA6 h.1, iT h.2]
end
mutual
theorem oL {ok : Nat → Bool} : ∀ {x : AV}, bK bR x = true → bK ok x = true
 | .r _, _ => rfl
 | .os _ _, h => by simp [bK, bR] at h
 | .rf _ _ _, h => by simp [bK, bR] at h
 | .re _ _ _ _ _, h => by simp [bK, bR] at h
 | .agg cs, h => cA (show aX bR cs = true from h)
 | .tup cs, h => cA (show aX bR cs = true from h)
 | .any, _ => rfl
 | .cl _ cs, h => cA (show aX bR cs = true from h)
 | .nd _ _ _, _ => rfl
theorem cA {ok : Nat → Bool} : ∀ {l : List AV}, aX bR l = true → aX ok l = true
 | [], _ => rfl
 | x :: l, h => by
  simp only [aX, Bool.and_eq_true] at h ⊢
  exact ⟨oL h.1, cA h.2⟩
end
structure dI (C : Ctx) (f : Nat) (st : St) (args : List AV) (r : AV) (ls : List Loc) (outs : List (Loc × Cont)) : Prop where
 ex : ∃ (args0 : List AV) (rs0 : List (Nat × Nat × Res)) (r0 : AV) (rs1 : List (Nat × Nat × Res)) (σ δ : Nat → Nat) (ks : List Nat), FC C f args0 rs0 r0 rs1 ∧ args = renL σ δ args0 ∧ aX (domR rs0) args0 = true ∧ r = ren σ δ r0 ∧ bK (domR rs1) r0 = true ∧
  (∀ k, domR rs0 k = true → k ∈ ks) ∧ (∀ k, domR rs1 k = true → k ∈ ks) ∧ (∀ j ∈ ks, ∀ k ∈ ks, σ j = σ k → j = k) ∧ (∀ k, bP (domR rs0) (aB k rs0).2) ∧ (∀ k, bP (domR rs1) (aB k rs1).2) ∧
  (∀ k, domR rs0 k = true → aB (σ k) st.rs = ((aB k rs0).1 + δ k, dQ σ δ (aB k rs0).2)) ∧ (∀ k ∈ ks, domR rs0 k = false → domR rs1 k = true → st.cur (σ k) < (aB k rs1).1 + δ k) ∧
  ls = ks.map (fun k => .R (σ k)) ∧ outs = ks.map fun k => (.R (σ k), .s (jT δ σ rs1 st k) (dQ σ δ (aB k rs1).2))
theorem Es {C : Ctx} {o : Oper} {st : St} {f : Nat} {c : Call} {fop : Operand} {caps : List AV} {r : AV} {ls : List Loc} {outs : List (Loc × Cont)} (ho : o.op = .call c) (hc : c.callee = .value fop) (hf : FnIs (ev st fop) f caps) (he : aF C.P f)
  (hdn : ∀ d, o.dst = some d → d < st.n) (h : dI C f st (c.args.toList.map (ev st) ++ caps) r ls outs) :
  jI C o st.n ((rd (fop :: c.args.toList) ++ ls).map fun x => (x, st.get x)) (outs ++ (match o.dst with | some d => [(.T d, .a r)] | none => [])) := by
 obtain ⟨args0, rs0, r0, rs1, σ, δ, ks, hfc, hargs, hin, rfl, hr, hk0, hk1, hinj, hi0, hi1, h0, h1, rfl, rfl⟩ := h.ex
 intro e st' a w next Q hn hS ha hnext
 obtain ⟨hG, hgs⟩ := G_of hS
 obtain ⟨heok, g, hs⟩ := hS
 replace ha := bU.1 ha
 obtain ⟨vs, hv, hpw⟩ := Px hs ha.left hf rfl
 rw [hargs] at hpw
 have hag : ∀ k ∈ ks, aB (σ k) st'.rs = aB (σ k) st.rs := fun k hk => ha.right.R (List.mem_map.2 ⟨k, hk, rfl⟩)
 have hcu : ∀ k ∈ ks, st'.cur (σ k) = st.cur (σ k) := fun k hk => by simp only [St.cur]; rw [hag k hk]
 have hrun : (execOp a.eval o).run C.P w = .ok (.enter f (c.args.map a.eval ++ vs)) w := Vf ho hc hv he
 refine Cm hrun ((We hfc heok hs hG hgs σ δ ks hk0 hk1 hinj hi0 (fun k hk => by rw [hag k (hk0 k hk)]; exact h0 k hk) (fun k hk d0 d1 => by rw [hcu k hk]; exact h1 k hk d0 d1) hi1 hr hpw hin).mono ?_)
 rintro x w' ⟨v, g2, rfl, hs2, hav⟩
 refine ⟨v, rfl, hnext _ _ ⟨heok, g2, ?_⟩⟩
 rw [Sz]
 have he2 : (ks.map fun k => ((.R (σ k), .s (jT δ σ rs1 st k) (dQ σ δ (aB k rs1).2)) : Loc × Cont)) = ks.map fun k => (.R (σ k), .s (jT δ σ rs1 st' k) (dQ σ δ (aB k rs1).2)) :=
  List.map_congr_left fun k hk => by unfold jT; rw [hcu k hk]
 rw [he2, Mi]
 cases hd : o.dst with
 | none => exact hs2
 | some d => exact hs2.put (by show d < st'.n; rw [hn]; exact hdn d hd) hav
theorem dI.own {C : Ctx} {f : Nat} {st : St} {args : List AV} {r : AV} {e sz : Nat} {rows : List (List AV)} (hfc : FC C f args [] r [(0, 1, .sl e sz rows)]) (ha : aX bR args = true) (hrows : ∀ row ∈ rows, aX bR row = true) (hr : bK (fun k => k == 0) r = true) (d : Nat) :
  dI C f st args (ren (fun _ => d) (fun _ => st.cur d) r) [.R d] [(.R d, .s (1 + st.cur d) (.sl e sz rows))] := by
 have hd : ∀ k, domR [(0, 1, Res.sl e sz rows)] k = (k == 0) := fun k => by
  unfold domR aB
  by_cases h : k = 0
  ·subst h; rfl
  ·simp [h, aB]
 have hd0 : ∀ k, domR [] k = false := fun k => rfl
 have hm : rows.map (renL (fun _ => d) (fun _ => st.cur d)) = rows := by
  conv => rhs; rw [← List.map_id rows]
  exact List.map_congr_left fun row hrow => iT (hrows row hrow)
 refine ⟨args, [], r, [(0, 1, .sl e sz rows)], fun _ => d, fun _ => st.cur d, [0], hfc, (iT ha).symm, ?_, rfl, ?_, fun k hk => by simp [hd0] at hk, fun k hk => by rw [hd] at hk; simpa using hk, fun j hj k hk _ => by simp at hj hk; omega, fun k => trivial, fun k => ?_, fun k hk => by simp [hd0] at hk, fun k hk _ _ => ?_, rfl, ?_⟩
 ·exact cA ha
 ·rw [show domR [(0, 1, Res.sl e sz rows)] = fun k => k == 0 from funext hd]; exact hr
 ·unfold aB
  split
  ·exact fun row hrow => cA (hrows row hrow)
  ·trivial
 ·simp at hk; subst hk
  show st.cur d < 1 + st.cur d
  omega
 ·simp only [List.map_cons, List.map_nil, jT, hd, beq_self_eq_true, if_true]
  show [((.R d, .s (1 + st.cur d) (.sl e sz rows)) : Loc × Cont)] = [(.R d, .s (1 + st.cur d) (.sl e sz (rows.map (renL (fun _ => d) fun _ => st.cur d))))]
  rw [hm]
theorem dI.turn {C : Ctx} {f : Nat} {st : St} {args : List AV} {r : AV} {e sz k ver : Nat} {rows rows' : List (List AV)} (hfc : FC C f args [(0, 0, .sl e sz rows)] r [(0, 0, .sl e sz rows')]) (hk : aB k st.rs = (ver, .sl e sz rows)) (ha : aX (fun k => k == 0) args = true) (hrows : ∀ row ∈ rows, aX bR row = true) (hrows' : ∀ row ∈ rows', aX bR row = true) (hr : bK (fun k => k == 0) r = true) :
  dI C f st (renL (fun _ => k) (fun _ => ver) args) (ren (fun _ => k) (fun _ => ver) r) [.R k] [(.R k, .s ver (.sl e sz rows'))] := by
 have hd : ∀ rows k, domR [(0, 0, Res.sl e sz rows)] k = (k == 0) := fun rows k => by
  unfold domR aB
  by_cases h : k = 0
  ·subst h; rfl
  ·simp [h, aB]
 have hm : ∀ rows : List (List AV), (∀ row ∈ rows, aX bR row = true) → rows.map (renL (fun _ => k) (fun _ => ver)) = rows := fun rows hrows => by
  conv => rhs; rw [← List.map_id rows]
  exact List.map_congr_left fun row hrow => iT (hrows row hrow)
 have hw : ∀ rows : List (List AV), (∀ row ∈ rows, aX bR row = true) → ∀ j, bP (domR [(0, 0, Res.sl e sz rows)]) (aB j [(0, 0, Res.sl e sz rows)]).2 := fun rows hrows j => by
  unfold aB
  split
  ·exact fun row hrow => cA (hrows row hrow)
  ·trivial
 refine ⟨args, _, r, _, fun _ => k, fun _ => ver, [0], hfc, rfl, ?_, rfl, ?_, fun k hk => by rw [hd] at hk; simpa using hk, fun k hk => by rw [hd] at hk; simpa using hk, fun j hj k hk _ => by simp at hj hk; omega, hw rows hrows, hw rows' hrows', fun j hj => ?_, fun j hj h1 _ => ?_, rfl, ?_⟩
 ·rw [show domR [(0, 0, Res.sl e sz rows)] = fun k => k == 0 from funext (hd rows)]; exact ha
 ·rw [show domR [(0, 0, Res.sl e sz rows')] = fun k => k == 0 from funext (hd rows')]; exact hr
 ·rw [hd] at hj
  obtain rfl : j = 0 := by simpa using hj
  rw [hk]
  show (ver, Res.sl e sz rows) = (0 + ver, .sl e sz (rows.map (renL (fun _ => k) fun _ => ver)))
  rw [hm rows hrows, Nat.zero_add]
 ·simp at hj; subst hj
  simp [hd] at h1
 ·simp only [List.map_cons, List.map_nil, jT, hd, beq_self_eq_true, if_true]
  show [((.R k, .s ver (.sl e sz rows')) : Loc × Cont)] = [(.R k, .s (0 + ver) (.sl e sz (rows'.map (renL (fun _ => k) fun _ => ver))))]
  rw [hm rows' hrows', Nat.zero_add]
structure Ct (C : Ctx) where
 g : Nat
 run : Call → Operand → List AV → Oper → St → (List Loc → List (Loc × Cont) → Prop) → Prop
 ok : ∀ {c : Call} {fop : Operand} {caps : List AV} {o : Oper} {st : St} {K : List Loc → List (Loc × Cont) → Prop}, o.op = .call c → c.callee = .value fop → FnIs (ev st fop) g caps → run c fop caps o st K → ∃ l outs, K l outs ∧ jI C o st.n (l.map fun x => (x, st.get x)) outs
def Ct.pure {C : Ctx} (g : Nat) (sp : List AV → (AV → Prop) → Prop) (hok : ∀ args K, sp args K → ∃ r, aQ C g args r ∧ K r) : Ct C where
 g := g
 run := vY C sp
 ok := Yz hok
def kO (sp : St → Nat → List AV → (AV → List Loc → List (Loc × Cont) → Prop) → Prop) (c : Call) (fop : Operand) (caps : List AV) (o : Oper) (st : St) (K : List Loc → List (Loc × Cont) → Prop) : Prop :=
 match o.dst with
 | some d => sp st d (c.args.toList.map (ev st) ++ caps) fun r ls outs => d < st.n ∧ K (rd (fop :: c.args.toList) ++ ls) (outs ++ [(.T d, .a r)])
 | none => sp st 0 (c.args.toList.map (ev st) ++ caps) fun _ ls outs => K (rd (fop :: c.args.toList) ++ ls) (outs ++ [])
def Ct.res {C : Ctx} (g : Nat) (sp : St → Nat → List AV → (AV → List Loc → List (Loc × Cont) → Prop) → Prop) (he : aF C.P g) (hok : ∀ st d args K, sp st d args K → ∃ r ls outs, dI C g st args r ls outs ∧ K r ls outs) : Ct C where
 g := g
 run := kO sp
 ok := by
  intro c fop caps o st K ho hc hf h
  unfold kO at h
  cases hd : o.dst with
  | none =>
   simp only [hd] at h
   obtain ⟨r, ls, outs, h1, h2⟩ := hok _ _ _ _ h
   refine ⟨_, _, h2, ?_⟩
   have := Es ho hc hf he (fun d h => by rw [hd] at h; cases h) h1
   rwa [hd] at this
  | some d =>
   simp only [hd] at h
   obtain ⟨r, ls, outs, h1, h3, h2⟩ := hok _ _ _ _ h
   refine ⟨_, _, h2, ?_⟩
   have := Es ho hc hf he (fun d' h => by rw [hd] at h; cases h; exact h3) h1
   rwa [hd] at this
@[go_sem] theorem Ct.pure_g {C : Ctx} (g : Nat) (sp : List AV → (AV → Prop) → Prop) (hok : ∀ args K, sp args K → ∃ r, aQ C g args r ∧ K r) : (Ct.pure g sp hok : Ct C).g = g := rfl
@[go_sem] theorem Ct.pure_run {C : Ctx} (g : Nat) (sp : List AV → (AV → Prop) → Prop) (hok : ∀ args K, sp args K → ∃ r, aQ C g args r ∧ K r) (c : Call) (fop : Operand) (caps : List AV) (o : Oper) (st : St) (K : List Loc → List (Loc × Cont) → Prop) : (Ct.pure g sp hok : Ct C).run c fop caps o st K = vY C sp c fop caps o st K := rfl
@[go_sem] theorem Ct.res_g {C : Ctx} (g : Nat) (sp : St → Nat → List AV → (AV → List Loc → List (Loc × Cont) → Prop) → Prop) (he : aF C.P g) (hok : ∀ st d args K, sp st d args K → ∃ r ls outs, dI C g st args r ls outs ∧ K r ls outs) : (Ct.res g sp he hok : Ct C).g = g := rfl
@[go_sem] theorem Ct.res_run {C : Ctx} (g : Nat) (sp : St → Nat → List AV → (AV → List Loc → List (Loc × Cont) → Prop) → Prop) (he : aF C.P g) (hok : ∀ st d args K, sp st d args K → ∃ r ls outs, dI C g st args r ls outs ∧ K r ls outs) (c : Call) (fop : Operand) (caps : List AV) (o : Oper) (st : St) (K : List Loc → List (Loc × Cont) → Prop) : (Ct.res g sp he hok : Ct C).run c fop caps o st K = kO sp c fop caps o st K := rfl
def Em {C : Ctx} (f : Nat) : List (Ct C) → Option (Ct C)
 | [] => none
 | c :: l => if f = c.g then some c else Em f l
theorem Gv {C : Ctx} {f : Nat} {ct : Ct C} : ∀ {l : List (Ct C)}, Em f l = some ct → ct.g = f
 | c :: l, h => by
  unfold Em at h
  split at h
  ·rename_i he; simp at h; subst h; exact he.symm
  ·exact Gv h
def Ip : List AV → (List Value → Prop) → Prop
 | [], K => K []
 | .r (.v x) :: l, K => Ip l fun vs => K (x :: vs)
 | _, _ => False
def keyK (x : AV) (K : Value → Prop) : Prop :=
 match x with
 | .r (.v (.int k n)) => K (.int k n)
 | .r (.v (.string s)) => K (.string s)
 | .agg cs => Ip cs fun vs => K (.agg vs.toArray)
 | _ => False
theorem Fi : ∀ {l : List AV} {K : List Value → Prop}, Ip l K → ∃ vs, K vs ∧ l = vs.map fun v => .r (.v v)
 | [], K, h => ⟨[], h, rfl⟩
 | .r (.v x) :: l, K, h => by
  obtain ⟨vs, h2, h3⟩ := Fi (l := l) (K := fun vs => K (x :: vs)) h
  exact ⟨x :: vs, h2, by rw [h3]; rfl⟩
 | .r (.rp _) :: _, _, h => h.elim
 | .r (.rs _ _) :: _, _, h => h.elim
 | .r (.fn _ _) :: _, _, h => h.elim
 | .r .nan :: _, _, h => h.elim
 | .r (.ln _) :: _, _, h => h.elim
 | .os _ _ :: _, _, h => h.elim
 | .rf _ _ _ :: _, _, h => h.elim
 | .re _ _ _ _ _ :: _, _, h => h.elim
 | .agg _ :: _, _, h => h.elim
 | .tup _ :: _, _, h => h.elim
 | .any :: _, _, h => h.elim
theorem Rk {x : AV} {K : Value → Prop} (h : keyK x K) : ∃ kv, K kv ∧ ∀ cur g w N v, AR cur g w N x v → v = kv := by
 unfold keyK at h
 split at h
 ·exact ⟨_, h, fun cur g w N v hv => cC hv⟩
 ·exact ⟨_, h, fun cur g w N v hv => cC hv⟩
 ·obtain ⟨vs, h1, rfl⟩ := Fi h
  refine ⟨_, h1, fun cur g w N v hv => ?_⟩
  obtain ⟨xs, rfl, p1, p2⟩ := rG hv
  congr 1
  apply Array.ext'
  refine List.ext_getElem? fun j => ?_
  by_cases hj : j < vs.length
  ·have hx : (vs.map fun v => AV.r (.v v))[j]? = some (.r (.v vs[j])) := by simp [hj]
   have hjx : j < xs.size := by rw [p1]; simpa using hj
   have hy : xs[j]? = some xs[j] := Array.getElem?_eq_getElem hjx
   have := cC (p2 j _ _ hx hy)
   simp [hj, hjx, this]
  ·have hs : xs.size = vs.length := by simpa using p1
   rw [List.getElem?_eq_none (by simp; omega), List.getElem?_eq_none (by simpa using hj)]
 ·exact h.elim
structure KeyL (P : Program) (k : TypeId) : Prop where
 check : ∀ (w : World) (em : Bool) {v : Value} {l : Lit}, keyOf P k v = some l → (Instr.checkKey em 10000 k v).run P w = .ok () w
 find : ∀ (w : World) {x : Value} {lx : Lit}, keyOf P k x = some lx → ∀ es : List MapEntry, (∀ e ∈ es, ∃ l, keyOf P k e.key = some l) →
  ((Instr.findKey k x es).run P w = .ok none w ∧ ∀ e ∈ es, e.key ≠ x) ∨ ∃ j e, (Instr.findKey k x es).run P w = .ok (some (j, e.val)) w ∧ es[j]? = some e ∧ e.key = x
 stays : ∀ (w : World) {v : Value} {l : Lit}, keyOf P k v = some l → (Instr.keyThatStays v v).run P w = .ok v w
theorem KeyL.of {P : Program} {k : TypeId} (K : WideMaps.KeyLaw P k) : KeyL P k := ⟨K.check, K.find, K.stays⟩
theorem mF {P : Program} {k : TypeId} {q : IntKind} (hk : P.underlying k = some (.int q)) {v : Value} {l : Lit} (h : keyOf P k v = some l) : ∃ n : Int, v = .int q n := by
 simp only [keyOf, hk] at h
 unfold mapKey at h
 cases v <;> simp [hk] at h
 rename_i q' n
 exact ⟨n, by rw [h.1.1]⟩
theorem KeyL.int {P : Program} {k : TypeId} {q : IntKind} (hk : P.underlying k = some (.int q)) : KeyL P k where
 check w em _ _ h := by
  obtain ⟨n, rfl⟩ := mF hk h
  exact MapKept.run_checkKey hk (d := .int q) (k := .int q n) rfl em 9999
 find w _ _ hx es hes := by
  obtain ⟨n, rfl⟩ := mF hk hx
  have hks : ∀ x ∈ es, MapKept.IsKey (.int q) x.key := fun x hxm => by
   obtain ⟨l, hl⟩ := hes x hxm
   obtain ⟨m, e⟩ := mF hk hl
   rw [e]
   rfl
  rcases MapKept.findNow_spec (d := .int q) (k := .int q n) rfl es 0 hks with ⟨h1, h2⟩ | ⟨j, e0, h1, h2, h3⟩
  ·exact Or.inl ⟨MapKept.run_findKey hk h1, h2⟩
  ·exact Or.inr ⟨j, e0, by simpa using MapKept.run_findKey hk h1, h2, h3⟩
 stays w _ _ h := by
  obtain ⟨n, rfl⟩ := mF hk h
  exact MapKept.run_keyThatStays (d := .int q) (k := .int q n) rfl
structure rI (P : Program) (t : Nat) (f : Value → Option Value) (kv : Value) : Prop where
 law : ∃ kt e, P.underlying t = some (.map kt e) ∧ KeyL P kt ∧ (∃ l, keyOf P kt kv = some l) ∧ ∀ k' v', f k' = some v' → ∃ l, keyOf P kt k' = some l
open Classical in
noncomputable def updF (f : Value → Option Value) (kv vv : Value) (k : Value) : Option Value := if k = kv then some vv else f k
def updN (f : Value → Option Value) (kv : Value) (n : Nat) : Nat := match f kv with | some _ => n | none => n + 1
def Am (P : Program) (st : St) (t : Nat) (x idx : AV) (K : List Loc → AV → Prop) : Prop :=
 match x with
 | .os k ver => match aB k st.rs with
  | (cv, .mp f _) => ver = cv ∧ keyK idx fun kv => rI P t f kv ∧ match mapT P t with
   | some (_, e) => match gH P e with
    | some z => K [.R k] (.r (.v ((f kv).getD z)))
    | none => False
   | none => False
  | _ => False
 | _ => False
def updK (P : Program) (st : St) (t : Nat) (x idx v : AV) (K : List Loc → List (Loc × Cont) → Prop) : Prop :=
 match x with
 | .os k ver => match aB k st.rs with
  | (cv, .mp f n) => ver = cv ∧ keyK idx fun kv => rI P t f kv ∧ match v with
   | .r (.v vv) => K [.R k] [(.R k, .s cv (.mp (updF f kv vv) (updN f kv n)))]
   | _ => False
  | _ => False
 | _ => False
theorem Qn {P : Program} {kt : Nat} (L : KeyL P kt) {es : Array MapEntry} {f : Value → Option Value} {n : Nat} (hm : zC es f n) {kv : Value} {l : Lit} (hk : keyOf P kt kv = some l) (hf : ∀ k' v', f k' = some v' → ∃ l, keyOf P kt k' = some l) (w : World) :
  ((Instr.findKey kt kv es.toList).run P w = .ok none w ∧ f kv = none ∧ ∀ e ∈ es.toList, e.key ≠ kv) ∨ ∃ j e, (Instr.findKey kt kv es.toList).run P w = .ok (some (j, e.val)) w ∧ es.toList[j]? = some e ∧ e.key = kv ∧ f kv = some e.val := by
 rcases L.find w hk es.toList (fun e he => hf e.key e.val ((hm.2.1 _ _).2 ⟨e, he, rfl, rfl⟩)) with ⟨h1, h2⟩ | ⟨j, e, h1, h2, h3⟩
 ·refine .inl ⟨h1, ?_, h2⟩
  cases hfk : f kv with
  | none => rfl
  | some x =>
   obtain ⟨e, he, hk', _⟩ := (hm.2.1 _ _).1 hfk
   exact absurd hk' (h2 e he)
 ·exact .inr ⟨j, e, h1, h2, h3, (hm.2.1 _ _).2 ⟨e, List.mem_of_getElem? h2, h3, rfl⟩⟩
theorem Of {es : Array MapEntry} {f : Value → Option Value} {n : Nat} (hm : zC es f n) {kv vv : Value} {born : Nat} (hn : f kv = none) (hno : ∀ e ∈ es.toList, e.key ≠ kv) : zC (es.push ⟨kv, vv, born⟩) (updF f kv vv) (updN f kv n) := by
 refine ⟨by simp [updN, hn, hm.1], fun k x => ?_, ?_⟩
 ·simp only [Array.toList_push, List.mem_append, List.mem_singleton]
  unfold updF
  by_cases hk : k = kv
  ·subst hk
   rw [if_pos rfl]
   constructor
   ·intro h; cases h; exact ⟨_, .inr rfl, rfl, rfl⟩
   ·rintro ⟨e, he | rfl, h1, h2⟩
    ·exact absurd h1 (hno e he)
    ·exact congrArg some h2
  ·rw [if_neg hk, hm.2.1]
   constructor
   ·rintro ⟨e, he, h1, h2⟩; exact ⟨e, .inl he, h1, h2⟩
   ·rintro ⟨e, he | rfl, h1, h2⟩
    ·exact ⟨e, he, h1, h2⟩
    ·exact absurd h1.symm hk
 ·rw [Array.toList_push, List.map_append]
  refine List.nodup_append.2 ⟨hm.2.2, by simp, fun a ha b hb => ?_⟩
  simp at hb
  obtain ⟨e, he, rfl⟩ := List.mem_map.1 ha
  rw [hb]
  exact hno e he
theorem Hc {es : Array MapEntry} {f : Value → Option Value} {n : Nat} (hm : zC es f n) {kv vv : Value} {j : Nat} {e0 : MapEntry} (hj : es.toList[j]? = some e0) (hk0 : e0.key = kv) (hf : f kv = some e0.val) : zC (es.modify j fun e => { e with key := kv, val := vv }) (updF f kv vv) (updN f kv n) := by
 have hjl : j < es.toList.length := (List.getElem?_eq_some_iff.1 hj).1
 have hl : (es.modify j fun e => { e with key := kv, val := vv }).toList = es.toList.set j { e0 with key := kv, val := vv } := by
  rw [Array.toList_modify]
  refine List.ext_getElem? fun i => ?_
  rw [List.getElem?_modify, List.getElem?_set]
  by_cases h : j = i
  ·subst h; rw [if_pos rfl, if_pos hjl, hj]; simp
  ·rw [if_neg h]; simp [h]
 have hkeys : (es.toList.set j { e0 with key := kv, val := vv }).map (·.key) = es.toList.map (·.key) := by
  rw [List.map_set]
  show (es.toList.map (·.key)).set j kv = _
  refine List.ext_getElem? fun i => ?_
  rw [List.getElem?_set]
  by_cases h : j = i
  ·subst h; rw [if_pos rfl, if_pos (by simpa using hjl), List.getElem?_map, hj, ← hk0]; rfl
  ·rw [if_neg h]
 refine ⟨by simp [updN, hf, hm.1], fun k x => ?_, by rw [hl, hkeys]; exact hm.2.2⟩
 rw [hl]
 have uniq : ∀ i e, es.toList[i]? = some e → e.key = kv → i = j := fun i e hi he => by
  have hn := hm.2.2
  have h1 : (es.toList.map (·.key))[i]? = some kv := by rw [List.getElem?_map, hi]; exact congrArg some he
  have h2 : (es.toList.map (·.key))[j]? = some kv := by rw [List.getElem?_map, hj]; exact congrArg some hk0
  exact (List.getElem?_inj (List.getElem?_eq_some_iff.1 h1).1 hn).1 (h1.trans h2.symm)
 unfold updF
 by_cases hk : k = kv
 ·subst hk
  rw [if_pos rfl]
  constructor
  ·intro h; cases h
   exact ⟨_, List.mem_of_getElem? (by rw [List.getElem?_set, if_pos rfl, if_pos hjl]), rfl, rfl⟩
  ·rintro ⟨e, he, h1, h2⟩
   obtain ⟨i, hi⟩ := List.getElem?_of_mem he
   rw [List.getElem?_set] at hi
   by_cases hji : j = i
   ·rw [if_pos hji, if_pos (by omega)] at hi
    cases hi; exact congrArg some h2
   ·rw [if_neg hji] at hi
    exact absurd (uniq i e hi h1).symm hji
 ·rw [if_neg hk, hm.2.1]
  constructor
  ·rintro ⟨e, he, h1, h2⟩
   obtain ⟨i, hi⟩ := List.getElem?_of_mem he
   refine ⟨e, List.mem_of_getElem? (i := i) ?_, h1, h2⟩
   rw [List.getElem?_set, if_neg]
   ·exact hi
   ·rintro rfl; rw [hj] at hi; cases hi; exact hk (h1.symm.trans hk0)
  ·rintro ⟨e, he, h1, h2⟩
   obtain ⟨i, hi⟩ := List.getElem?_of_mem he
   rw [List.getElem?_set] at hi
   by_cases hji : j = i
   ·rw [if_pos hji, if_pos (by omega)] at hi
    cases hi; exact absurd h1.symm hk
   ·rw [if_neg hji] at hi
    exact ⟨e, List.mem_of_getElem? hi, h1, h2⟩
section
variable {C : Ctx}
theorem aAx {e : Env} {st : St} {g : Gh} {a : Act} {w : World} (hs : SR C e st g a w) {k ver n : Nat} {f : Value → Option Value} (hk : aB k st.rs = (ver, .mp f n)) : ∃ b es clock, g k = .map (some b) ∧ w.heap[b]? = some (.map es clock) ∧ zC es f n := by
 have := hs.res k
 rwa [hk] at this
theorem Ua {st : St} {d t : Nat} {x i : Operand} {o : Oper} {K : List Loc → List (Loc × Cont) → Prop} (hdst : o.dst = some d) (ho : o.op = .lookup t x i false) (hd : d < st.n)
  (h : Am C.P st t (ev st x) (ev st i) fun l r => K (l ++ rd [x, i]) [(.T d, .a r)]) : ∃ l outs, K l outs ∧ jI C o st.n (l.map fun x => (x, st.get x)) outs := by
 unfold Am at h
 split at h
 ·rename_i k ver hx
  split at h
  ·rename_i cv f n hk
   obtain ⟨rfl, h⟩ := h
   obtain ⟨kv, ⟨hmo, h⟩, hkv⟩ := Rk h
   split at h
   ·rename_i kt0 e0 hmt
    split at h
    ·rename_i z hz
     obtain ⟨kt, el, hu, L, ⟨l, hl⟩, hf⟩ := hmo.law
     have he0 : el = e0 := by
      unfold mapT at hmt; rw [hu] at hmt; simp at hmt; exact hmt.2
     subst he0
     have hzr : ∀ w, (zeroValue el).run C.P w = .ok z w := fun w => by
      unfold gH at hz
      split at hz
      ·rename_i i hi; simp [zeroValue, typeInfo, hi, hz]
      ·cases hz
     refine ⟨_, _, h, mS hdst hd fun e st' g a w hs ha => ?_⟩
     have ha0 := bU.1 ha
     have hk' := (ha0.R (k := k) (by simp)).trans hk
     have hard : Ag (rd [x, i]) st st' := fun y hy => ha0 y (by simp [hy])
     have h1 := arg hs hard (x := x) (by simp)
     have h2 := arg hs hard (x := i) (by simp)
     rw [hx] at h1
     obtain ⟨b, es, clock, hg, hb, hm⟩ := aAx hs hk'
     have e1 : a.eval x = .map (some b) := by rw [jA h1 (curk k hk').symm, hg]
     have e2 := hkv _ _ _ _ _ h2
     have run : ∀ v, (Instr.lookup t (.map (some b)) kv false).run C.P w = .ok v w → (execOp a.eval o).run C.P w = .ok (.value v) w := fun v hv => by
      simp only [execOp, ho, Sem.run_bind, e1, e2]; rw [hv]; rfl
     rcases Qn L hm hl hf w with ⟨q1, q2, _⟩ | ⟨j, e0, q1, _, _, q2⟩
     ·refine ⟨z, w, run z ?_, rfl, rfl, rfl, rfl, by rw [q2]; exact .r (.v _)⟩
      simp [Instr.lookup, run_underlying hu, MapKept.run_getObj_map hb, L.check w _ hl, q1, hzr w, Result.andThen]
     ·refine ⟨e0.val, w, run _ ?_, rfl, rfl, rfl, rfl, by rw [q2]; exact .r (.v _)⟩
      simp [Instr.lookup, run_underlying hu, MapKept.run_getObj_map hb, L.check w _ hl, q1, Result.andThen]
    ·exact h.elim
   ·exact h.elim
  ·exact h.elim
 ·exact h.elim
theorem aNy {st : St} {t : Nat} {x i v : Operand} {o : Oper} {K : List Loc → List (Loc × Cont) → Prop} (hdst : o.dst = none) (ho : o.op = .mapUpdate t x i v)
  (h : updK C.P st t (ev st x) (ev st i) (ev st v) fun l outs => K (l ++ rd [x, i, v]) outs) : ∃ l outs, K l outs ∧ jI C o st.n (l.map fun x => (x, st.get x)) outs := by
 unfold updK at h
 split at h
 ·rename_i k ver hx
  split at h
  ·rename_i cv f n hk
   obtain ⟨rfl, h⟩ := h
   obtain ⟨kv, ⟨hmo, h⟩, hkv⟩ := Rk h
   split at h
   ·rename_i vv hvv
    obtain ⟨kt, el, hu, L, ⟨l, hl⟩, hf⟩ := hmo.law
    refine ⟨_, _, h, fun e st' a w next Q hn ⟨heok, g, hs⟩ ha hnext => ?_⟩
    have ha0 := bU.1 ha
    have hk' := (ha0.R (k := k) (by simp)).trans hk
    have hard : Ag (rd [x, i, v]) st st' := fun y hy => ha0 y (by simp [hy])
    have h1 := arg hs hard (x := x) (by simp)
    have h2 := arg hs hard (x := i) (by simp)
    have h3 := arg hs hard (x := v) (by simp)
    rw [hx] at h1
    rw [hvv] at h3
    obtain ⟨b, es, clock, hg, hb, hm⟩ := aAx hs hk'
    have e1 : a.eval x = .map (some b) := by rw [jA h1 (curk k hk').symm, hg]
    have e2 := hkv _ _ _ _ _ h2
    have e3 := cC h3
    have hblk : blk st' g k b := ⟨by rw [hk']; simp, .inl (by rw [hg]; rfl)⟩
    have hbs : b < w.heap.size := (hs.low k b hblk).2.1
    have fin : ∀ es' clock', (Instr.mapUpdate t (.map (some b)) kv vv).run C.P w = .ok () { w with heap := w.heap.setIfInBounds b (.map es' clock') } → zC es' (updF f kv vv) (updN f kv n) → o.wp C.P a w next Q := by
     intro es' clock' hr hm'
     refine wB hdst ?_ (hnext a { w with heap := w.heap.setIfInBounds b (.map es' clock') } ⟨heok, g, ?_⟩)
     ·simp only [execOp, ho, Sem.run_bind, e1, e2, e3]; rw [hr]; rfl
     ·have hat : ({ w with heap := w.heap.setIfInBounds b (.map es' clock') } : World).heap[b]? = some (.map es' clock') := by simp [hbs]
      have := (hs.turn k ver (.mp (updF f kv vv) (updN f kv n)) (g k) (g.f k) (w' := { w with heap := w.heap.setIfInBounds b (.map es' clock') }) rfl rfl rfl (by simp) (fun b' hb' hne => by
        have : b ≠ b' := fun he => hne (by rw [← he]; exact hblk)
        show (w.heap.setIfInBounds b _)[b']? = _
        rw [Array.getElem?_setIfInBounds_ne this])
       (.inr ⟨curk k hk', rfl⟩) (fun b' _ hb' => by
        have hbc : blk st' g k b' := ⟨hblk.1, hb'⟩
        exact ⟨by simpa using (hs.low k b' hbc).2.1, .inl hbc⟩) heok
       (fun st2 g2 _ hg2 _ _ => ⟨b, es', clock', by rw [hg2, Fe (st := st')]; exact hg, hat, hm'⟩)).1
      rw [Fe (st := st')] at this
      exact this
    rcases Qn L hm hl hf w with ⟨q1, q2, q3⟩ | ⟨j, e0, q1, q2, q3, q4⟩
    ·refine fin _ (clock + 1) ?_ (Of (born := clock) hm q2 q3)
     simp [Instr.mapUpdate, run_underlying hu, MapKept.run_getObj_map hb, L.check w false hl, q1, MapKept.run_setObj_map _ hb, Result.andThen]
    ·have hj : es[j]? = some e0 := by simpa using q2
     refine fin _ clock ?_ (Hc hm q2 q3 q4)
     simp [Instr.mapUpdate, run_underlying hu, MapKept.run_getObj_map hb, L.check w false hl, q1, hj, q3, L.stays w hl, MapKept.run_setObj_map _ hb, Result.andThen]
   ·exact h.elim
  ·exact h.elim
 ·exact h.elim
end
def fZ (j : Nat) : List (Nat × Nat) → Option Nat
 | [] => none
 | (k, d) :: l => if j = k then some d else fZ j l
def tZ (C : Ctx) (k : Nat) (done : List (Nat × Nat)) (l : List Oper) (st : St) (K : St → Prop) : Prop :=
 ∀ ops : Array Oper, ops.toList.drop k = l → (∀ j d, fZ j done = some d → (ops[j]?).bind (·.dst) = some d) → lops C ops l st K
def sI (C : Ctx) (o : Oper) (st : St) (K : List Loc → List (Loc × Cont) → Prop) : Prop := ∃ l outs, K l outs ∧ jI C o st.n (l.map fun x => (x, st.get x)) outs
def aUh (C : Ctx) (id : Nat) (ops : Array Oper) (st : St) (K : St → Prop) : Prop :=
 ∀ (e : Env) (a : Act) (w : World) (Q : Exit → Act → World → Prop), S C e st a w → (∀ a' w' st', S C e st' a' w' → K st' → Q .normal a' w') → (Code.region id ops true).wp C.P Q a w
def Wi (q : Bool) (A B : Unit → Prop) : Prop := (q = true → A ()) ∧ (q = false → B ())
def opG (C : Ctx) (T : List (Ct C)) (o : Oper) (st : St) (K : List Loc → List (Loc × Cont) → Prop) : Prop :=
 match o.op with
 | .call c => match c.callee with
  | .value fop => match ev st fop with
   | .r (.fn f caps) => match Em f T with
    | some ct => ct.run c fop (caps.map .r) o st K
    | none => sI C o st K
   | .cl f caps => match Em f T with
    | some ct => ct.run c fop caps o st K
    | none => sI C o st K
   | _ => False
  | _ => opK C o st K
 | .lookup t x i false => match o.dst with
  | some d => d < st.n ∧ Am C.P st t (ev st x) (ev st i) fun l r => K (l ++ rd [x, i]) [(.T d, .a r)]
  | none => opK C o st K
 | .mapUpdate t x i v => match o.dst with
  | none => updK C.P st t (ev st x) (ev st i) (ev st v) fun l outs => K (l ++ rd [x, i, v]) outs
  | some _ => opK C o st K
 | _ => opK C o st K
theorem uP {C : Ctx} {T : List (Ct C)} {o : Oper} {st : St} {K : List Loc → List (Loc × Cont) → Prop} (h : opG C T o st K) : ∃ l outs, K l outs ∧ jI C o st.n (l.map fun x => (x, st.get x)) outs := by
 unfold opG at h
 split at h
 ·rename_i c ho
  split at h
  ·rename_i fop hc
   split at h
   ·rename_i f caps hf
    split at h
    ·rename_i ct hct
     have := Gv hct
     subst this
     exact ct.ok ho hc (.inl ⟨_, hf, rfl⟩) h
    ·exact h
   ·rename_i f caps hf
    split at h
    ·rename_i ct hct
     have := Gv hct
     subst this
     exact ct.ok ho hc (.inr hf) h
    ·exact h
   ·exact h.elim
  ·exact Hk h
 ·rename_i t x i ho
  split at h
  ·rename_i d hd
   exact Ua hd ho h.1 h.2
  ·exact Hk h
 ·rename_i t x i v ho
  split at h
  ·rename_i hd
   exact aNy hd ho h
  ·exact Hk h
 ·exact Hk h
def dH (o : Oper) (n : Nat) : Bool := match o.dst with | some d => decide (d < n) | none => true
def uT (C : Ctx) (T : List (Ct C)) (done : List (Nat × Nat)) (o : Oper) (st : St) (K : St → Prop) : Prop :=
 match o.guard with
 | none => sI C o st fun _ outs => K (st.upd outs)
 | some (j, b) => match fZ j done with
  | some d => match bB d st.t with
   | .r (.v (.bool q)) => Wi (q == b) (fun _ => sI C o st fun _ outs => K (st.upd outs)) (fun _ => dH o st.n = true ∧ K (bM o st))
   | .r (.v (.tuple _)) => dH o st.n = true ∧ K (bM o st)
   | _ => False
  | none => False
def addN (k : Nat) (d : Option Nat) (done : List (Nat × Nat)) : List (Nat × Nat) := match d with | some d => (k, d) :: done | none => done
theorem rM {C : Ctx} {T : List (Ct C)} {k : Nat} {done : List (Nat × Nat)} {o : Oper} {l : List Oper} {st : St} {K K' : St → Prop} (h : uT C T done o st K') (hk : ∀ s, K' s → tZ C (k + 1) (addN k o.dst done) l s K) : tZ C k done (o :: l) st K := by
 intro ops hops hdone
 have h0 : ops.toList[k]? = some o := by
  have : (ops.toList.drop k)[0]? = some o := by rw [hops]; rfl
  simpa using this
 have hk' : ∀ s, K' s → lops C ops l s K := fun s hs => hk s hs ops (by rw [← List.drop_drop, hops]; rfl) (fun j d hj => by
  unfold addN at hj
  split at hj
  ·rename_i d' hd'
   unfold fZ at hj
   split at hj
   ·rename_i he
    subst he
    simp at hj
    subst hj
    have : ops[j]? = some o := by simpa using h0
    simp [this, hd']
   ·exact hdone j d hj
  ·exact hdone j d hj)
 unfold uT at h
 split at h
 ·rename_i hg
  obtain ⟨l', outs, h3, h1⟩ := h
  have h2 : xN st (l'.map fun x => (x, st.get x)) := bU.2 fun _ _ => rfl
  exact Ut hg h1 h2 (hk' _ h3)
 ·rename_i j b hg
  split at h
  ·rename_i d hd
   replace hd := hdone j d hd
   split at h
   ·rename_i q hq
    by_cases he : (q == b) = true
    ·replace h := h.1 he
     have : q = b := by simpa using he
     subst this
     obtain ⟨l', outs, h3, h1⟩ := h
     have h2 : xN st (l'.map fun x => (x, st.get x)) := bU.2 fun _ _ => rfl
     exact Bc hg hd hq h1 h2 (hk' _ h3)
    ·replace h := h.2 (by simpa using he)
     have : q = !b := by cases q <;> cases b <;> simp_all
     subst this
     refine Dr hg hd hq (fun d' hd' => ?_) (hk' _ h.2)
     have := h.1
     simpa [dH, hd'] using this
   ·rename_i xs hq
    refine Dt hg hd hq (fun d' hd' => ?_) (hk' _ h.2)
    have := h.1
    simpa [dH, hd'] using this
   ·exact h.elim
  ·exact h.elim
def wk : List (Loc × Cont) → Bool
 | [] => true
 | (.T _, .a _) :: l => wk l
 | (.R _, .s _ _) :: l => wk l
 | _ => false
def vS (C : Ctx) (T : List (Ct C)) (done : List (Nat × Nat)) (o : Oper) (st : St) (K : List Loc → List (Loc × Cont) → Prop) : Prop :=
 match o.guard with
 | none => sI C o st fun l outs => wk outs = true ∧ K l outs
 | some (j, b) => match fZ j done with
  | some d => match bB d st.t with
   | .r (.v (.bool q)) => Wi (q == b) (fun _ => sI C o st fun l outs => wk outs = true ∧ K (.T d :: l) outs) (fun _ => dH o st.n = true ∧ ∃ l, match o.dst with | some d' => K (.T d :: l) [(.T d', .a (.r (.v (.tuple #[]))))] | none => K (.T d :: l) [])
   | .r (.v (.tuple _)) => dH o st.n = true ∧ ∃ l, match o.dst with | some d' => K (.T d :: l) [(.T d', .a (.r (.v (.tuple #[]))))] | none => K (.T d :: l) []
   | _ => False
  | none => False
def drun (C : Ctx) (T : List (Ct C)) : Nat → List (Nat × Nat) → List Oper → St → List (List Loc × List Loc) → (List (List Loc × List Loc) → St → Prop) → Prop
 | _, _, [], st, fps, K => K fps st
 | k, done, o :: l, st, fps, K => vS C T done o st fun rds outs => drun C T (k + 1) (addN k o.dst done) l (st.upd outs) (fps ++ [(rds, outs.map (·.1))]) K
def jN (ops : List Oper) : List (List Nat) := ops.map fun o => (o.after.toList.filter (Region.binds .any)).map (·.on)
def befs (edges : List (List Nat)) : List Nat := edges.foldl (fun acc es => acc ++ [es.foldl (fun s e => s ||| 2 ^ e ||| acc.getD e 0) 0]) []
def disj (a b : List Loc) : Bool := a.all fun x => !b.contains x
def Zt (p q : List Loc × List Loc) : Bool := disj p.2 q.1 && disj p.2 q.2 && disj q.2 p.1
def pB (edges : List (List Nat)) (fps : List (List Loc × List Loc)) : Bool :=
 let b := befs edges
 (edges.zipIdx.all fun (es, j) => es.all fun e => decide (e < j)) && (List.range fps.length).all fun j => (List.range j).all fun i => (b.getD j 0).testBit i || Zt (fps.getD i ([], [])) (fps.getD j ([], []))
def Sm (C : Ctx) (ops : Array Oper) (i n : Nat) (ins outs : List (Loc × Cont)) : Prop :=
 ∀ (e : Env) (st : St) (a : Act) (w : World) (next : Act → World → Prop) (Q : Exit → Act → World → Prop), st.n = n → S C e st a w → xN st ins →
  (∀ a' w', S C e (st.upd outs) a' w' → next a' w') → wpOp C.P ops Q i next a w
def TR (C : Ctx) (ops : Array Oper) : Nat → St → List (List Loc × List (Loc × Cont)) → St → Prop
 | _, st, [], st' => st = st'
 | k, st, (rds, outs) :: L, st' => Sm C ops k st.n (rds.map fun x => (x, st.get x)) outs ∧ wk outs = true ∧ TR C ops (k + 1) (st.upd outs) L st'
theorem aAo {C : Ctx} {T : List (Ct C)} {ops : Array Oper} {k : Nat} {done : List (Nat × Nat)} {o : Oper} {st : St} {K : List Loc → List (Loc × Cont) → Prop} (h : vS C T done o st K) (ho : ops[k]? = some o) (hdone : ∀ j d, fZ j done = some d → (ops[j]?).bind (·.dst) = some d) :
  ∃ l outs, Sm C ops k st.n (l.map fun x => (x, st.get x)) outs ∧ wk outs = true ∧ K l outs := by
 unfold vS at h
 split at h
 ·rename_i hg
  obtain ⟨l, outs, ⟨h2, h3⟩, h1⟩ := h
  refine ⟨l, outs, fun e st' a w next Q hn hs ha hnext => ?_, h2, h3⟩
  unfold wpOp
  rw [ho]
  simp only [Region.wanted, hg, if_true]
  exact .inl (h1 e st' a w next Q hn hs ha hnext)
 ·rename_i j b hg
  split at h
  ·rename_i d hd
   replace hd := hdone j d hd
   split at h
   ·rename_i q hq
    by_cases he : (q == b) = true
    ·replace h := h.1 he
     have : q = b := by simpa using he
     subst this
     obtain ⟨l, outs, ⟨h2, h3⟩, h1⟩ := h
     refine ⟨_, outs, fun e st' a w next Q hn hs ha hnext => ?_, h2, h3⟩
     replace ha := bU.1 ha
     obtain ⟨hok, g, hr⟩ := id hs
     have h4 := hr.temps d
     rw [ha.T (d := d) (by simp), hq] at h4
     unfold wpOp
     rw [ho]
     simp only [Region.wanted, hg, rD hd (tI h4), beq_self_eq_true, if_true]
     exact .inl (h1 e st' a w next Q hn hs (bU.2 fun x hx => ha x (List.mem_cons_of_mem _ hx)) hnext)
    ·replace h := h.2 (by simpa using he)
     have : q = !b := by cases q <;> cases b <;> simp_all
     subst this
     have key : ∀ (e : Env) (st' : St) (a : Act) (w : World) (next : Act → World → Prop) (Q : Exit → Act → World → Prop), st'.n = st.n → S C e st' a w → Ag [.T d] st st' →
       (∀ a' w', S C e (bM o st') a' w' → next a' w') → wpOp C.P ops Q k next a w := by
      intro e st' a w next Q hn hs ha hnext
      obtain ⟨hok, g, hr⟩ := id hs
      have h4 := hr.temps d
      rw [ha.T (d := d) (by simp), hq] at h4
      unfold wpOp
      rw [ho]
      have hw : Region.wanted o (yielded ops a.tmps) = false := by simp [Region.wanted, hg, rD hd (tI h4)]
      simp only [hw, Bool.false_eq_true, if_false]
      refine hnext _ w (Aj o (fun d' hd' => ?_) hs)
      have := h.1
      rw [hn]; simpa [dH, hd'] using this
     obtain ⟨lx, h5⟩ := h.2
     split at h5
     ·rename_i d' hd'
      refine ⟨_, _, fun e st' a w next Q hn hs ha hnext => key e st' a w next Q hn hs (fun x hx => bU.1 ha x (by simp at hx; simp [hx])) fun a' w' h6 => hnext a' w' ?_, rfl, h5⟩
      simpa [bM, hd', St.upd, St.set] using h6
     ·rename_i hd'
      refine ⟨_, _, fun e st' a w next Q hn hs ha hnext => key e st' a w next Q hn hs (fun x hx => bU.1 ha x (by simp at hx; simp [hx])) fun a' w' h6 => hnext a' w' ?_, rfl, h5⟩
      simpa [bM, hd', St.upd, St.set] using h6
   ·rename_i xs hq
    have key : ∀ (e : Env) (st' : St) (a : Act) (w : World) (next : Act → World → Prop) (Q : Exit → Act → World → Prop), st'.n = st.n → S C e st' a w → Ag [.T d] st st' →
      (∀ a' w', S C e (bM o st') a' w' → next a' w') → wpOp C.P ops Q k next a w := by
     intro e st' a w next Q hn hs ha hnext
     obtain ⟨hok, g, hr⟩ := id hs
     have h4 := hr.temps d
     rw [ha.T (d := d) (by simp), hq] at h4
     unfold wpOp
     rw [ho]
     have hw : Region.wanted o (yielded ops a.tmps) = false := by simp [Region.wanted, hg, Ap hd (Jl h4)]
     simp only [hw, Bool.false_eq_true, if_false]
     refine hnext _ w (Aj o (fun d' hd' => ?_) hs)
     have := h.1
     rw [hn]; simpa [dH, hd'] using this
    obtain ⟨lx, h5⟩ := h.2
    split at h5
    ·rename_i d' hd'
     refine ⟨_, _, fun e st' a w next Q hn hs ha hnext => key e st' a w next Q hn hs (fun x hx => bU.1 ha x (by simp at hx; simp [hx])) fun a' w' h6 => hnext a' w' ?_, rfl, h5⟩
     simpa [bM, hd', St.upd, St.set] using h6
    ·rename_i hd'
     refine ⟨_, _, fun e st' a w next Q hn hs ha hnext => key e st' a w next Q hn hs (fun x hx => bU.1 ha x (by simp at hx; simp [hx])) fun a' w' h6 => hnext a' w' ?_, rfl, h5⟩
     simpa [bM, hd', St.upd, St.set] using h6
   ·exact h.elim
  ·exact h.elim
theorem Sw {C : Ctx} {T : List (Ct C)} {ops : Array Oper} : ∀ {l : List Oper} {k : Nat} {done : List (Nat × Nat)} {st : St} {fps : List (List Loc × List Loc)} {K : List (List Loc × List Loc) → St → Prop}, drun C T k done l st fps K → ops.toList.drop k = l → (∀ j d, fZ j done = some d → (ops[j]?).bind (·.dst) = some d) →
  ∃ L st', TR C ops k st L st' ∧ L.length = l.length ∧ K (fps ++ L.map fun p => (p.1, p.2.map (·.1))) st'
 | [], k, done, st, fps, K, h, _, _ => ⟨[], st, rfl, rfl, by simpa [drun] using h⟩
 | o :: l, k, done, st, fps, K, h, hops, hdone => by
  have h0 : ops[k]? = some o := by
   have : (ops.toList.drop k)[0]? = some o := by rw [hops]; rfl
   simpa using this
  obtain ⟨rds, outs, h1, h2, h3⟩ := aAo h h0 hdone
  obtain ⟨L, st', q1, q2, q3⟩ := Sw h3 (by rw [← List.drop_drop, hops]; rfl) (fun j d hj => by
   unfold addN at hj
   split at hj
   ·rename_i d' hd'
    unfold fZ at hj
    split at hj
    ·rename_i he
     subst he
     simp at hj
     subst hj
     simp [h0, hd']
    ·exact hdone j d hj
   ·exact hdone j d hj)
  exact ⟨(rds, outs) :: L, st', ⟨h1, h2, q1⟩, by simp [q2], by simpa using q3⟩
abbrev Tr := List (List Loc × List (Loc × Cont))
theorem aWa (st : St) (l : Loc) (c : Cont) : (st.set l c).n = st.n := by cases l <;> cases c <;> rfl
theorem Qc : ∀ (outs : List (Loc × Cont)) (st : St), (st.upd outs).n = st.n
 | [], _ => rfl
 | (l, c) :: r, st => by simp only [St.upd, Qc r, aWa]
theorem He (st : St) (l m : Loc) (c : Cont) (hw : wk [(l, c)] = true) : (st.set l c).get m = if m = l then c else st.get m := by
 cases l <;> cases c <;> simp [wk] at hw
 ·rename_i d x
  cases m with
  | T d' => simp only [St.set, St.get, yG, Loc.T.injEq]; split <;> rfl
  | R k => simp [St.set, St.get]
 ·rename_i k ver x
  cases m with
  | T d => simp [St.set, St.get]
  | R k' => simp only [St.set, St.get, cX, Loc.R.injEq]; split <;> rfl
theorem Sg {l : Loc} {c : Cont} {r : List (Loc × Cont)} (h : wk ((l, c) :: r) = true) : wk [(l, c)] = true ∧ wk r = true := by
 cases l <;> cases c <;> simp [wk] at h ⊢ <;> exact h
theorem lI : ∀ {outs : List (Loc × Cont)} (st : St) {m : Loc}, wk outs = true → m ∉ outs.map (·.1) → (st.upd outs).get m = st.get m
 | [], _, _, _, _ => rfl
 | (l, c) :: r, st, m, hw, hm => by
  obtain ⟨h1, h2⟩ := Sg hw
  simp at hm
  simp only [St.upd]
  rw [lI _ h2 (by simpa using hm.2), He _ _ _ _ h1, if_neg hm.1]
theorem Cz : ∀ {outs : List (Loc × Cont)} (st st' : St) {m : Loc}, wk outs = true → m ∈ outs.map (·.1) → (st.upd outs).get m = (st'.upd outs).get m
 | (l, c) :: r, st, st', m, hw, hm => by
  obtain ⟨h1, h2⟩ := Sg hw
  simp only [St.upd]
  by_cases h3 : m ∈ r.map (·.1)
  ·exact Cz _ _ h2 h3
  ·rw [lI _ h2 h3, lI _ h2 h3, He _ _ _ _ h1, He _ _ _ _ h1]
   have : m = l := by simp at hm h3; rcases hm with h | ⟨x, h⟩; exact h; exact absurd h (h3 x)
   simp [this]
def sts (st : St) (L : Tr) (k : Nat) : St := (L.take k).foldl (fun s p => s.upd p.2) st
theorem aJm (st : St) (L : Tr) (k : Nat) : (sts st L k).n = st.n := by
 unfold sts
 generalize L.take k = M
 induction M generalizing st with
 | nil => rfl
 | cons p M ih => simp only [List.foldl_cons, ih, Qc]
theorem Mh (st : St) (L : Tr) (k : Nat) (p : List Loc × List (Loc × Cont)) (h : L[k]? = some p) : sts st L (k + 1) = (sts st L k).upd p.2 := by
 unfold sts
 have hk := (List.getElem?_eq_some_iff.1 h).1
 have : L.take (k + 1) = L.take k ++ [p] := by
  rw [List.take_add_one, h]; rfl
 rw [this, List.foldl_append]; rfl
theorem Wl {C : Ctx} {ops : Array Oper} : ∀ {L : Tr} {k : Nat} {st st' : St}, TR C ops k st L st' → (st' = sts st L L.length ∧ ∀ i p, L[i]? = some p → Sm C ops (k + i) st.n (p.1.map fun x => (x, (sts st L i).get x)) p.2 ∧ wk p.2 = true)
 | [], k, st, st', h => ⟨h.symm, fun i p hp => by simp at hp⟩
 | (rds, outs) :: L, k, st, st', ⟨h1, h2, h3⟩ => by
  obtain ⟨q1, q2⟩ := Wl h3
  refine ⟨by rw [q1]; simp [sts], fun i p hp => ?_⟩
  cases i with
  | zero => simp at hp; subst hp; simpa [sts] using ⟨h1, h2⟩
  | succ i =>
   obtain ⟨r1, r2⟩ := q2 i p (by simpa using hp)
   rw [Qc] at r1
   refine ⟨?_, r2⟩
   have e : k + 1 + i = k + (i + 1) := by omega
   rw [e] at r1
   simpa [sts] using r1
def wr (L : Tr) (i : Nat) (m : Loc) : Bool := match L[i]? with | some p => (p.2.map (·.1)).contains m | none => false
def lw (L : Tr) (E : Nat → Bool) (m : Loc) : Nat → Nat
 | 0 => 0
 | k + 1 => if (E k && wr L k m) = true then k + 1 else lw L E m k
theorem nG {L : Tr} {E E' : Nat → Bool} {m : Loc} : ∀ {n : Nat}, (∀ j, j < n → (E j && wr L j m) = (E' j && wr L j m)) → lw L E m n = lw L E' m n
 | 0, _ => rfl
 | k + 1, h => by
  simp only [lw, h k (by omega)]
  rw [nG fun j hj => h j (by omega)]
theorem Iq {st : St} {L : Tr} (hw : ∀ (i : Nat) (p : List Loc × List (Loc × Cont)), L[i]? = some p → wk p.2 = true) (m : Loc) : ∀ k, k ≤ L.length → (sts st L k).get m = (sts st L (lw L (fun _ => true) m k)).get m
 | 0, _ => rfl
 | k + 1, hk => by
  simp only [lw, Bool.true_and]
  split
  ·rfl
  ·rename_i hn
   have hp : L[k]? = some L[k] := List.getElem?_eq_getElem (by omega)
   rw [Mh _ _ _ _ hp, lI _ (hw _ _ hp)]
   ·exact Iq hw m k (by omega)
   ·simp only [wr, hp, List.contains_iff_mem] at hn
    exact hn
theorem Nv {L : Tr} {E : Nat → Bool} {m : Loc} {k : Nat} (h : ∀ j, k ≤ j → (E j && wr L j m) = false) : ∀ {n : Nat}, k ≤ n → lw L E m n = lw L E m k
  | 0, hk => by have : k = 0 := by omega
                rw [this]
  | n + 1, hk => by
    by_cases e : k = n + 1
    · rw [e]
    · simp only [lw, h n (by omega), Bool.false_eq_true, if_false]
      exact Nv h (by omega)
def cntU (E : Nat → Bool) : Nat → Nat
 | 0 => 0
 | m + 1 => cntU E m + if E m = true then 0 else 1
theorem Ep {E : Nat → Bool} : ∀ {n : Nat}, cntU E n = 0 → ∀ i, i < n → E i = true
 | m + 1, h, i, hi => by
  simp only [cntU] at h
  by_cases e : i = m
  ·subst e; by_cases h2 : E i = true
   ·exact h2
   ·simp [h2] at h
  ·exact Ep (by split at h <;> omega) i (by omega)
theorem Kd {E E' : Nat → Bool} {i : Nat} (hi : E i = false) (h1 : E' i = true) (h2 : ∀ j, j ≠ i → E' j = E j) : ∀ {n : Nat}, (i < n → cntU E' n + 1 = cntU E n) ∧ (n ≤ i → cntU E' n = cntU E n)
 | 0 => ⟨by omega, fun _ => rfl⟩
 | m + 1 => by
  have ih := Kd hi h1 h2 (n := m)
  refine ⟨fun hlt => ?_, fun hle => ?_⟩
  ·simp only [cntU]
   by_cases e : i = m
   ·subst e; rw [ih.2 (Nat.le_refl _), h1, hi]; simp
   ·rw [h2 m (Ne.symm e)]; have := ih.1 (by omega); omega
  ·simp only [cntU, h2 m (by omega)]; rw [ih.2 (by omega)]
theorem Md (E : Nat → Bool) (acc : List Nat) (hacc : ∀ e, E e = true → ∀ i, (acc.getD e 0).testBit i = true → E i = true) : ∀ (es : List Nat) (s : Nat), (∀ i, s.testBit i = true → E i = true) → (∀ e ∈ es, E e = true) →
  ∀ i, (es.foldl (fun s e => s ||| 2 ^ e ||| acc.getD e 0) s).testBit i = true → E i = true
 | [], s, hs, _, i, hi => hs i hi
 | e :: es, s, hs, he, i, hi => by
  simp only [List.foldl_cons] at hi
  refine Md E acc hacc es _ (fun i hi => ?_) (fun e' h => he e' (List.mem_cons_of_mem _ h)) i hi
  rw [Nat.testBit_or, Nat.testBit_or, Bool.or_eq_true, Bool.or_eq_true] at hi
  have hee := he e List.mem_cons_self
  rcases hi with (hi | hi) | hi
  ·exact hs i hi
  ·rw [Nat.testBit_two_pow] at hi
   have : e = i := by simpa using hi
   rw [← this]; exact hee
  ·exact hacc e hee i hi
theorem Fm (E : Nat → Bool) : ∀ (edges : List (List Nat)) (acc : List Nat), (∀ e, E e = true → ∀ i, (acc.getD e 0).testBit i = true → E i = true) → (∀ j es, edges[j]? = some es → E (acc.length + j) = true → ∀ e ∈ es, E e = true) →
  ∀ j, E j = true → ∀ i, ((edges.foldl (fun acc es => acc ++ [es.foldl (fun s e => s ||| 2 ^ e ||| acc.getD e 0) 0]) acc).getD j 0).testBit i = true → E i = true
 | [], acc, hacc, _, j, hj, i, hi => hacc j hj i hi
 | es :: edges, acc, hacc, hdown, j, hj, i, hi => by
  simp only [List.foldl_cons] at hi
  refine Fm E edges _ (fun e he i hi => ?_) (fun j' es' h1 h2 e he => hdown (j' + 1) es' (by simpa using h1) (by simp at h2; rw [show acc.length + (j' + 1) = acc.length + 1 + j' by omega]; exact h2) e he) j hj i hi
  by_cases h1 : e < acc.length
  ·have : (acc ++ [es.foldl (fun s e => s ||| 2 ^ e ||| acc.getD e 0) 0]).getD e 0 = acc.getD e 0 := by simp [List.getD, List.getElem?_append_left h1]
   rw [this] at hi
   exact hacc e he i hi
  ·by_cases h2 : e = acc.length
   ·subst h2
    have : (acc ++ [es.foldl (fun s e => s ||| 2 ^ e ||| acc.getD e 0) 0]).getD acc.length 0 = es.foldl (fun s e => s ||| 2 ^ e ||| acc.getD e 0) 0 := by simp [List.getD]
    rw [this] at hi
    exact Md E acc hacc es 0 (fun i hi => by simp at hi) (hdown 0 es rfl he) i hi
   ·have : (acc ++ [es.foldl (fun s e => s ||| 2 ^ e ||| acc.getD e 0) 0]).getD e 0 = 0 := by
     unfold List.getD
     rw [List.getElem?_eq_none (by simp; omega)]; rfl
    rw [this] at hi
    simp at hi
theorem aB5 {C : Ctx} {ops : Array Oper} {st0 : St} {L : Tr} (hL : L.length = ops.size) (htr : ∀ (i : Nat) (p : List Loc × List (Loc × Cont)), L[i]? = some p → Sm C ops i st0.n (p.1.map fun x => (x, (sts st0 L i).get x)) p.2 ∧ wk p.2 = true)
  (hind : pB (jN ops.toList) (L.map fun p => (p.1, p.2.map (·.1))) = true) {e : Env} {Q : Exit → Act → World → Prop} (hQ : ∀ a' w', S C e (sts st0 L L.length) a' w' → Q .normal a' w') :
  ∀ (fuel : Nat) (listed : Array Bool) (cur : St) (a : Act) (w : World), listed.size = ops.size → cntU (fun i => listed.getD i false) ops.size ≤ fuel →
   (∀ j o, ops[j]? = some o → listed.getD j false = true → ∀ d ∈ o.after, Region.binds .any d = true → listed.getD d.on false = true) →
   cur.n = st0.n → (∀ m, cur.get m = (sts st0 L (lw L (fun i => listed.getD i false) m L.length)).get m) → S C e cur a w → wpAny C.P .any ops Q fuel listed a w := by
 have hwk : ∀ (i : Nat) (p : List Loc × List (Loc × Cont)), L[i]? = some p → wk p.2 = true := fun i p hp => (htr i p hp).2
 have hed : ∀ (j : Nat) (o : Oper), ops[j]? = some o → (jN ops.toList)[j]? = some ((o.after.toList.filter (Region.binds .any)).map (·.on)) := fun j o ho => by
  simp [jN, ho]
 have hlt : ∀ (j : Nat) (o : Oper), ops[j]? = some o → ∀ d ∈ o.after, Region.binds .any d = true → d.on < j := fun j o ho d hd hb => by
  simp only [pB, Bool.and_eq_true, List.all_eq_true] at hind
  have h1 := hind.1 ((o.after.toList.filter (Region.binds .any)).map (·.on), j) (by
   rw [List.mem_zipIdx_iff_getElem?]; exact hed j o ho)
  have h2 := h1 d.on (List.mem_map.2 ⟨d, List.mem_filter.2 ⟨by simpa using hd, hb⟩, rfl⟩)
  simpa using h2
 have hap : ∀ (i j : Nat) (p q : List Loc × List (Loc × Cont)), i < j → L[i]? = some p → L[j]? = some q → ((befs (jN ops.toList)).getD j 0).testBit i = true ∨
   ((∀ m ∈ p.2.map (·.1), m ∉ q.1) ∧ (∀ m ∈ p.2.map (·.1), m ∉ q.2.map (·.1)) ∧ (∀ m ∈ q.2.map (·.1), m ∉ p.1)) := fun i j p q hij hp hq => by
  simp only [pB, Bool.and_eq_true, List.all_eq_true] at hind
  have h1 := hind.2 j (by simpa using (List.getElem?_eq_some_iff.1 hq).1) i (by simpa using hij)
  rw [Bool.or_eq_true] at h1
  refine h1.imp id fun h2 => ?_
  simp only [List.getD, List.getElem?_map, hp, hq, Option.map_some, Option.getD_some, Zt, Bool.and_eq_true, disj, List.all_eq_true] at h2
  obtain ⟨⟨h3, h4⟩, h5⟩ := h2
  exact ⟨fun m hm => by simpa using h3 m hm, fun m hm => by simpa using h4 m hm, fun m hm => by simpa using h5 m hm⟩
 intro fuel
 induction fuel with
 | zero =>
  intro listed cur a w hsz hcnt hdown hn hcur hs
  have hall := Ep (Nat.le_zero.1 hcnt)
  refine ⟨?_, hQ a w (hs.weaken ?_)⟩
  ·rw [List.eq_nil_iff_forall_not_mem]
   intro i hi
   obtain ⟨h1, o, ho, _⟩ := mem_ready.1 hi
   have hlt' := (Array.getElem?_eq_some_iff.1 ho).1
   have := hall i hlt'
   have hb : i < listed.size := by omega
   simp [Array.getD_eq_getD_getElem?, Array.getElem?_eq_getElem hb] at h1 this
   rw [h1] at this; cases this
  ·have key : ∀ m, (sts st0 L L.length).get m = cur.get m := fun m => by
    rw [hcur m, Iq hwk m L.length (Nat.le_refl _), nG (E := fun _ => true) (E' := fun i => listed.getD i false) fun j hj => by rw [hall j (by omega)]]
   refine ⟨by rw [aJm, hn], fun d => .inr ?_, fun k => .inl ?_⟩
   ·simpa [St.get] using key (.T d)
   ·have := key (.R k)
    simp only [St.get, Cont.s.injEq] at this
    exact Prod.ext this.1 this.2
 | succ fuel ih =>
  intro listed cur a w hsz hcnt hdown hn hcur hs
  refine ⟨fun hr => ?_, fun i hi => ?_⟩
  ·-- nothing is ready: all is done
   have hall : ∀ i, i < ops.size → listed.getD i false = true := by
    intro i
    induction i using Nat.strongRecOn with
    | _ i ihi =>
     intro hi
     by_cases h : listed.getD i false = true
     ·exact h
     ·exfalso
      have ho : ops[i]? = some ops[i] := Array.getElem?_eq_getElem hi
      have hb : i < listed.size := by omega
      have : i ∈ Region.ready .any ops listed := mem_ready.2 ⟨by simpa [Array.getD_eq_getD_getElem?, Array.getElem?_eq_getElem hb] using h, _, ho, fun d hd hbd => by
       have := hlt i _ ho d hd hbd
       exact ihi d.on this (by omega)⟩
      rw [hr] at this
      cases this
   refine hQ a w (hs.weaken ?_)
   have key : ∀ m, (sts st0 L L.length).get m = cur.get m := fun m => by
    rw [hcur m, Iq hwk m L.length (Nat.le_refl _), nG (E := fun _ => true) (E' := fun i => listed.getD i false) fun j hj => by rw [hall j (by omega)]]
   refine ⟨by rw [aJm, hn], fun d => .inr ?_, fun k => .inl ?_⟩
   ·simpa [St.get] using key (.T d)
   ·have := key (.R k)
    simp only [St.get, Cont.s.injEq] at this
    exact Prod.ext this.1 this.2
  ·obtain ⟨h1, o, ho, hpre⟩ := mem_ready.1 hi
   have hisz := (Array.getElem?_eq_some_iff.1 ho).1
   have hib : i < listed.size := by omega
   have hif : listed.getD i false = false := by simpa [Array.getD_eq_getD_getElem?, Array.getElem?_eq_getElem hib] using h1
   have hp : L[i]? = some L[i] := List.getElem?_eq_getElem (by omega)
   generalize hpp : L[i] = p at hp
   obtain ⟨hd, hwkp⟩ := htr i p hp
   -- who stands ahead of i is done
   have hB : ∀ (E : Nat → Bool), (∀ j o, ops[j]? = some o → E j = true → ∀ d ∈ o.after, Region.binds .any d = true → E d.on = true) → ∀ j, E j = true → ∀ k, ((befs (jN ops.toList)).getD j 0).testBit k = true → E k = true := fun E hE j hj k hk => by
    refine Fm E (jN ops.toList) [] (fun e _ i hi => by simp at hi) (fun j' es hes hj' d hd => ?_) j hj k hk
    simp only [List.length_nil, Nat.zero_add] at hj'
    have hlen : j' < ops.size := by
     have := (List.getElem?_eq_some_iff.1 hes).1
     simpa [jN] using this
    have hoj : ops[j']? = some ops[j'] := Array.getElem?_eq_getElem hlen
    rw [hed j' _ hoj] at hes
    simp only [Option.some.injEq] at hes
    rw [← hes] at hd
    obtain ⟨q, hq, rfl⟩ := List.mem_map.1 hd
    obtain ⟨hq1, hq2⟩ := List.mem_filter.1 hq
    exact hE j' _ hoj hj' q (by simpa using hq1) hq2
   have hset : ∀ j, (listed.setIfInBounds i true).getD j false = if j = i then true else listed.getD j false := fun j => by
    by_cases h : j = i
    ·subst h; simp [Array.getD_eq_getD_getElem?, hib]
    ·simp [Array.getD_eq_getD_getElem?, Array.getElem?_setIfInBounds_ne (Ne.symm h), h]
   have hdown' : ∀ j o, ops[j]? = some o → (listed.setIfInBounds i true).getD j false = true → ∀ d ∈ o.after, Region.binds .any d = true → (listed.setIfInBounds i true).getD d.on false = true := fun j o' ho' hj d hdd hb => by
    rw [hset] at hj ⊢
    by_cases h : d.on = i
    ·rw [if_pos h]
    ·rw [if_neg h]
     by_cases hji : j = i
     ·subst hji
      rw [ho] at ho'; simp at ho'; subst ho'
      exact hpre d hdd hb
     ·rw [if_neg hji] at hj
      exact hdown j o' ho' hj d hdd hb
   have hEi := hB _ hdown'
   have hEl := hB (fun j => listed.getD j false) hdown
   -- which of the done ones write to a place that i reads or writes
   have hside : ∀ j, j < L.length → ∀ m, (m ∈ p.1 ∨ m ∈ p.2.map (·.1)) → j ≠ i → (listed.getD j false && wr L j m) = (decide (j < i) && wr L j m) := fun j hj m hm hji => by
    have hq : L[j]? = some L[j] := List.getElem?_eq_getElem hj
    cases hwj : wr L j m with
    | false => simp
    | true =>
     have hmw : m ∈ (L[j]).2.map (·.1) := by simpa [wr, hq] using hwj
     simp only [Bool.and_true]
     by_cases hlt2 : j < i
     ·rcases hap j i _ p hlt2 hq hp with h2 | ⟨h2, h3, h4⟩
      ·have := hEi i (by rw [hset, if_pos rfl]) j h2
       rw [hset, if_neg hji] at this
       simp [hlt2, this]
      ·rcases hm with hm | hm
       ·exact absurd hm (h2 m hmw)
       ·exact absurd hm (h3 m hmw)
     ·have hgt : i < j := by omega
      simp only [hlt2, decide_false]
      rcases hap i j p _ hgt hp hq with h2 | ⟨h2, h3, h4⟩
      ·cases hlj : listed.getD j false with
       | false => rfl
       | true =>
        have h9 : listed.getD i false = true := hEl j hlj i h2
        rw [hif] at h9
        cases h9
      ·rcases hm with hm | hm
       ·exact absurd hm (h4 m hmw)
       ·exact absurd hmw (h3 m hm)
   have hlast : ∀ m, (m ∈ p.1 ∨ m ∈ p.2.map (·.1)) → lw L (fun j => listed.getD j false) m L.length = lw L (fun _ => true) m i := fun m hm => by
    rw [nG (E' := fun j => decide (j < i)) (fun j hj => by
     by_cases hji : j = i
     ·subst hji; simp [hif]
     ·exact hside j hj m hm hji)]
    rw [Nv (k := i) (fun j hj => by simp; omega) (by omega)]
    exact nG fun j hj => by simp [hj]
   have hag : xN cur (p.1.map fun x => (x, (sts st0 L i).get x)) := by
    refine bU.2 fun m hm => ?_
    rw [hcur m, hlast m (.inl hm), ← Iq hwk m i (by omega)]
   refine hd e cur a w _ Q hn hs hag fun a' w' hs' => ?_
   refine ih (listed.setIfInBounds i true) (cur.upd p.2) a' w' (by simpa using hsz) ?_ hdown' (by rw [Qc]; exact hn) (fun m => ?_) hs'
   ·have := (Kd (E := fun j => listed.getD j false) (E' := fun j => (listed.setIfInBounds i true).getD j false) (i := i) hif (by rw [hset]; simp) (fun j hj => by rw [hset, if_neg hj]) (n := ops.size)).1 hisz
    omega
   ·by_cases hm : m ∈ p.2.map (·.1)
    ·have e1 : lw L (fun j => (listed.setIfInBounds i true).getD j false) m L.length = i + 1 := by
      rw [nG (E' := fun j => decide (j < i + 1)) (fun j hj => by
       rw [hset]
       by_cases hji : j = i
       ·subst hji; simp
       ·rw [if_neg hji, hside j hj m (.inr hm) hji]
        have : decide (j < i) = decide (j < i + 1) := by
         by_cases h : j < i
         ·simp [h]; omega
         ·have : ¬ j < i + 1 := by omega
          simp [h, this]
        rw [this])]
      rw [Nv (k := i + 1) (fun j hj => by simp; omega) (by omega)]
      have hwi : wr L i m = true := by simp only [wr, hp, List.contains_iff_mem]; exact hm
      simp [lw, hwi]
     rw [e1, Mh _ _ _ _ hp]
     exact Cz _ _ hwkp hm
    ·rw [lI _ hwkp hm, hcur m]
     congr 2
     refine (nG fun j hj => ?_).symm
     rw [hset]
     by_cases hji : j = i
     ·subst hji
      have hwi : wr L j m = false := by
       simp only [wr, hp]
       simpa using hm
      simp [hwi]
     ·rw [if_neg hji]
theorem Fs : ∀ (n : Nat), cntU (fun _ => false) n = n
 | 0 => rfl
 | n + 1 => by simp [cntU, Fs n]
theorem Ys {C : Ctx} {T : List (Ct C)} {id : Nat} {ops : Array Oper} {st : St} {K : St → Prop} (h : drun C T 0 [] ops.toList st [] fun fps s => pB (jN ops.toList) fps = true ∧ K s) : aUh C id ops st K := by
 intro e a w Q hs hq
 obtain ⟨L, st', htr, hlen, hind, hK⟩ := Sw (ops := ops) h (by simp) (fun j d hj => by simp [fZ] at hj)
 obtain ⟨q1, q2⟩ := Wl htr
 subst q1
 have hL : L.length = ops.size := by simpa using hlen
 obtain ⟨ho, g, hr⟩ := hs
 refine wp_region_any C.mixed ?_
 have hs' : S C e st a { w with drawn := w.drawn + 1 } := ⟨ho, g, hr.world rfl rfl rfl rfl⟩
 have hf : (fun i => (Array.replicate ops.size false).getD i false) = fun _ => false := by
  funext i
  simp only [Array.getD_eq_getD_getElem?, Array.getElem?_replicate]
  split <;> rfl
 refine aB5 hL (fun i p hp => by simpa using q2 i p hp) (by simpa using hind) (fun a' w' h' => hq a' w' _ h' hK) ops.size (Array.replicate ops.size false) st a _ (by simp) (by rw [hf, Fs]; exact Nat.le_refl _) (fun j o _ hj => by
  have h9 : (Array.replicate ops.size false).getD j false = false := congrFun hf j
  rw [h9] at hj; cases hj) rfl (fun m => ?_) hs'
 rw [hf]
 have : ∀ n, lw L (fun _ => false) m n = 0 := by
  intro n; induction n with
  | zero => rfl
  | succ n ih => simp [lw, ih]
 rw [this]; rfl
inductive It where
 | c (c : Code)
 | b (id : Nat)
 | o (k : Nat) (done : List (Nat × Nat)) (l : List Oper)
def toB (id : Nat) : List It → Option (List It)
 | [] => none
 | .b j :: r => if id = j then some r else toB id r
 | .c _ :: r => toB id r
 | .o _ _ _ :: r => toB id r
def ck (C : Ctx) : List It → (Exit → St → Prop) → Exit → St → Prop
 | [], K, x, s => K x s
 | .c c :: r, K, .normal, s => lwp C c s (ck C r K)
 | .c _ :: r, K, x, s => ck C r K x s
 | .o k done l :: r, K, .normal, s => tZ C k done l s (ck C r K .normal)
 | .o _ _ _ :: r, K, x, s => ck C r K x s
 | .b id :: r, K, .exit j, s => if j = id then ck C r K .normal s else ck C r K (.exit j) s
 | .b _ :: r, K, x, s => ck C r K x s
theorem ck_b {C : Ctx} {id : Nat} {r : List It} {K : Exit → St → Prop} : ck C (.b id :: r) K = Ou id (ck C r K) := by
 funext x s
 cases x <;> rfl
theorem ck_c {C : Ctx} {c : Code} {r : List It} {K : Exit → St → Prop} : ck C (.c c :: r) K = fX (fun s => lwp C c s (ck C r K)) (ck C r K) := by
 funext x s
 cases x <;> rfl
theorem pD {C : Ctx} {id : Nat} {K : Exit → St → Prop} {st : St} : ∀ {r : List It}, (∀ r', toB id r = some r' → ck C r' K .normal st → ck C r K (.exit id) st) ∧ (toB id r = none → K (.exit id) st → ck C r K (.exit id) st)
 | [] => ⟨fun r' h => by simp [toB] at h, fun _ h => h⟩
 | .c c :: r => ⟨fun r' h h2 => (pD (r := r)).1 r' h h2, fun h h2 => (pD (r := r)).2 h h2⟩
 | .o k done l :: r => ⟨fun r' h h2 => (pD (r := r)).1 r' h h2, fun h h2 => (pD (r := r)).2 h h2⟩
 | .b j :: r => by
  refine ⟨fun r' h h2 => ?_, fun h h2 => ?_⟩
  ·unfold toB at h
   show if id = j then ck C r K .normal st else ck C r K (.exit id) st
   split at h
   ·rename_i hj; rw [if_pos hj]; simp at h; subst h; exact h2
   ·rename_i hj; rw [if_neg hj]; exact (pD (r := r)).1 r' h h2
  ·unfold toB at h
   show if id = j then ck C r K .normal st else ck C r K (.exit id) st
   split at h
   ·simp at h
   ·rename_i hj; rw [if_neg hj]; exact (pD (r := r)).2 h h2
theorem uW {C : Ctx} {K : Exit → St → Prop} {st : St} (h : K .ret st) : ∀ {r : List It}, ck C r K .ret st
 | [] => h
 | .c _ :: r => uW (r := r) h
 | .o _ _ _ :: r => uW (r := r) h
 | .b _ :: r => uW (r := r) h
def Rn (C : Ctx) (_ : List (Ct C)) (r : List It) (st : St) (K : Exit → St → Prop) : Prop := ck C r K .normal st
structure Imp (a b : Prop) : Prop where
 run : a → b
section
variable {C : Ctx} {T : List (Ct C)} {r : List It} {st st' : St} {K : Exit → St → Prop}
theorem pM (h : ∀ K0 : St → Prop, Imp (K0 st') (K0 st)) (hk : Rn C T r st' K) : Rn C T r st K := (h fun s => Rn C T r s K).run hk
theorem nT (h : K .normal st) : Rn C T [] st K := h
theorem Rn_b {id : Nat} (h : Rn C T r st K) : Rn C T (.b id :: r) st K := by unfold Rn; rw [ck_b]; exact h
theorem iC {k : Nat} {done : List (Nat × Nat)} (h : Rn C T r st K) : Rn C T (.o k done [] :: r) st K := fun _ _ _ => aAl h
theorem kF (h : Rn C T r st K) : Rn C T (.c .skip :: r) st K := Xl h
theorem kK {a b : Code} (h : Rn C T (.c a :: .c b :: r) st K) : Rn C T (.c (.seq a b) :: r) st K := by
 refine aF1 ?_
 rw [← ck_c]
 exact h
theorem iE {id : Nat} {a : Code} (h : Rn C T (.c a :: .b id :: r) st K) : Rn C T (.c (.block id a) :: r) st K := by
 refine Ul ?_
 rw [← ck_b]
 exact h
theorem kB {id : Nat} {r' : List It} (hr : toB id r = some r') (h : Rn C T r' st K) : Rn C T (.c (.exit id) :: r) st K := Iy (pD.1 r' hr h)
theorem Ze {id : Nat} (hr : toB id r = none) (h : K (.exit id) st) : Rn C T (.c (.exit id) :: r) st K := Iy (pD.2 hr h)
theorem lY (h : K .ret st) : Rn C T (.c .ret :: r) st K := aHb (uW h)
theorem Gy {c : Operand} {a b : Code} {q : Bool} (hq : ev st c = .r (.v (.bool q))) (h1 : q = true → Rn C T (.c a :: r) st K) (h2 : q = false → Rn C T (.c b :: r) st K) : Rn C T (.c (.cond c a b) :: r) st K := by
 refine Wc hq ?_
 cases q with
 | true => exact h1 rfl
 | false => exact h2 rfl
theorem Vt {c : Operand} {a b : Code} (hq : ev st c = .r (.v (.bool true))) (h : Rn C T (.c a :: r) st K) : Rn C T (.c (.cond c a b) :: r) st K := Gy hq (fun _ => h) (fun h => nomatch h)
theorem Tq {c : Operand} {a b : Code} (hq : ev st c = .r (.v (.bool false))) (h : Rn C T (.c b :: r) st K) : Rn C T (.c (.cond c a b) :: r) st K := Gy hq (fun h => nomatch h) (fun _ => h)
theorem eV {id : Nat} {l : List Oper} (h : Rn C T (.o 0 [] l :: r) st K) : Rn C T (.c (.region id l.toArray false) :: r) st K :=
 Og ((h : tZ C 0 [] l st (ck C r K .normal)) _ (by simp) (fun j d hj => by simp [fZ] at hj))
theorem Xa {k : Nat} {done : List (Nat × Nat)} {o : Oper} {l : List Oper} {j d : Nat} {b q : Bool} (hg : o.guard = some (j, b)) (hd : fZ j done = some d) (hq : bB d st.t = .r (.v (.bool q)))
  (h1 : q = b → ∃ st', (∀ K0 : St → Prop, K0 st' → sI C o st fun _ outs => K0 (st.upd outs)) ∧ Rn C T (.o (k + 1) (addN k o.dst done) l :: r) st' K)
  (h2 : q = (!b) → ∃ st', (dH o st.n = true ∧ bM o st = st') ∧ Rn C T (.o (k + 1) (addN k o.dst done) l :: r) st' K) : Rn C T (.o k done (o :: l) :: r) st K := by
 refine rM (T := T) (K' := fun s => tZ C (k + 1) (addN k o.dst done) l s (ck C r K .normal)) ?_ fun s hs => hs
 unfold uT
 rw [hg]
 simp only [hd, hq]
 refine ⟨fun hb => ?_, fun hb => ?_⟩
 ·obtain ⟨st', h3, h4⟩ := h1 (by simpa using hb)
  exact h3 _ h4
 ·obtain ⟨st', ⟨h3, h4⟩, h5⟩ := h2 (by cases q <;> cases b <;> simp_all)
  exact ⟨h3, by rw [h4]; exact h5⟩
theorem yO {k : Nat} {done : List (Nat × Nat)} {o : Oper} {l : List Oper} {j d : Nat} {b : Bool} {xs : Array Value} (hg : o.guard = some (j, b)) (hd : fZ j done = some d) (hq : bB d st.t = .r (.v (.tuple xs)))
  (h : dH o st.n = true) (hs : bM o st = st') (hk : Rn C T (.o (k + 1) (addN k o.dst done) l :: r) st' K) : Rn C T (.o k done (o :: l) :: r) st K := by
 refine rM (T := T) (K' := fun s => tZ C (k + 1) (addN k o.dst done) l s (ck C r K .normal)) ?_ fun s hs => hs
 unfold uT
 rw [hg]
 simp only [hd, hq]
 exact ⟨h, by rw [hs]; exact hk⟩
abbrev UD : AV := .r (.v (.tuple #[]))
def mC (x : AV) (b : Bool) (K : Bool → Prop) : Prop :=
 match x with
 | .r (.v (.bool q)) => K (q == b)
 | .r (.v (.tuple _)) => K false
 | _ => False
theorem Vb (c p b : Bool) (K : Bool → Prop) : mC (bif c then .r (.v (.bool p)) else UD) b K = K (c && (p == b)) := by cases c <;> rfl
theorem wM {x : AV} {b : Bool} {K : Bool → Prop} (h : mC x b K) : (∃ q, x = .r (.v (.bool q)) ∧ K (q == b)) ∨ (∃ xs, x = .r (.v (.tuple xs)) ∧ K false) := by
 unfold mC at h
 split at h
 ·exact .inl ⟨_, rfl, h⟩
 ·exact .inr ⟨_, rfl, h⟩
 ·exact h.elim
def oneK (d : Nat) (outs : List (Loc × Cont)) (K : AV → Prop) : Prop :=
 match outs with
 | [(.T e, .a x)] => e = d ∧ K x
 | _ => False
theorem Sk {d : Nat} {outs : List (Loc × Cont)} {K : AV → Prop} (h : oneK d outs K) : ∃ x, outs = [(.T d, .a x)] ∧ K x := by
 unfold oneK at h
 split at h
 ·obtain ⟨rfl, h⟩ := h; exact ⟨_, rfl, h⟩
 ·exact h.elim
theorem Ch {o : Oper} {K K' : List Loc → List (Loc × Cont) → Prop} (h : sI C o st K) (hk : ∀ l outs, K l outs → K' l outs) : sI C o st K' := by
 obtain ⟨l, outs, h1, h2⟩ := h
 exact ⟨l, outs, hk _ _ h1, h2⟩
theorem aEe {k : Nat} {done : List (Nat × Nat)} {o : Oper} {l : List Oper} {j d d' : Nat} {b w : Bool} {x : AV} (hg : o.guard = some (j, b)) (hd : fZ j done = some d) (hdst : o.dst = some d') (hw : ∀ K0 : Bool → Prop, Imp (K0 w) (mC (bB d st.t) b K0)) (hn : d' < st.n)
  (h : w = true → ∀ K0 : AV → Prop, Imp (K0 x) (opG C T o st fun _ outs => oneK d' outs K0))
  (hst : ∀ K0 : St → Prop, Imp (K0 st') (K0 { st with t := putT d' (bif w then x else UD) st.t }))
  (hk : Rn C T (.o (k + 1) (addN k o.dst done) l :: r) st' K) : Rn C T (.o k done (o :: l) :: r) st K := by
 have hk' := (hst fun s => Rn C T (.o (k + 1) (addN k o.dst done) l :: r) s K).run hk
 rcases wM ((hw fun w' => w' = w).run rfl) with ⟨q, hq, hqw⟩ | ⟨xs, hq, hqw⟩
 ·refine Xa hg hd hq (fun he => ?_) (fun he => ?_)
  ·have hwt : w = true := by rw [← hqw, he]; simp
   refine ⟨_, fun K0 hK => ?_, hk'⟩
   refine Ch (uP ((h hwt fun x' => x' = x).run rfl)) fun l outs ho => ?_
   obtain ⟨x', rfl, rfl⟩ := Sk ho
   rw [hwt] at hK
   exact hK
  ·have hwf : w = false := by rw [← hqw, he]; cases b <;> rfl
   refine ⟨_, ⟨by simpa [dH, hdst] using hn, rfl⟩, ?_⟩
   rw [hwf] at hk'
   simpa [bM, hdst] using hk'
 ·refine yO hg hd hq (by simpa [dH, hdst] using hn) rfl ?_
  rw [← hqw] at hk'
  simpa [bM, hdst] using hk'
def Rd (C : Ctx) (T : List (Ct C)) (k : Nat) (done : List (Nat × Nat)) (l : List Oper) (st : St) (fps : List (List Loc × List Loc)) (edges : List (List Nat)) (r : List It) (K : Exit → St → Prop) : Prop :=
 drun C T k done l st fps fun fps s => pB edges fps = true ∧ Rn C T r s K
theorem kH {id : Nat} {l : List Oper} (h : Rd C T 0 [] l st [] (jN l) r K) : Rn C T (.c (.region id l.toArray true) :: r) st K :=
 fun e a w hs => (Ys (T := T) (ops := l.toArray) (K := ck C r K .normal) h) e a w _ hs fun a' w' st' h1 h2 => ⟨st', h1, h2⟩
variable {k : Nat} {done : List (Nat × Nat)} {o : Oper} {l : List Oper} {fps : List (List Loc × List Loc)} {edges : List (List Nat)} {rds : List Loc} {ws : List (Loc × Cont)} {j d : Nat} {b q : Bool}
theorem nM (h : pB edges fps = true) (hk : Rn C T r st K) : Rd C T k done [] st fps edges r K := ⟨h, hk⟩
theorem Zf (hg : o.guard = some (j, b)) (hd : fZ j done = some d) (hq : bB d st.t = .r (.v (.bool q)))
  (h1 : q = b → ∃ rds ws st', (∀ K0 : List Loc → List (Loc × Cont) → St → Prop, Imp (K0 rds ws st') (opG C T o st fun l outs => wk outs = true ∧ K0 l outs (st.upd outs))) ∧ Rd C T (k + 1) (addN k o.dst done) l st' (fps ++ [(.T d :: rds, ws.map (·.1))]) edges r K)
  (h2 : q = (!b) → ∃ ws st', (dH o st.n = true ∧ ws = (match o.dst with | some d' => [.T d'] | none => []) ∧ bM o st = st') ∧ Rd C T (k + 1) (addN k o.dst done) l st' (fps ++ [([.T d], ws)]) edges r K) : Rd C T k done (o :: l) st fps edges r K := by
 unfold Rd drun vS
 rw [hg]
 simp only [hd, hq]
 refine ⟨fun hb => ?_, fun hb => ?_⟩
 ·obtain ⟨rds, ws, st', h3, h4⟩ := h1 (by simpa using hb)
  exact uP ((h3 (fun rds outs s => drun C T (k + 1) (addN k o.dst done) l s (fps ++ [(.T d :: rds, outs.map (·.1))]) fun fps s => pB edges fps = true ∧ Rn C T r s K)).run h4)
 ·obtain ⟨ws, st', ⟨h3, h4, h5⟩, h6⟩ := h2 (by cases q <;> cases b <;> simp_all)
  refine ⟨h3, [], ?_⟩
  subst h4; subst h5
  unfold Rd at h6
  cases hdst : o.dst with
  | none => simpa [hdst, St.upd, bM] using h6
  | some d' => simpa [hdst, St.upd, bM, St.set] using h6
theorem Lm (hg : o.guard = some (j, b)) (hd : fZ j done = some d) (hq : bB d st.t = .r (.v (.bool q))) (hqb : q = (!b)) (h : dH o st.n = true) {ws : List Loc} (hw : ws = (match o.dst with | some d' => [.T d'] | none => [])) (hs : bM o st = st')
  (hk : Rd C T (k + 1) (addN k o.dst done) l st' (fps ++ [([.T d], ws)]) edges r K) : Rd C T k done (o :: l) st fps edges r K :=
 Zf hg hd hq (fun h => by subst h; cases q <;> simp at hqb) (fun _ => ⟨ws, st', ⟨h, hw, hs⟩, hk⟩)
theorem Jd {xs : Array Value} (hg : o.guard = some (j, b)) (hd : fZ j done = some d) (hq : bB d st.t = .r (.v (.tuple xs))) (h : dH o st.n = true) {ws : List Loc} (hw : ws = (match o.dst with | some d' => [.T d'] | none => [])) (hs : bM o st = st')
  (hk : Rd C T (k + 1) (addN k o.dst done) l st' (fps ++ [([.T d], ws)]) edges r K) : Rd C T k done (o :: l) st fps edges r K := by
 unfold Rd drun vS
 rw [hg]
 simp only [hd, hq]
 refine ⟨h, [], ?_⟩
 subst hw; subst hs
 unfold Rd at hk
 cases hdst : o.dst with
 | none => simpa [hdst, St.upd, bM] using hk
 | some d' => simpa [hdst, St.upd, bM, St.set] using hk
theorem aGy {d' : Nat} {w : Bool} {x : AV} (hg : o.guard = some (j, b)) (hd : fZ j done = some d) (hdst : o.dst = some d') (hw : ∀ K0 : Bool → Prop, Imp (K0 w) (mC (bB d st.t) b K0)) (hn : d' < st.n)
  (h : w = true → ∀ K0 : List Loc → AV → Prop, Imp (K0 rds x) (opG C T o st fun l outs => oneK d' outs (K0 l)))
  (hst : ∀ K0 : St → Prop, Imp (K0 st') (K0 { st with t := putT d' (bif w then x else UD) st.t }))
  (hk : Rd C T (k + 1) (addN k o.dst done) l st' (fps ++ [(.T d :: rds, [.T d'])]) edges r K) : Rd C T k done (o :: l) st fps edges r K := by
 have hk' := (hst fun s => Rd C T (k + 1) (addN k o.dst done) l s (fps ++ [(.T d :: rds, [.T d'])]) edges r K).run hk
 have no : w = false → bM o st = { st with t := putT d' (bif w then x else UD) st.t } := fun hwf => by rw [hwf]; simp [bM, hdst]
 rcases wM ((hw fun w' => w' = w).run rfl) with ⟨q, hq, hqw⟩ | ⟨xs, hq, hqw⟩
 ·unfold Rd drun vS
  rw [hg]
  simp only [hd, hq]
  refine ⟨fun hb => ?_, fun hb => ⟨by simpa [dH, hdst] using hn, rds, ?_⟩⟩
  ·have hwt : w = true := by rw [← hqw, hb]
   refine Ch (uP ((h hwt fun l' x' => l' = rds ∧ x' = x).run ⟨rfl, rfl⟩)) fun l' outs ho => ?_
   obtain ⟨x', rfl, rfl, rfl⟩ := Sk ho
   refine ⟨rfl, ?_⟩
   rw [hwt] at hk'
   unfold Rd at hk'
   exact hk'
  ·have hwf : w = false := by rw [← hqw, hb]
   unfold Rd at hk'
   rw [hwf] at hk'
   simpa [hdst, St.upd, St.set] using hk'
 ·unfold Rd drun vS
  rw [hg]
  simp only [hd, hq]
  refine ⟨by simpa [dH, hdst] using hn, rds, ?_⟩
  unfold Rd at hk'
  rw [← hqw] at hk'
  simpa [hdst, St.upd, St.set] using hk'
theorem rW (h : ∀ K0 : St → Prop, Imp (K0 st') (K0 st)) (hk : Rd C T k done l st' fps edges r K) : Rd C T k done l st fps edges r K := (h fun s => Rd C T k done l s fps edges r K).run hk
def hasC : List It → Bool
 | [] => false
 | .b _ :: r => hasC r
 | _ => true
theorem aSy (hr : hasC r = true) (h : Le st st') (hk : Rn C T r st' K) : Rn C T r st K := by
 unfold Rn at *
 induction r with
 | nil => simp [hasC] at hr
 | cons i r ih =>
  cases i with
  | b id =>
   rw [ck_b] at hk ⊢
   exact ih (by simpa [hasC] using hr) hk
  | c c => exact Nn h hk
  | o k done l => exact fun ops h1 h2 => Jk h (hk ops h1 h2)
theorem Gc {c : Code} {α : Type} (I : α → Prop) (f : α → St) (μ : α → Nat) (x0 : α) (hst : Le st (f x0)) (h0 : I x0)
  (round : ∀ x, I x → Rn C T [.c c] (f x) (fX (fun s => ∃ y, I y ∧ μ y < μ x ∧ Le s (f y)) (ck C r K))) : Rn C T (.c (.loop c) :: r) st K := by
 refine aA3 I f μ x0 hst h0 fun x hx => ?_
 exact round x hx
theorem Tc {id : Nat} {r' : List It} (hr : toB id r = some r') (h : Rn C T r' st K) : ck C r K (.exit id) st := pD.1 r' hr h
end
theorem Zg {C : Ctx} {fn : Func} {r : AV} {x : Exit} {st : St} {rl : List ResultVar} {xs : List AV} (hx : x = .normal ∨ x = .ret) (hr : fn.results = rl.toArray) (h : resK st C.P rl xs) (he : r = resV xs) (hin : bK bR r = true) : Fin C fn r [] x st := by
 have hd : domR [] = bR := by funext k; rfl
 exact ⟨hx, ⟨xs, by rw [hr]; exact h, he⟩, fun k hk => by rw [hd] at hk; simp [bR] at hk, by rw [hd]; exact hin, fun k => trivial⟩
def resG (st : St) (P : Program) : List ResultVar → (List AV → Prop) → Prop
 | [], K => K []
 | .tmp t :: l, K => resG st P l fun xs => K (bB t st.t :: xs)
 | .cell t ty :: l, K => match bB t st.t with
  | .os k ver => match aB k st.rs with
   | (cv, .bx cells) => ver = cv ∧ uB P ty cells fun x => resG st P l fun xs => K (x :: xs)
   | _ => False
  | _ => False
theorem qD {st : St} {P : Program} : ∀ {l : List ResultVar} {K : List AV → Prop}, resG st P l K → ∃ xs, resK st P l xs ∧ K xs
 | [], K, h => ⟨[], trivial, h⟩
 | .tmp t :: l, K, h => by
  obtain ⟨xs, h1, h2⟩ := qD (l := l) h
  exact ⟨bB t st.t :: xs, ⟨rfl, h1⟩, h2⟩
 | .cell t ty :: l, K, h => by
  unfold resG at h
  split at h
  ·rename_i k ver h0
   split at h
   ·rename_i cv cells hk
    obtain ⟨rfl, h⟩ := h
    obtain ⟨x, h, hx⟩ := nA h
    obtain ⟨xs, h1, h2⟩ := qD (l := l) h
    exact ⟨x :: xs, ⟨⟨k, ver, cells, h0, hk, hx⟩, h1⟩, h2⟩
   ·exact h.elim
  ·exact h.elim
def FinK (C : Ctx) (rl : List ResultVar) (r : AV) (x : Exit) (st : St) : Prop :=
 match x with
 | .normal | .ret => resG st C.P rl fun xs => resV xs = r
 | _ => False
theorem aKv {C : Ctx} (T : List (Ct C)) {f : Nat} {fn : Func} {body : Code} {args : List AV} {r : AV} (hf : C.P.funcs[f]? = some fn) (hb : fn.body = some body) {nt : Nat} (hnt : fn.ntmps = nt) (hn : args.length ≤ nt) {rl : List ResultVar} (hr : fn.results = rl.toArray) (hw : bK bR r = true)
  (h : Rn C T [.c body] ⟨nt, argT 0 args, []⟩ (FinK C rl r)) : FC C f args [] r [] := by
 subst hnt
 refine Gd hf hb hn (nF (h : lwp C body _ (ck C [] (FinK C rl r))) fun x s hx => ?_)
 have hx' : FinK C rl r x s := by cases x <;> exact hx
 have key : ∀ (hq : resG s C.P rl fun xs => resV xs = r) (hx : x = .normal ∨ x = .ret), Fin C fn r [] x s := fun hq hx => by
  obtain ⟨xs, h1, h2⟩ := qD hq
  exact Zg hx hr h1 h2.symm hw
 cases x with
 | normal => exact key hx' (.inl rfl)
 | ret => exact key hx' (.inr rfl)
 | _ => exact hx'.elim
attribute [irreducible] Rn Rd
end Go.Proofs.YtbhnmolmkembdaaGreatDoor
