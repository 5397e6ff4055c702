/- The operations that give a value do what is told of them: pointers, lengths, and all together. No condition: plain lemmas. -/
import Derived.Test.YtjbhpoolghfhiaaDoorAv8
namespace Go.Proofs.YtjbhpoolghfhiaaDoor
set_option linter.unusedVariables false
set_option linter.unusedSimpArgs false
set_option maxHeartbeats 10000000
open Go

/-- Two states agree on some places. -/
def Ag (l : List Loc) (st st' : St) : Prop := ∀ x ∈ l, st'.get x = st.get x

theorem Ag.left {l m : List Loc} {st st' : St} (h : Ag (l ++ m) st st') : Ag l st st' := fun x hx => h x (List.mem_append_left _ hx)
theorem Ag.right {l m : List Loc} {st st' : St} (h : Ag (l ++ m) st st') : Ag m st st' := fun x hx => h x (List.mem_append_right _ hx)

theorem Ag.R {l : List Loc} {st st' : St} (h : Ag l st st') {k : Nat} (hk : .R k ∈ l) : lookR k st'.rs = lookR k st.rs := by
  have := h _ hk
  simp only [St.get, Cont.s.injEq] at this
  exact Prod.ext this.1 this.2

theorem Ag.T {l : List Loc} {st st' : St} (h : Ag l st st') {d : Nat} (hk : .T d ∈ l) : lookT d st'.t = lookT d st.t := by
  have := h _ hk
  simpa [St.get] using this

theorem mem_rd {d : Nat} : ∀ {l : List Operand}, .tmp d ∈ l → Loc.T d ∈ rd l
  | x :: l, h => by
    rcases List.mem_cons.1 h with rfl | h
    · exact List.mem_cons_self
    · have := mem_rd h
      cases x <;> first | exact this | exact List.mem_cons_of_mem _ this

theorem Ag.ev {l : List Operand} {st st' : St} (h : Ag (rd l) st st') {x : Operand} (hx : x ∈ l) : ev st' x = ev st x := by
  cases x with
  | tmp d => exact h.T (mem_rd hx)
  | _ => rfl

/-- An operand of a state that agrees. -/
theorem arg {C : Ctx} {e : Env} {st st' : St} {g : Gh} {a : Act} {w : World} (h : SR C e st' g a w) {l : List Operand} (hl : Ag (rd l) st st') {x : Operand} (hx : x ∈ l) : AR st'.cur g w (e.N st' g) (ev st x) (a.eval x) := by
  rw [← hl.ev hx]; exact ev_ok h x

theorem held_rp {cur : Nat → Nat} {g : Gh} {w : World} {N : Nat → Prop} {row : List RV} {v : Value} (h : AR cur g w N (.r (.rp row)) v) : Held cur g w N v (row.map .r) := by
  cases h with | r h => cases h with
    | rp _ a c hb hc hr =>
      refine ⟨a, c, rfl, fun hne => (hb (by simpa using hne)).2.2, fun j x hx => ?_⟩
      rw [List.getElem?_map] at hx
      cases hj : row[j]? with
      | none => simp [hj] at hx
      | some y =>
        simp [hj] at hx; subst hx
        exact ⟨hc j (List.getElem?_eq_some_iff.1 hj).1, .r (hr j y hj)⟩

theorem Held.drop {cur : Nat → Nat} {g : Gh} {w : World} {N : Nat → Prop} {cs : List AV} {a : Addr} (h : Held cur g w N (.pointer (some a)) cs) (off : Nat) : Held cur g w N (.pointer (some ⟨a.block, a.off + off, none⟩)) (cs.drop off) := by
  obtain ⟨a', c, e, hs, hc⟩ := h
  simp only [Value.pointer.injEq, Option.some.injEq] at e
  subst e
  refine ⟨_, fun j => c (off + j), rfl, fun _ => rfl, fun j x hx => ?_⟩
  rw [List.getElem?_drop] at hx
  have := hc _ x hx
  simpa [Nat.add_assoc] using this

section
variable {C : Ctx} {e : Env} {st' : St} {g : Gh} {a : Act} {w : World}

theorem held_bx (h : SR C e st' g a w) {k ver : Nat} {cells : List AV} (hk : lookR k st'.rs = (ver, .bx cells)) : ∃ b, g k = .pointer (some ⟨b, 0, none⟩) ∧ Held st'.cur g w (e.N st' g) (.pointer (some ⟨b, 0, none⟩)) cells := by
  have := h.res k
  rw [hk] at this
  obtain ⟨b, C', el, h1, h2, h3, h4⟩ := this
  refine ⟨b, h1, ⟨b, 0, none⟩, fun j => C'.getD j undef, rfl, fun _ => rfl, fun j x hx => ?_⟩
  have hj : j < C'.size := by rw [h3]; exact (List.getElem?_eq_some_iff.1 hx).1
  have hcj : C'[j]? = some C'[j] := Array.getElem?_eq_getElem hj
  refine ⟨?_, ?_⟩
  · simp [World.cell?, h2, hj]
  · have : C'.getD j undef = C'[j] := by simp [hj]
    show AR _ _ _ _ x (C'.getD j undef)
    rw [this]; exact h4 j x _ hx hcj

theorem inv_os {cur : Nat → Nat} {N : Nat → Prop} {k ver : Nat} {v : Value} (h : AR cur g w N (.os k ver) v) (hv : ver = cur k) : v = g k := by
  cases h with | os _ _ _ _ h => rcases h with h | h
                                 · omega
                                 · exact h.2

theorem inv_rf {cur : Nat → Nat} {N : Nat → Prop} {k ver off : Nat} {v : Value} (h : AR cur g w N (.rf k ver off) v) (hv : ver = cur k) : ∃ b, g k = .pointer (some ⟨b, 0, none⟩) ∧ v = .pointer (some ⟨b, off, none⟩) := by
  cases h with | rf _ _ _ _ _ h => rcases h with h | h
                                   · omega
                                   · exact h.2

theorem inv_re {cur : Nat → Nat} {N : Nat → Prop} {k ver sz i off : Nat} {v : Value} (h : AR cur g w N (.re k ver sz i off) v) (hv : ver = cur k) : ∃ b n c, g k = .slice (some ⟨b, 0, none⟩) n c ∧ v = .pointer (some ⟨b, i * sz + off, none⟩) := by
  cases h with | re _ _ _ _ _ _ _ h => rcases h with h | h
                                       · omega
                                       · exact h.2

theorem curk (k : Nat) {ver : Nat} {r : Res} (hk : lookR k st'.rs = (ver, r)) : st'.cur k = ver := by simp [St.cur, hk]

/-- An owned slice's cells, row by row. -/
theorem sl_cells (h : SR C e st' g a w) {k ver el sz : Nat} {rows : List (List AV)} (hk : lookR k st'.rs = (ver, .sl el sz rows)) :
    ∃ xs, w.ownsRow 0 el sz (g k) rows.length xs ∧ (∀ row ∈ rows, row.length = sz) ∧ ∀ (i j : Nat) (row : List AV) (x : AV) (y : Value), rows[i]? = some row → row[j]? = some x → xs[i * sz + j]? = some y → AR st'.cur g w (e.N st' g) x y := by
  have := h.res k
  rwa [hk] at this

theorem held_sl (h : SR C e st' g a w) {k ver el sz : Nat} {rows : List (List AV)} (hk : lookR k st'.rs = (ver, .sl el sz rows)) {i : Nat} (hi : i < rows.length) :
    ∃ b c, g k = .slice (some ⟨b, 0, none⟩) rows.length c ∧ Held st'.cur g w (e.N st' g) (.pointer (some ⟨b, i * sz, none⟩)) (rows.getD i []) := by
  obtain ⟨xs, h1, h2, h3⟩ := sl_cells h hk
  rcases h1.2 with ⟨_, h4⟩ | ⟨b, cap, cur, hv, hb, hh, hn, hm, hcs, ht⟩
  · omega
  · refine ⟨b, cap, hv, ⟨b, i * sz, none⟩, fun j => xs.getD (i * sz + j) undef, rfl, fun _ => rfl, fun j x hx => ?_⟩
    have hrow : rows[i]? = some (rows.getD i []) := by simp [hi]
    have hlen : (rows.getD i []).length = sz := h2 _ (List.mem_of_getElem? hrow)
    have hj : j < sz := by rw [← hlen]; exact (List.getElem?_eq_some_iff.1 hx).1
    have hlt : i * sz + j < xs.length := by
      rw [h1.1]
      have : (i + 1) * sz ≤ rows.length * sz := Nat.mul_le_mul_right _ hi
      have : (i + 1) * sz = i * sz + sz := Nat.succ_mul i sz
      omega
    have hx' : xs[i * sz + j]? = some xs[i * sz + j] := List.getElem?_eq_getElem hlt
    have hd : xs.getD (i * sz + j) undef = xs[i * sz + j] := by simp [hlt]
    show _ = some (xs.getD (i * sz + j) undef) ∧ AR _ _ _ _ x (xs.getD (i * sz + j) undef)
    rw [hd]
    refine ⟨?_, h3 i j _ x _ hrow hx hx'⟩
    have hc := h1.cells (g := b) (by rw [hv]; rfl) (i * sz + j) _ hx'
    rw [addr_add] at hc
    simpa using hc

theorem derefK_ok {st : St} {t : Nat} {x : AV} {K : List Loc → AV → Prop} (h : derefK C.P st t x K) : ∃ l r, K l r ∧
    ∀ (e : Env) (st' : St) (g : Gh) (a : Act) (w : World) (vx : Value), SR C e st' g a w → Ag l st st' → AR st'.cur g w (e.N st' g) x vx → ∃ u, (Instr.loadAt t vx).run C.P w = .ok u w ∧ AR st'.cur g w (e.N st' g) r u := by
  unfold derefK at h
  split at h
  · obtain ⟨r, h1, h2⟩ := loadK_ok h
    exact ⟨_, r, h1, fun e st' g a w vx _ _ hx => run_load_of h2 (held_rp hx)⟩
  · rename_i k ver
    split at h
    · rename_i cv cells hk
      obtain ⟨rfl, h⟩ := h
      obtain ⟨r, h1, h2⟩ := loadK_ok h
      refine ⟨_, r, h1, fun e st' g a w vx hs ha hx => ?_⟩
      have hk' := (ha.R (k := k) (by simp)).trans hk
      obtain ⟨b, hb, hh⟩ := held_bx hs hk'
      rw [inv_os hx (curk k hk').symm, hb]
      exact run_load_of h2 hh
    · exact h.elim
  · rename_i k ver off
    split at h
    · rename_i cv cells hk
      obtain ⟨rfl, h⟩ := h
      obtain ⟨r, h1, h2⟩ := loadK_ok h
      refine ⟨_, r, h1, fun e st' g a w vx hs ha hx => ?_⟩
      have hk' := (ha.R (k := k) (by simp)).trans hk
      obtain ⟨b, hb, hh⟩ := held_bx hs hk'
      obtain ⟨b', hb', rfl⟩ := inv_rf hx (curk k hk').symm
      have : b' = b := by rw [hb] at hb'; simp at hb'; exact hb'.symm
      subst this
      have := hh.drop off
      simp only [Nat.zero_add] at this
      exact run_load_of h2 this
    · exact h.elim
  · rename_i k ver sz i off
    split at h
    · rename_i cv el sz' rows hk
      obtain ⟨rfl, rfl, hi, h⟩ := h
      obtain ⟨r, h1, h2⟩ := loadK_ok h
      refine ⟨_, r, h1, fun e st' g a w vx hs ha hx => ?_⟩
      have hk' := (ha.R (k := k) (by simp)).trans hk
      obtain ⟨b, c, hb, hh⟩ := held_sl hs hk' hi
      obtain ⟨b', n, c', hb', rfl⟩ := inv_re hx (curk k hk').symm
      have : b' = b := by rw [hb] at hb'; simp at hb'; exact hb'.1.symm
      subst this
      exact run_load_of h2 (hh.drop off)
    · exact h.elim
  · exact h.elim

theorem run_fieldAt {P : Program} {s f off n : Nat} (hf : fieldT P s f = some (off, n)) (hn : n ≠ 0) (w : World) (a : Addr) (ha : a.spot = none) : (Instr.fieldAt s (.pointer (some a)) f).run P w = .ok (.pointer (some ⟨a.block, a.off + off, none⟩)) w := by
  obtain ⟨fs, x, hu, hx, ho, hs⟩ := field_of hf
  obtain ⟨i, hi, his⟩ := known_of_size hs hn
  have h1 : (sizeOf x.type).run P w = .ok n w := by simp [sizeOf, typeInfo, hi, his]
  simp only [Instr.fieldAt, Sem.run_bind, run_underlying hu, Result.andThen_ok, hx, Instr.sureAddr, Sem.run_pure, fieldPlace, h1, hn, if_false]
  rw [addr_eta ha, addr_add, ho]

theorem row_spot {row : List RV} {cur : Nat → Nat} {N : Nat → Prop} {a : Addr} (h : AR cur g w N (.r (.rp row)) (.pointer (some a))) (hr : row ≠ []) : a.spot = none := by
  cases h with | r h => cases h with | rp _ _ _ hb _ _ => exact (hb hr).2.2

theorem rp_drop {row : List RV} {cur : Nat → Nat} {N : Nat → Prop} {a : Addr} (h : AR cur g w N (.r (.rp row)) (.pointer (some a))) (off : Nat) : AR cur g w N (.r (.rp (row.drop off))) (.pointer (some ⟨a.block, a.off + off, none⟩)) := by
  cases h with | r h => cases h with | rp _ _ c hb hc hr =>
    refine .r (.rp _ _ (fun j => c (off + j)) (fun hne => ?_) (fun j hj => ?_) (fun j x hx => ?_))
    · have : row ≠ [] := by intro e; simp [e] at hne
      exact ⟨(hb this).1, (hb this).2.1, rfl⟩
    · have := hc (off + j) (by simp at hj; omega)
      simpa [Nat.add_assoc] using this
    · rw [List.getElem?_drop] at hx; exact hr _ x hx

theorem fieldAddrK_ok {st : St} {s f : Nat} {x : AV} {K : List Loc → AV → Prop} (h : fieldAddrK C.P st s f x K) : ∃ l r, K l r ∧
    ∀ (e : Env) (st' : St) (g : Gh) (a : Act) (w : World) (vx : Value), SR C e st' g a w → Ag l st st' → AR st'.cur g w (e.N st' g) x vx → ∃ u, (Instr.fieldAt s vx f).run C.P w = .ok u w ∧ AR st'.cur g w (e.N st' g) r u := by
  unfold fieldAddrK at h
  split at h
  · exact h.elim
  · rename_i off n hf
    obtain ⟨hn, h⟩ := h
    split at h
    · rename_i row
      refine ⟨_, _, h.2, fun e st' g a w vx _ _ hx => ?_⟩
      obtain ⟨ad, rfl⟩ := inv_rp hx
      have hne : row ≠ [] := by intro e; simp [e] at h
      exact ⟨_, run_fieldAt hf hn w ad (row_spot hx hne), rp_drop hx off⟩
    · rename_i k ver
      split at h
      · rename_i cv cells hk
        obtain ⟨rfl, h⟩ := h
        refine ⟨_, _, h, fun e st' g a w vx hs ha hx => ?_⟩
        have hk' := (ha.R (k := k) (by simp)).trans hk
        obtain ⟨b, hb, hh⟩ := held_bx hs hk'
        rw [inv_os hx (curk k hk').symm, hb]
        refine ⟨_, run_fieldAt hf hn w ⟨b, 0, none⟩ rfl, .rf _ _ _ _ rfl (.inr ⟨(curk k hk').symm, b, hb, by simp⟩)⟩
      · exact h.elim
    · rename_i k ver o
      obtain ⟨hv, h⟩ := h
      refine ⟨_, _, h, fun e st' g a w vx hs ha hx => ?_⟩
      have hc : st'.cur k = st.cur k := by simp [St.cur, ha.R (k := k) (by simp)]
      obtain ⟨b, hb, rfl⟩ := inv_rf hx (by omega)
      exact ⟨_, run_fieldAt hf hn w ⟨b, o, none⟩ rfl, .rf _ _ _ _ rfl (.inr ⟨by omega, b, hb, rfl⟩)⟩
    · rename_i k ver sz i o
      obtain ⟨hv, h⟩ := h
      refine ⟨_, _, h, fun e st' g a w vx hs ha hx => ?_⟩
      have hc : st'.cur k = st.cur k := by simp [St.cur, ha.R (k := k) (by simp)]
      obtain ⟨b, n', c', hb, rfl⟩ := inv_re hx (by omega)
      exact ⟨_, run_fieldAt hf hn w ⟨b, i * sz + o, none⟩ rfl, .re _ _ _ _ _ _ rfl (.inr ⟨by omega, b, n', c', hb, by simp [Nat.add_assoc]⟩)⟩
    · exact h.elim

theorem rs_index {sz : Nat} {rows : List (List RV)} {cur : Nat → Nat} {N : Nat → Prop} {v : Value} (h : AR cur g w N (.r (.rs sz rows)) v) {i : Nat} (hi : i < rows.length) :
    ∃ a cap, v = .slice (some a) rows.length cap ∧ a.spot = none ∧ AR cur g w N (.r (.rp (rows.getD i []))) (.pointer (some ⟨a.block, a.off + i * sz, none⟩)) := by
  cases h with | r h => cases h with
    | nil => simp at hi
    | rs _ _ a cap c hb hcap hw hc hr =>
      have hne : rows ≠ [] := by intro e; simp [e] at hi
      have hrow : rows[i]? = some (rows.getD i []) := by simp [hi]
      have hlen : (rows.getD i []).length = sz := hw _ (List.mem_of_getElem? hrow)
      refine ⟨a, cap, rfl, (hb hne).2.2, .r (.rp _ _ (c i) (fun _ => ⟨(hb hne).1, (hb hne).2.1, rfl⟩) (fun j hj => ?_) (fun j x hx => hr i j _ x hrow hx))⟩
      have := hc i j hi (by omega)
      simpa [Nat.add_assoc] using this

theorem indexAddrK_ok {st : St} {t : Nat} {x : AV} {i : Int} {k0 : IntKind} {K : List Loc → AV → Prop} (h : indexAddrK C.P st t x i K) : ∃ l r, K l r ∧
    ∀ (e : Env) (st' : St) (g : Gh) (a : Act) (w : World) (vx : Value), SR C e st' g a w → Ag l st st' → AR st'.cur g w (e.N st' g) x vx → ∃ u, (Instr.indexAt t vx (.int k0 i)).run C.P w = .ok u w ∧ AR st'.cur g w (e.N st' g) r u := by
  unfold indexAddrK at h
  split at h
  · rename_i sz rows
    split at h
    · rename_i el hel
      obtain ⟨rfl, hk, h0, hi, h⟩ := h
      refine ⟨_, _, h, fun e st' g a w vx _ _ hx => ?_⟩
      obtain ⟨ad, cap, rfl, hsp, h2⟩ := rs_index hx (i := i.toNat) (by omega)
      refine ⟨_, ?_, h2⟩
      have hu := elem_of hel
      simp only [Instr.indexAt, asIntOf, Sem.run_bind, Sem.run_pure, Result.andThen_ok, run_underlying hu, Nat.le_refl]
      simp [h0, hi, run_sizeOf' hk, run_underlying hu]
      rw [addr_eta hsp, addr_add]
    · exact h.elim
  · rename_i k ver
    split at h
    · rename_i cv el0 sz rows el hk hel
      obtain ⟨rfl, rfl, hkn, h0, hi, h⟩ := h
      refine ⟨_, _, h, fun e st' g a w vx hs ha hx => ?_⟩
      have hk' := (ha.R (k := k) (by simp)).trans hk
      obtain ⟨b, c, hb, hh⟩ := held_sl hs hk' (i := i.toNat) (by omega)
      rw [inv_os hx (curk k hk').symm, hb]
      have hu := elem_of hel
      refine ⟨_, ?_, .re _ _ _ _ _ _ rfl (.inr ⟨(curk k hk').symm, b, _, c, hb, rfl⟩)⟩
      simp only [Instr.indexAt, asIntOf, Sem.run_bind, Sem.run_pure, Result.andThen_ok, run_underlying hu]
      simp [h0, hi, run_sizeOf' hkn, run_underlying hu, addr_add]
    · exact h.elim
  · rename_i row
    split at h
    · rename_i n el hel
      obtain ⟨h0, hi, hkn, hlt, h⟩ := h
      refine ⟨_, _, h, fun e st' g a w vx _ _ hx => ?_⟩
      obtain ⟨ad, rfl⟩ := inv_rp hx
      have hne : row ≠ [] := by intro e; simp [e] at hlt
      refine ⟨_, ?_, rp_drop hx _⟩
      have hu := arr_of hel
      simp only [Instr.indexAt, asIntOf, Sem.run_bind, Sem.run_pure, Result.andThen_ok, run_underlying hu, Instr.sureAddr]
      simp [h0, hi, run_sizeOf' hkn, run_underlying hu]
      rw [addr_eta (row_spot hx hne), addr_add]
    · exact h.elim
  · exact h.elim

theorem sl_len {k ver el sz : Nat} {rows : List (List AV)} (h : SR C e st' g a w) (hk : lookR k st'.rs = (ver, .sl el sz rows)) : ∃ o c, g k = .slice o rows.length c ∧ (o = none → rows = [] ∧ c = 0) ∧ rows.length ≤ c := by
  obtain ⟨xs, h1, _, _⟩ := sl_cells h hk
  rcases h1.2 with ⟨h4, h5⟩ | ⟨b, cap, cur, hv, _, _, hn, _⟩
  · have h5' : rows = [] := List.length_eq_zero_iff.1 h5
    refine ⟨none, 0, ?_, fun _ => ⟨h5', rfl⟩, by simp [h5']⟩
    rw [h4, h5']; rfl
  · exact ⟨_, cap, hv, (by simp), hn⟩

theorem rs_len {sz : Nat} {rows : List (List RV)} {cur : Nat → Nat} {N : Nat → Prop} {v : Value} (h : AR cur g w N (.r (.rs sz rows)) v) : ∃ o c, v = .slice o rows.length c := by
  cases h with | r h => cases h with
    | nil => exact ⟨none, 0, rfl⟩
    | rs _ _ a cap => exact ⟨some a, cap, rfl⟩

theorem lenAV_ok {st : St} {t : Nat} {x : AV} {K : List Loc → AV → Prop} (h : lenAV st C.P t x K) : ∃ l r, K l r ∧
    ∀ (e : Env) (st' : St) (g : Gh) (a : Act) (w : World) (vx : Value) (ty : Nat), SR C e st' g a w → Ag l st st' → AR st'.cur g w (e.N st' g) x vx → ∃ u, (Builtin.len_ #[t] ty #[vx]).run C.P w = .ok u w ∧ AR st'.cur g w (e.N st' g) r u := by
  unfold lenAV at h
  split at h
  · obtain ⟨ht, h⟩ := h
    obtain ⟨el, hu⟩ := sliceT_of ht
    refine ⟨_, _, h, fun e st' g a w vx ty _ _ hx => ?_⟩
    obtain ⟨o, c, rfl⟩ := rs_len hx
    exact ⟨_, by simp [Builtin.len_, run_underlying hu, goInt], .r (.v _)⟩
  · obtain ⟨ht, h⟩ := h
    obtain ⟨el, hu⟩ := sliceT_of ht
    refine ⟨_, _, h, fun e st' g a w vx ty _ _ hx => ?_⟩
    rw [inv_v hx]
    exact ⟨_, by simp [Builtin.len_, run_underlying hu, goInt], .r (.v _)⟩
  · obtain ⟨ht, h⟩ := h
    obtain ⟨el, hu⟩ := sliceT_of ht
    refine ⟨_, _, h, fun e st' g a w vx ty _ _ hx => ?_⟩
    obtain ⟨o, c, rfl⟩ : ∃ o c, vx = .slice o _ c := by
      cases hx with | r hx => cases hx; exact ⟨_, _, rfl⟩
    exact ⟨_, by simp [Builtin.len_, run_underlying hu, goInt], .r (.v _)⟩
  · obtain ⟨ht, h⟩ := h
    refine ⟨_, _, h, fun e st' g a w vx ty _ _ hx => ?_⟩
    rw [inv_v hx]
    exact ⟨_, by simp [Builtin.len_, run_underlying (stringT_of ht), goInt], .r (.v _)⟩
  · rename_i k ver
    split at h
    · rename_i cv el sz rows hk
      obtain ⟨rfl, ht, h⟩ := h
      obtain ⟨el, hu⟩ := sliceT_of ht
      refine ⟨_, _, h, fun e st' g a w vx ty hs ha hx => ?_⟩
      have hk' := (ha.R (k := k) (by simp)).trans hk
      obtain ⟨o, c, hg, _, _⟩ := sl_len hs hk'
      rw [inv_os hx (curk k hk').symm, hg]
      exact ⟨_, by simp [Builtin.len_, run_underlying hu, goInt], .r (.v _)⟩
    · exact h.elim
  · exact h.elim

theorem nilCheckK_ok {st : St} {x : AV} {K : List Loc → AV → Prop} (h : nilCheckK st x K) : ∃ l r, K l r ∧
    ∀ (e : Env) (st' : St) (g : Gh) (a : Act) (w : World) (vx : Value), SR C e st' g a w → Ag l st st' → AR st'.cur g w (e.N st' g) x vx → ((∃ ad, vx = .pointer (some ad)) ∨ ∃ f vs, vx = .func (.func f) #[] vs) ∧ AR st'.cur g w (e.N st' g) r vx := by
  unfold nilCheckK at h
  split at h
  · exact ⟨_, _, h, fun e st' g a w vx _ _ hx => ⟨.inl (inv_rp hx), hx⟩⟩
  · refine ⟨_, _, h, fun e st' g a w vx _ _ hx => ⟨.inr ?_, hx⟩⟩
    cases hx with | r h => cases h with | fn _ _ vs => exact ⟨_, vs, rfl⟩
  · rename_i k ver
    split at h
    · rename_i cv cells hk
      obtain ⟨rfl, h⟩ := h
      refine ⟨_, _, h, fun e st' g a w vx hs ha hx => ?_⟩
      have hk' := (ha.R (k := k) (by simp)).trans hk
      obtain ⟨b, hb, hh⟩ := held_bx hs hk'
      have := inv_os hx (curk k hk').symm
      exact ⟨.inl ⟨_, by rw [this, hb]⟩, hx⟩
    · exact h.elim
  · rename_i k ver off
    obtain ⟨hv, h⟩ := h
    refine ⟨_, _, h, fun e st' g a w vx hs ha hx => ?_⟩
    have hc : st'.cur k = st.cur k := by simp [St.cur, ha.R (k := k) (by simp)]
    obtain ⟨b, hb, rfl⟩ := inv_rf hx (by omega)
    exact ⟨.inl ⟨_, rfl⟩, hx⟩
  · rename_i k ver sz i o
    obtain ⟨hv, h⟩ := h
    refine ⟨_, _, h, fun e st' g a w vx hs ha hx => ?_⟩
    have hc : st'.cur k = st.cur k := by simp [St.cur, ha.R (k := k) (by simp)]
    obtain ⟨b, n', c', hb, rfl⟩ := inv_re hx (by omega)
    exact ⟨.inl ⟨_, rfl⟩, hx⟩
  · exact h.elim

end

end Go.Proofs.YtjbhpoolghfhiaaDoor
