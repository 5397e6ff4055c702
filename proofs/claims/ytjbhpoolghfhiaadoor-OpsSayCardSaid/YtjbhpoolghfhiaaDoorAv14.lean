/- Appending does what is told of it; all operations together. No condition: plain lemmas. -/
import Derived.Test.YtjbhpoolghfhiaaDoorAv13
namespace Go.Proofs.YtjbhpoolghfhiaaDoor
set_option linter.unusedVariables false
set_option linter.unusedSimpArgs false
set_option maxHeartbeats 10000000
open Go

theorem run_append_own2 {P : Program} (w : World) (t ty e : TypeId) (i : TypeInfo) (z : Value) (size bytes : Nat) (ht : P.underlying t = some (.slice e)) (hi : P.info? e = some i) (hz : i.zero = some z)
    (hsize : i.size = size) (hby : i.bytes = bytes) (hzs : z.cells.size = size) (hsz : 0 < size)
    (v : Value) (n : Nat) (xs : List Value) (hown : w.ownsRow 0 e size v n xs)
    (a : Addr) (m c : Nat) (news : List Value) (hl : news.length = m * size) (hnews : ∀ j u, news[j]? = some u → w.cell? (a.add j) = some u) (h1 : ∀ u ∈ news, u.oneCell' = true)
    (h63 : n + m ≤ maxLen) (hbytes : (n + m) * bytes ≤ 140737488355328) :
    ∃ v' w', (Builtin.append_ #[t, t] ty #[v, .slice (some a) m c]).run P w = .ok v' w' ∧ w'.ownsRow 0 e size v' (n + m) (xs ++ news) ∧ w.grownBy w' v.ownBlock ∧
      (∀ b, v'.ownBlock = some b → v.ownBlock = some b ∨ w.heap.size ≤ b) := by
  obtain ⟨v', w', r1, r2, r3, _⟩ := run_append_own (P := P) w 0 t ty e i z size bytes ht hi hz hsize hby hzs hsz v n xs hown a m c news hl hnews h1 h63 hbytes (Nat.zero_le _)
  refine ⟨v', w', r1, r2, r3, fun b hb => ?_⟩
  rcases hown.2 with ⟨rfl, rfl⟩ | ⟨g, cap, cur, rfl, hbg, hg, hnc, hcm, hcs, htake⟩
  · right
    have hx : xs = [] := List.eq_nil_of_length_eq_zero (by simpa using hown.1)
    subst hx
    obtain ⟨v2, w2, q1, q2, _, _⟩ := run_append_own (P := P) w w.heap.size t ty e i z size bytes ht hi hz hsize hby hzs hsz (.slice none 0 0) 0 [] (World.ownsRow_nil w _ e size) a m c news hl hnews h1 h63 hbytes (Nat.le_refl _)
    rw [r1] at q1
    simp only [Result.ok.injEq] at q1
    obtain ⟨rfl, rfl⟩ := q1
    exact (q2.lt b hb).1
  · subst hsize
    by_cases hroom : n + m ≤ cap
    · left
      have hfit : n * i.size + news.length ≤ cur.size := by rw [hl, hcs, ← Nat.add_mul]; exact Nat.mul_le_mul_right _ hroom
      have hr := run_append_room (P := P) w t ty e i ht hi g n cap cur hg a m c news hl hnews h1 hroom hfit
      rw [r1] at hr
      simp only [Result.ok.injEq] at hr
      rw [hr.1] at hb
      exact hb
    · right
      have holds : ∀ j u, xs[j]? = some u → w.cell? ((⟨g, 0, none⟩ : Addr).add j) = some u := hown.cells (g := g) rfl
      have hr := run_append_grow (P := P) w t ty e i z ht hi hz ⟨g, 0, none⟩ n cap xs hown.1 holds a m c news hl hnews (by omega) (by simp only [maxLen] at h63; omega) (growslice_fits (by omega) (by rw [hby]; exact hbytes))
      rw [r1] at hr
      simp only [Result.ok.injEq] at hr
      rw [hr.1] at hb
      simp [Value.ownBlock] at hb
      omega

theorem own_hblock {v : Value} {b : Nat} (h : v.ownBlock = some b) : hblock v = some b := by
  cases v <;> simp [Value.ownBlock] at h
  rename_i o _ _
  cases o <;> simp at h
  simp [hblock, h]

theorem hblock_own {w : World} {base e size n : Nat} {v : Value} {xs : List Value} (h : w.ownsRow base e size v n xs) : hblock v = v.ownBlock := by
  rcases h.2 with ⟨rfl, _⟩ | ⟨g, cap, cur, rfl, _⟩ <;> rfl

section
variable {C : Ctx}

/-- What a source of an append has, in a world. -/
structure Src (cur : Nat → Nat) (g : Gh) (w : World) (N : Nat → Prop) (sz : Nat) (news : List (List AV)) (v : Value) : Prop where
  rows : ∀ row ∈ news, row.length = sz
  val : (v = .slice none 0 0 ∧ news = []) ∨ ∃ (a : Addr) (c : Nat) (xs : List Value), v = .slice (some a) news.length c ∧ xs.length = news.length * sz ∧ (∀ j u, xs[j]? = some u → w.cell? (a.add j) = some u) ∧
    ∀ (i j : Nat) (row : List AV) (x : AV) (y : Value), news[i]? = some row → row[j]? = some x → xs[i * sz + j]? = some y → AR cur g w N x y

theorem divmod {p n sz : Nat} (h : p < n * sz) : p / sz < n ∧ p % sz < sz ∧ p / sz * sz + p % sz = p := by
  have hs : 0 < sz := by rcases Nat.eq_zero_or_pos sz with rfl | h0; simp at h; exact h0
  refine ⟨(Nat.div_lt_iff_lt_mul hs).2 h, Nat.mod_lt _ hs, ?_⟩
  rw [Nat.mul_comm]; exact Nat.div_add_mod p sz

theorem src_rs {e : Env} {st : St} {g : Gh} {a : Act} {w : World} (_h : SR C e st g a w) {sz : Nat} {rows : List (List RV)} {v : Value} (hv : AR st.cur g w (e.N st g) (.r (.rs sz rows)) v) : Src st.cur g w (e.N st g) sz (rows.map fun r => r.map .r) v := by
  cases hv with | r hv => cases hv with
    | nil => exact ⟨by simp, .inl ⟨rfl, rfl⟩⟩
    | rs _ _ ad cap c hb hcap hw hc hr =>
      refine ⟨fun row hrow => ?_, ?_⟩
      · obtain ⟨r, hr', rfl⟩ := List.mem_map.1 hrow
        simpa using hw r hr'
      · by_cases hne : rows = []
        · subst hne
          exact .inr ⟨ad, cap, [], rfl, by simp, by simp, by simp⟩
        · refine .inr ⟨ad, cap, (List.range (rows.length * sz)).map fun p => c (p / sz) (p % sz), by simp, by simp, fun j u hu => ?_, fun i j row x y hi hj hy => ?_⟩
          · rw [List.getElem?_map] at hu
            cases hj : (List.range (rows.length * sz))[j]? with
            | none => simp [hj] at hu
            | some q =>
              have hlt : j < rows.length * sz := by simpa using (List.getElem?_eq_some_iff.1 hj).1
              have hq : q = j := by simpa [hlt] using hj.symm
              subst hq
              simp [hj] at hu
              subst hu
              obtain ⟨d1, d2, d3⟩ := divmod hlt
              rw [addr_eta (hb hne).2.2, addr_add, ← d3]
              rw [d3]
              have := hc _ _ d1 d2
              rw [d3] at this
              exact this
          · rw [List.getElem?_map] at hi
            cases hri : rows[i]? with
            | none => simp [hri] at hi
            | some r0 =>
              simp [hri] at hi
              subst hi
              rw [List.getElem?_map] at hj
              cases hrj : r0[j]? with
              | none => simp [hrj] at hj
              | some x0 =>
                simp [hrj] at hj
                subst hj
                have hjs : j < sz := by rw [← hw r0 (List.mem_of_getElem? hri)]; exact (List.getElem?_eq_some_iff.1 hrj).1
                have hi' : i < rows.length := (List.getElem?_eq_some_iff.1 hri).1
                have hlt : i * sz + j < rows.length * sz := by
                  have := Nat.mul_le_mul_right sz (Nat.succ_le_of_lt hi')
                  rw [Nat.succ_mul] at this; omega
                have hs : 0 < sz := by omega
                have e1 : (i * sz + j) / sz = i := by rw [Nat.add_comm, Nat.add_mul_div_right _ _ hs, Nat.div_eq_of_lt hjs]; omega
                have e2 : (i * sz + j) % sz = j := by rw [Nat.add_comm, Nat.add_mul_mod_self_right, Nat.mod_eq_of_lt hjs]
                simp [hlt, e1, e2] at hy
                subst hy
                exact .r (hr i j r0 x0 hri hrj)

theorem src_ok {st : St} {x : AV} {sz : Nat} {K : List Loc → List (List AV) → Prop} (h : srcK st x sz K) : ∃ rx news, K rx news ∧
    ∀ (e : Env) (st' : St) (g : Gh) (a : Act) (w : World) (vx : Value), SR C e st' g a w → Ag rx st st' → AR st'.cur g w (e.N st' g) x vx → Src st'.cur g w (e.N st' g) sz news vx := by
  unfold srcK at h
  split at h
  · obtain ⟨rfl, h⟩ := h
    exact ⟨_, _, h, fun e st' g a w vx hs _ hx => src_rs hs hx⟩
  · exact ⟨_, _, h, fun e st' g a w vx hs _ hx => ⟨by simp, .inl ⟨inv_v hx, rfl⟩⟩⟩
  · rename_i k ver
    split at h
    · rename_i cv el sz' rows hk
      obtain ⟨rfl, rfl, h⟩ := h
      refine ⟨_, _, h, fun e st' g a w vx hs ha hx => ?_⟩
      have hk' := (ha.R (k := k) (by simp)).trans hk
      obtain ⟨xs, hown, hw, har⟩ := sl_cells hs hk'
      have hv := inv_os hx (curk k hk').symm
      refine ⟨hw, ?_⟩
      rcases hown.2 with ⟨h4, h5⟩ | ⟨b, cap, cu, hv', hb0, hh, hnc, hcm, hcs, ht⟩
      · exact .inl ⟨hv.trans h4, List.length_eq_zero_iff.1 h5⟩
      · refine .inr ⟨⟨b, 0, none⟩, cap, xs, hv.trans hv', hown.1, fun j u hu => ?_, har⟩
        exact hown.cells (g := b) (by rw [hv']; rfl) j u hu
    · exact h.elim
  · exact h.elim

/-- An owned slice, appended to. -/
theorem append_sl {e : Env} {st : St} {g : Gh} {a : Act} {w : World} (h : SR C e st g a w) (hok : e.ok C) {k t ty el sz ver : Nat} {rows news : List (List AV)} {v vx : Value} {xs : List Value} (hel : elemT C.P t = some el) (hk : knownT C.P el = true) (h0 : 0 < sizeT C.P el)
    {z : Value} (hz : zeroT C.P el = some z) (hzl : z.cells.size = sizeT C.P el) (hsz : sz = sizeT C.P el)
    (hown : w.ownsRow 0 el sz v rows.length xs) (hrows : ∀ row ∈ rows, row.length = sz) (har : ∀ (i j : Nat) (row : List AV) (x : AV) (y : Value), rows[i]? = some row → row[j]? = some x → xs[i * sz + j]? = some y → AR st.cur g w (e.N st g) x y)
    (hsrc : Src st.cur g w (e.N st g) sz news vx) (hoc : ∀ row ∈ news, ∀ c ∈ row, okCell c = true) (hlen : rows.length + news.length ≤ 9223372036854775807) (hby : (rows.length + news.length) * bytesT C.P el ≤ 140737488355328)
    (hver : ver = st.cur k + 1) (hblk : ∀ b, hblock v = some b → blk st g k = some b) :
    ∃ v' w', (Builtin.append_ #[t, t] ty #[v, vx]).run C.P w = .ok v' w' ∧ v'.oneCell' = true ∧ SR C e { st with rs := putR k (ver, .sl el sz (rows ++ news)) st.rs } (gput g k v') a w' := by
  subst hsz
  obtain ⟨_, i, hu', hi⟩ := known_info hk
  have hzi : i.zero = some z := by simpa [zeroT, hi] using hz
  have hisz : i.size = sizeT C.P el := by simp [sizeT, hi]
  have hib : i.bytes = bytesT C.P el := by simp [bytesT, hi]
  have hu := elem_of hel
  have fin : ∀ (v' : Value) (w' : World) (ys : List Value), w'.ownsRow 0 el (sizeT C.P el) v' (rows.length + news.length) (xs ++ ys) → w.grownBy w' v.ownBlock → (∀ b, v'.ownBlock = some b → v.ownBlock = some b ∨ w.heap.size ≤ b) →
      (∀ (i j : Nat) (row : List AV) (x : AV) (y : Value), news[i]? = some row → row[j]? = some x → ys[i * sizeT C.P el + j]? = some y → AR st.cur g w (e.N st g) x y) →
      v'.oneCell' = true ∧ SR C e { st with rs := putR k (ver, .sl el (sizeT C.P el) (rows ++ news)) st.rs } (gput g k v') a w' := by
    intro v' w' ys q1 q2 q3 q4
    have hvo := hblock_own hown
    have hv1 : v'.oneCell' = true := by
      rcases q1.2 with ⟨rfl, _⟩ | ⟨g, cap, cur, rfl, _⟩ <;> rfl
    refine ⟨hv1, (h.turn (w' := w') k ver (.sl el (sizeT C.P el) (rows ++ news)) v' q2.os q2.tape q2.output q2.size (fun b hb hne => q2.block b hb (fun hc => ?_)) (.inl (by omega)) (fun b _ hb => ?_) hok (fun st' g' hst hg hl => ?_)).1⟩
    · have : hblock v = some b := by rw [hvo]; exact hc.symm
      exact hne (hblk b this)
    · rw [hblock_own q1] at hb
      refine ⟨(q1.lt b hb).2, ?_⟩
      rcases q3 b hb with q | q
      · exact .inl (hblk b (by rw [hvo]; exact q))
      · exact .inr q
    · refine ⟨xs ++ ys, by rw [hg]; simpa [gput] using q1, fun row hrow => ?_, fun i j row x y hi hj hy => ?_⟩
      · rcases List.mem_append.1 hrow with hr | hr
        · exact hrows row hr
        · exact hsrc.rows row hr
      · have hjl := (List.getElem?_eq_some_iff.1 hj).1
        by_cases hir : i < rows.length
        · rw [List.getElem?_append_left hir] at hi
          have hrl := hrows row (List.mem_of_getElem? hi)
          have hlt : i * sizeT C.P el + j < xs.length := by
            rw [hown.1]
            have := Nat.mul_le_mul_right (sizeT C.P el) (Nat.succ_le_of_lt hir)
            rw [Nat.succ_mul] at this; omega
          rw [List.getElem?_append_left hlt] at hy
          exact hl _ _ (har i j row x y hi hj hy)
        · rw [List.getElem?_append_right (by omega)] at hi
          have hge : xs.length ≤ i * sizeT C.P el + j := by
            rw [hown.1]
            have := Nat.mul_le_mul_right (sizeT C.P el) (Nat.le_of_not_lt hir)
            omega
          rw [List.getElem?_append_right hge] at hy
          refine hl _ _ (q4 (i - rows.length) j row x y hi hj ?_)
          rw [← hy]; congr 1
          rw [hown.1, Nat.sub_mul]
          have := Nat.mul_le_mul_right (sizeT C.P el) (Nat.le_of_not_lt hir)
          omega
  rcases hsrc.val with ⟨rfl, rfl⟩ | ⟨ad, c, ys, rfl, hyl, hyc, hya⟩
  · refine ⟨v, w, run_append_owned_none (P := C.P) (w := w) 0 t ty el i (sizeT C.P el) hu hi v rows.length xs hown, ?_⟩
    refine fin v w [] (by simpa using hown) ⟨rfl, rfl, rfl, Nat.le_refl _, fun _ _ _ => rfl⟩ (fun b hb => .inl hb) (by simp)
  · have hone : ∀ u ∈ ys, u.oneCell' = true := fun u hu => by
      obtain ⟨p, hp, rfl⟩ := List.getElem_of_mem hu
      rw [hyl] at hp
      obtain ⟨d1, d2, d3⟩ := divmod hp
      have hr : news[p / sizeT C.P el]? = some news[p / sizeT C.P el] := List.getElem?_eq_getElem d1
      have hrl := hsrc.rows _ (List.mem_of_getElem? hr)
      have hx : news[p / sizeT C.P el][p % sizeT C.P el]? = some news[p / sizeT C.P el][p % sizeT C.P el] := List.getElem?_eq_getElem (by omega)
      have hy : ys[p / sizeT C.P el * sizeT C.P el + p % sizeT C.P el]? = some ys[p] := by rw [d3]; exact List.getElem?_eq_getElem _
      exact AR_one (hya _ _ _ _ _ hr hx hy) (hoc _ (List.mem_of_getElem? hr) _ (List.mem_of_getElem? hx))
    obtain ⟨v', w', r1, r2, r3, r4⟩ := run_append_own2 (P := C.P) w t ty el i z (sizeT C.P el) (bytesT C.P el) hu hi hzi hisz hib hzl h0 v rows.length xs hown ad news.length c ys hyl hyc hone (by simp only [maxLen]; omega) hby
    exact ⟨v', w', r1, fin v' w' ys r2 r3 r4 hya⟩

theorem appendK_ok {st : St} {d t : Nat} {s x : Operand} {o : Oper} {K : List Loc → List (Loc × Cont) → Prop} (hdst : o.dst = some d) {c : Call} (ho : o.op = .call c) (hc : c.callee = .builtin .append) (hca : c.args = #[s, x]) (hct : c.argTypes = #[t, t]) (hd : d < st.n)
    (h : appendK C.P d t st (ev st s) (ev st x) (rd [s, x]) K) :
    ∃ l outs, K l outs ∧ LStep C o st.n (l.map fun x => (x, st.get x)) outs := by
  unfold appendK at h
  split at h
  · exact h.elim
  · rename_i el hel
    obtain ⟨hkn, h0, h⟩ := h
    obtain ⟨z, hz, ⟨hzl, h⟩, hzr⟩ := zeroK_ok h
    obtain ⟨rx, news, ⟨hoc, h⟩, hsrc⟩ := src_ok (C := C) h
    replace hoc := okRows_mem hoc
    have run : ∀ (a : Act) (w w' : World) (v' : Value), (Builtin.append_ #[t, t] o.type #[a.eval s, a.eval x]).run C.P w = .ok v' w' → (execOp a.eval o).run C.P w = .ok (.value v') w' := fun a w w' v' hr => by
      simp [execOp, ho, resolve, hc, hca, hct, invoke, builtin, hr]
    split at h
    · rename_i k ver hse
      split at h
      · rename_i cv el' sz rows hk
        obtain ⟨rfl, rfl, rfl, hlen, hby, h⟩ := h
        refine ⟨_, _, h, fun e st' a w next Q hn ⟨heok, g, hs⟩ ha hnext => ?_⟩
        have ha0 := Agree_of.1 ha
        have hk' := (ha0.R (k := k) (by simp)).trans hk
        have harx : Ag rx st st' := fun y hy => ha0 y (by simp [hy])
        have hard : Ag (rd [s, x]) st st' := fun y hy => ha0 y (by simp [hy])
        have h1 := arg hs hard (x := s) (by simp)
        have h2 := arg hs hard (x := x) (by simp)
        rw [hse] at h1
        have hv := inv_os h1 (curk k hk').symm
        obtain ⟨xs, hown, hw, har⟩ := sl_cells hs hk'
        obtain ⟨v', w', r1, r2, r3⟩ := append_sl hs heok (ty := o.type) (ver := ver + 1) hel hkn h0 hz (by simpa using hzl) rfl hown hw har (hsrc e st' g a w _ hs harx h2) hoc hlen hby (by rw [curk k hk']) (fun b hb => by simp only [blk, hk']; exact hb)
        refine wp_val hdst (run a w w' v' (by rw [hv]; exact r1)) (hnext _ _ ⟨heok, _, r3.put (d := d) (v := v') (by show d < st'.n; omega) (.os k (ver + 1) _ r2 (.inr ⟨by simp [St.cur, lookR_put], by simp [gput]⟩))⟩)
      · exact h.elim
    · rename_i hse
      obtain ⟨hlen, hby, h⟩ := h
      refine ⟨_, _, h, fun e st' a w next Q hn ⟨heok, g, hs⟩ ha hnext => ?_⟩
      have ha0 := Agree_of.1 ha
      have hcur : st'.cur d = st.cur d := by simp [St.cur, ha0.R (k := d) (by simp)]
      have harx : Ag rx st st' := fun y hy => ha0 y (by simp [hy])
      have hard : Ag (rd [s, x]) st st' := fun y hy => ha0 y (by simp [hy])
      have h1 := arg hs hard (x := s) (by simp)
      have h2 := arg hs hard (x := x) (by simp)
      rw [hse] at h1
      have hv := inv_v h1
      obtain ⟨v', w', r1, r2, r3⟩ := append_sl hs heok (k := d) (ty := o.type) (ver := st.cur d + 1) (rows := []) (xs := []) (v := .slice none 0 0) hel hkn h0 hz (by simpa using hzl) rfl (World.ownsRow_nil w 0 el _) (by simp) (by simp) (hsrc e st' g a w _ hs harx h2) hoc (by simpa using hlen) (by simpa using hby) (by rw [hcur]) (fun b hb => by simp [hblock] at hb)
      simp only [List.nil_append] at r3
      refine wp_val hdst (run a w w' v' (by rw [hv]; exact r1)) (hnext _ _ ⟨heok, _, r3.put (d := d) (v := v') (by show d < st'.n; omega) (.os d (st.cur d + 1) _ r2 (.inr ⟨by simp [St.cur, lookR_put], by simp [gput]⟩))⟩)
    · exact h.elim

theorem val_ok {o : Oper} {st : St} {d : Nat} {K : List Loc → List (Loc × Cont) → Prop} (hdst : o.dst = some d) (hd : d < st.n) (h : valK C o.op st fun l x => K l [(.T d, .a x)]) :
    ∃ l outs, K l outs ∧ LStep C o st.n (l.map fun x => (x, st.get x)) outs := by
  obtain ⟨l, r, hK, h1⟩ := valK_ok h
  refine ⟨l, _, hK, LStep_val hdst hd fun e st' g a w hs ha => ?_⟩
  obtain ⟨v, w', r1, r2, r3⟩ := h1 e st' g a w hs (Agree_of.1 ha)
  exact ⟨v, w', r1, r2.heap, r2.os, r2.tape, r2.output, r3⟩

/-- Every operation does what is told of it. -/
theorem opK_ok {o : Oper} {st : St} {K : List Loc → List (Loc × Cont) → Prop} (h : opK C o st K) :
    ∃ l outs, K l outs ∧ LStep C o st.n (l.map fun x => (x, st.get x)) outs := by
  unfold opK at h
  split at h
  · rename_i hdst
    split at h
    · rename_i t x v ho; exact storeK_ok hdst ho h
    · exact h.elim
  · rename_i d hdst
    obtain ⟨hd, h⟩ := h
    split at h
    · rename_i t ho; exact alloc_ok hdst ho hd h.2
    · rename_i t x ho; exact box_ok hdst ho hd h
    · rename_i t len parts ho
      split at h
      · rename_i e hel; exact buildSlice_ok hdst ho hd hel h
      · exact h.elim
    · rename_i t x lo hi ho; exact sliceK_ok hdst ho hd h
    · rename_i t l c ho
      split at h
      · rename_i e n m hel hl hc; exact makeSlice_ok hdst ho hd hel hl hc h
      · exact h.elim
    · rename_i f first captured ho; exact makeFunc_ok hdst ho hd h
    · rename_i t ho; exact makeMap_ok hdst ho hd h
    · rename_i c ho
      split at h
      · rename_i s x t t' hc hca hct
        obtain ⟨rfl, h⟩ := h
        exact appendK_ok hdst ho hc (arr1 hca) (arr1 hct) hd h
      · exact val_ok hdst hd h
    · exact val_ok hdst hd h

/-- An operation of a list, told of states. -/
theorem lops_op {ops : Array Oper} {o : Oper} {l : List Oper} {st : St} {K : St → Prop} (hg : o.guard = none) (h : opK C o st fun _ outs => lops C ops l (st.upd outs) K) : lops C ops (o :: l) st K := by
  obtain ⟨rds, outs, hK, hs⟩ := opK_ok h
  exact lops_step hg hs (Agree_of.2 fun _ _ => rfl) hK

theorem lops_op_yes {ops : Array Oper} {o : Oper} {l : List Oper} {st : St} {K : St → Prop} {j d : Nat} {b : Bool} (hg : o.guard = some (j, b)) (hd : (ops[j]?).bind (·.dst) = some d)
    (hv : lookT d st.t = .r (.v (.bool b))) (h : opK C o st fun _ outs => lops C ops l (st.upd outs) K) : lops C ops (o :: l) st K := by
  obtain ⟨rds, outs, hK, hs⟩ := opK_ok h
  exact lops_guard_yes hg hd hv hs (Agree_of.2 fun _ _ => rfl) hK

end

end Go.Proofs.YtjbhpoolghfhiaaDoor
