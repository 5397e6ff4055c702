/- The operations that make and write do what is told of them. No condition: plain lemmas. -/
import Derived.Test.YtjbhpoolghfhiaaDoorAv10
namespace Go.Proofs.YtjbhpoolghfhiaaDoor
set_option linter.unusedVariables false
set_option linter.unusedSimpArgs false
set_option maxHeartbeats 10000000
open Go

theorem Agree_of {l : List Loc} {st st' : St} : Agree st' (l.map fun x => (x, st.get x)) ↔ Ag l st st' := by
  constructor
  · intro h x hx
    exact h x _ (List.mem_map.2 ⟨x, hx, rfl⟩)
  · intro h x c hc
    obtain ⟨y, hy, he⟩ := List.mem_map.1 hc
    simp only [Prod.mk.injEq] at he
    obtain ⟨rfl, rfl⟩ := he
    exact h y hy

section
variable {C : Ctx}

/-- A new resource in a slot of its own, its handle in the slot. -/
theorem SR.fresh {e : Env} {st : St} {g : Gh} {a : Act} {w : World} (h : SR C e st g a w) (hok : e.ok C) {d : Nat} (hd : d < st.n) (o : Obj) (res : Res) (v : Value) (hv : hblock v = some w.heap.size) (hv1 : v.oneCell' = true)
    (hres : ∀ (cur : Nat → Nat) (g' : Gh) (N : Nat → Prop), g' d = v → (∀ x y, AR st.cur g w (e.N st g) x y → AR cur g' (w.alloc o) N x y) → ResR cur g' (w.alloc o) N d res) :
    SR C e (st.upd [(.R d, .s (st.cur d + 1) res), (.T d, .a (.os d (st.cur d + 1)))]) (gput g d v) (a.put (some d) v) (w.alloc o) := by
  have h1 := (h.turn (w' := w.alloc o) d (st.cur d + 1) res v rfl rfl rfl (by simp) (fun b hb _ => RowKit.Below.heap_alloc w o b hb) (.inl (by omega)) (fun b _ hb => by
    rw [hv] at hb; simp at hb; subst hb; exact ⟨by simp, .inr (Nat.le_refl _)⟩) hok (fun st' g' hst hg hl => hres st'.cur g' (e.N st' g') (by rw [hg]; simp [gput]) hl)).1
  exact h1.put (d := d) (v := v) hd (.os d (st.cur d + 1) v hv1 (.inr ⟨by simp [St.cur, lookR_put], by simp [gput]⟩))

theorem heap_new (w : World) (o : Obj) : (w.alloc o).heap[w.heap.size]? = some o := by
  show (w.heap.push o)[w.heap.size]? = some o
  simp

theorem wp_val {P : Program} {o : Oper} {d : Nat} {a : Act} {w w' : World} {v : Value} {next : Act → World → Prop} {Q : Exit → Act → World → Prop} (hd : o.dst = some d) (hr : (execOp a.eval o).run P w = .ok (.value v) w') (h : next (a.put (some d) v) w') : o.wp P a w next Q := by
  unfold Oper.wp
  rw [hr]
  show next (a.put o.dst v) w'
  rw [hd]; exact h

theorem alloc_ok {st : St} {d t : Nat} {o : Oper} {K : List Loc → List (Loc × Cont) → Prop} (hdst : o.dst = some d) (ho : o.op = .alloc t) (hd : d < st.n)
    (h : zeroCellsT C.P t fun z => okCells z = true ∧ K [.R d] [(.R d, .s (st.cur d + 1) (.bx z)), (.T d, .a (.os d (st.cur d + 1)))]) :
    ∃ l outs, K l outs ∧ LStep C o st.n (l.map fun x => (x, st.get x)) outs := by
  obtain ⟨z, hz, ⟨hok, hK⟩, hzr⟩ := zeroK_ok h
  refine ⟨_, _, hK, fun e st' a w next Q hn ⟨heok, g, hs⟩ ha hnext => ?_⟩
  replace ha := Agree_of.1 ha
  have hcur : st'.cur d = st.cur d := by simp [St.cur, ha.R (k := d) (by simp)]
  have hr : (execOp a.eval o).run C.P w = .ok (.value (.pointer (some ⟨w.heap.size, 0, none⟩))) (w.alloc (.cells z.cells t)) := by
    simp [execOp, ho, Instr.alloc, hzr, newVar, newRow]
  have key := hs.fresh heok (d := d) (by omega) (.cells z.cells t) (.bx (z.cells.toList.map fun v => .r (.v v))) (.pointer (some ⟨w.heap.size, 0, none⟩)) rfl rfl (fun cur g' N hg hl => by
    obtain ⟨p1, p2⟩ := PW_zero cur g' (w.alloc (.cells z.cells t)) N z.cells
    exact ⟨w.heap.size, z.cells, t, hg, heap_new w _, p1, p2⟩)
  rw [hcur] at key
  exact wp_val hdst hr (hnext _ _ ⟨heok, _, key⟩)

theorem box_ok {st : St} {d t : Nat} {x : Operand} {o : Oper} {K : List Loc → List (Loc × Cont) → Prop} (hdst : o.dst = some d) (ho : o.op = .box t x) (hd : d < st.n)
    (h : okCells (avCells (ev st x)) = true ∧ K (.R d :: rd [x]) [(.R d, .s (st.cur d + 1) (.bx (avCells (ev st x)))), (.T d, .a (.os d (st.cur d + 1)))]) :
    ∃ l outs, K l outs ∧ LStep C o st.n (l.map fun x => (x, st.get x)) outs := by
  refine ⟨_, _, h.2, fun e st' a w next Q hn ⟨heok, g, hs⟩ ha hnext => ?_⟩
  replace ha := Agree_of.1 ha
  have hcur : st'.cur d = st.cur d := by simp [St.cur, ha.R (k := d) (by simp)]
  have hx := arg hs (l := [x]) (fun y hy => ha y (List.mem_cons_of_mem _ hy)) (x := x) (by simp)
  obtain ⟨c1, c2, c3⟩ := AR_cells hx h.1
  have hr : (execOp a.eval o).run C.P w = .ok (.value (.pointer (some ⟨w.heap.size, 0, none⟩))) (w.alloc (.cells (a.eval x).cells t)) := by
    simp [execOp, ho, Instr.box, newVar, newRow]
  have key := hs.fresh heok (d := d) (by omega) (.cells (a.eval x).cells t) (.bx (avCells (ev st x))) (.pointer (some ⟨w.heap.size, 0, none⟩)) rfl rfl (fun cur g' N hg hl =>
    ⟨w.heap.size, (a.eval x).cells, t, hg, heap_new w _, c1, fun j x y hj hy => hl _ _ (c2 j x y hj hy)⟩)
  rw [hcur] at key
  exact wp_val hdst hr (hnext _ _ ⟨heok, _, key⟩)

/-- Values written over. -/
def over (xs : List Value) (p : Nat) (vs : List Value) : List Value := xs.take p ++ vs ++ xs.drop (p + vs.length)

theorem over_len {xs : List Value} {p : Nat} {vs : List Value} (h : p + vs.length ≤ xs.length) : (over xs p vs).length = xs.length := by
  simp [over]; omega

theorem over_get {xs : List Value} {p : Nat} {vs : List Value} (h : p + vs.length ≤ xs.length) (k : Nat) : (over xs p vs)[k]? = if p ≤ k ∧ k < p + vs.length then vs[k - p]? else xs[k]? := by
  have hp : (xs.take p).length = p := by simp; omega
  unfold over
  rw [List.append_assoc]
  by_cases h1 : k < p
  · rw [List.getElem?_append_left (by omega), if_neg (by omega), List.getElem?_take_of_lt h1]
  · rw [List.getElem?_append_right (by omega), hp]
    by_cases h2 : k < p + vs.length
    · rw [List.getElem?_append_left (by omega), if_pos (by omega)]
    · rw [List.getElem?_append_right (by omega), if_neg (by omega), List.getElem?_drop]
      congr 1; omega

theorem run_storeAt' {P : Program} {t : Nat} (hk : knownT P t = true) (w : World) (b off el : Nat) (cur : Array Value) (hh : w.heap[b]? = some (.cells cur el (0, 0))) (v : Value) (hsz : v.cells.size = sizeT P t) (hfit : off + v.cells.size ≤ cur.size) (h1 : ∀ u ∈ v.cells.toList, u.oneCell' = true) :
    (Instr.storeAt t (.pointer (some ⟨b, off, none⟩)) v).run P w = .ok () (w.setRow b (over cur.toList off v.cells.toList).toArray) := by
  have := run_storeCells_at P b off el v.cells.toList 0 cur w hh (by simpa using hfit) h1
  simp only [Instr.storeAt, Instr.sureAddr, storeVar, Sem.run_bind, Sem.run_pure, Result.andThen_ok, run_sizeOf' hk]
  rw [if_neg (by simpa using hsz)]
  simpa [over] using this

theorem blk_bx {st : St} {g : Gh} {k ver b : Nat} {cells : List AV} (hk : lookR k st.rs = (ver, .bx cells)) (hb : g k = .pointer (some ⟨b, 0, none⟩)) : blk st g k = some b := by
  simp [blk, hk, hb, hblock]

theorem putR_same {st : St} {g : Gh} (k : Nat) : gput g k (g k) = g := by
  funext j; unfold gput; split
  · rename_i h; rw [h]
  · rfl

/-- A store into a box. -/
theorem store_bx {e : Env} {st : St} {g : Gh} {a : Act} {w : World} (h : SR C e st g a w) (hok : e.ok C) {k ver b off t : Nat} {cells : List AV} (hk : lookR k st.rs = (ver, .bx cells)) (hb : g k = .pointer (some ⟨b, 0, none⟩))
    {x : AV} {v : Value} (hx : AR st.cur g w (e.N st g) x v) (hxo : okCells (avCells x) = true) (hl : (avCells x).length = sizeT C.P t) (hkn : knownT C.P t = true) (hfit : off + sizeT C.P t ≤ cells.length) :
    ∃ w', (Instr.storeAt t (.pointer (some ⟨b, off, none⟩)) v).run C.P w = .ok () w' ∧ SR C e { st with rs := putR k (ver, .bx (splice cells off (avCells x))) st.rs } g a w' := by
  have hres := h.res k
  rw [hk] at hres
  obtain ⟨b', cu, el, h1, h2, h3, h4⟩ := hres
  have : b' = b := by rw [hb] at h1; simp at h1; exact h1.symm
  subst this
  obtain ⟨c1, c2, c3⟩ := AR_cells hx hxo
  refine ⟨_, run_storeAt' hkn w b' off el cu h2 v (by omega) (by omega) c3, ?_⟩
  have hover : off + v.cells.toList.length ≤ cu.toList.length := by simp; omega
  have := (h.turn (w' := w.setRow b' (over cu.toList off v.cells.toList).toArray) k ver (.bx (splice cells off (avCells x))) (g k) rfl rfl rfl (by simp)
    (fun c hc hne => setRow_other w b' c _ (fun e => hne (by rw [e]; exact blk_bx hk hb))) (.inr ⟨by simp [St.cur, hk], rfl⟩)
    (fun c _ hc => by rw [hb] at hc; simp [hblock] at hc; subst hc; exact ⟨by simpa using (h.low k _ (blk_bx hk hb)).2.1, .inl (blk_bx hk hb)⟩) hok
    (fun st' g' hst hg hlift => by
      refine ⟨b', _, el, by rw [hg]; simp [gput, hb], setRow_heap w b' cu _ el _ h2, by simp only [List.size_toArray]; rw [over_len hover, splice_len _ _ _ (by omega)]; simpa using h3, fun j y u hj hu => ?_⟩
      rw [splice_get _ _ _ (by omega)] at hj
      rw [List.getElem?_toArray, over_get hover] at hu
      by_cases hin : off ≤ j ∧ j < off + (avCells x).length
      · rw [if_pos hin] at hj
        rw [if_pos (by simpa [c1] using hin)] at hu
        exact hlift _ _ (c2 _ _ _ hj (by simpa using hu))
      · rw [if_neg hin] at hj
        rw [if_neg (by simpa [c1] using hin)] at hu
        exact hlift _ _ (h4 _ _ _ hj (by simpa using hu)))).1
  rwa [putR_same (st := st)] at this

/-- A store into an element of an owned slice. -/
theorem store_sl {e : Env} {st : St} {g : Gh} {a : Act} {w : World} (h : SR C e st g a w) (hok : e.ok C) {k ver b el sz n c i off t : Nat} {rows : List (List AV)} (hk : lookR k st.rs = (ver, .sl el sz rows)) (hb : g k = .slice (some ⟨b, 0, none⟩) n c)
    {x : AV} {v : Value} (hx : AR st.cur g w (e.N st g) x v) (hxo : okCells (avCells x) = true) (hl : (avCells x).length = sizeT C.P t) (hkn : knownT C.P t = true) (hi : i < rows.length) (hfit : off + sizeT C.P t ≤ sz) :
    ∃ w', (Instr.storeAt t (.pointer (some ⟨b, i * sz + off, none⟩)) v).run C.P w = .ok () w' ∧ SR C e { st with rs := putR k (ver, .sl el sz (rows.set i (splice (rows.getD i []) off (avCells x)))) st.rs } g a w' := by
  obtain ⟨xs, h1, h2, h3⟩ := sl_cells h hk
  obtain ⟨hxs, h1'⟩ := h1
  rcases h1' with ⟨h4, _⟩ | ⟨b', cap, cu, hv, hb0, hh, hn, hm, hcs, ht⟩
  · rw [hb] at h4; simp at h4
  have : b' = b ∧ n = rows.length := by rw [hb] at hv; simp at hv; exact ⟨hv.1.symm, hv.2.1⟩
  obtain ⟨rfl, rfl⟩ := this
  obtain ⟨c1, c2, c3⟩ := AR_cells hx hxo
  have hblk : blk st g k = some b' := by simp [blk, hk, hb, hblock]
  have hmul : (i + 1) * sz ≤ rows.length * sz := Nat.mul_le_mul_right _ hi
  rw [Nat.succ_mul] at hmul
  have hmul2 : rows.length * sz ≤ cap * sz := Nat.mul_le_mul_right _ hn
  have hlen : i * sz + off + v.cells.size ≤ rows.length * sz := by omega
  refine ⟨_, run_storeAt' hkn w b' (i * sz + off) el cu hh v (by omega) (by omega) c3, ?_⟩
  have hover : i * sz + off + v.cells.toList.length ≤ cu.toList.length := by simp; omega
  have hoverx : i * sz + off + v.cells.toList.length ≤ xs.length := by simp; omega
  have hrow : rows[i]? = some (rows.getD i []) := by simp [hi]
  have hrl : (rows.getD i []).length = sz := h2 _ (List.mem_of_getElem? hrow)
  have := (h.turn (w' := w.setRow b' (over cu.toList (i * sz + off) v.cells.toList).toArray) k ver (.sl el sz (rows.set i (splice (rows.getD i []) off (avCells x)))) (g k) rfl rfl rfl (by simp)
    (fun c hc hne => setRow_other w b' c _ (fun e => hne (by rw [e]; exact hblk))) (.inr ⟨by simp [St.cur, hk], rfl⟩)
    (fun c _ hc => by rw [hb] at hc; simp [hblock] at hc; subst hc; exact ⟨by simpa using (h.low k _ hblk).2.1, .inl hblk⟩) hok
    (fun st' g' hst hg hlift => by
      refine ⟨over xs (i * sz + off) v.cells.toList, ⟨by rw [over_len hoverx, hxs, List.length_set], .inr ⟨b', cap, _, by rw [hg]; simp only [gput, if_true, List.length_set]; exact hv, hb0, setRow_heap w b' cu _ el _ hh, by simpa using hn, hm, by simp only [List.size_toArray]; rw [over_len hover]; simpa using hcs, ?_⟩⟩, ?_, ?_⟩
      · apply List.ext_getElem?
        intro q
        simp only [List.length_set]
        rw [List.getElem?_take, over_get hoverx]
        by_cases hq : q < rows.length * sz
        · rw [if_pos hq, over_get hover, ← ht, List.getElem?_take_of_lt hq]
        · rw [if_neg hq, if_neg (by simp at hoverx ⊢; omega), List.getElem?_eq_none (by omega)]
      · intro row hr
        rcases List.mem_or_eq_of_mem_set hr with hr | rfl
        · exact h2 row hr
        · rw [splice_len _ _ _ (by omega), hrl]
      · intro i2 j row y u hi2 hj hu
        rw [over_get hoverx] at hu
        rw [List.getElem?_set] at hi2
        by_cases hii : i = i2
        · subst hii
          simp only [if_true, hi] at hi2
          simp at hi2
          subst hi2
          rw [← List.getD_eq_getElem?_getD] at hj
          rw [splice_get _ _ _ (by omega)] at hj
          by_cases hin : off ≤ j ∧ j < off + (avCells x).length
          · rw [if_pos hin] at hj
            rw [if_pos (by simp [c1]; omega)] at hu
            refine hlift _ _ (c2 _ _ _ hj ?_)
            rw [← Array.getElem?_toList, ← hu]; congr 1; omega
          · rw [if_neg hin] at hj
            rw [if_neg (by simp [c1]; omega)] at hu
            exact hlift _ _ (h3 _ _ _ _ _ hrow hj hu)
        · rw [if_neg hii] at hi2
          have hjs : j < sz := by
            rw [← h2 row (List.mem_of_getElem? hi2)]; exact (List.getElem?_eq_some_iff.1 hj).1
          have hne : ¬ (i * sz + off ≤ i2 * sz + j ∧ i2 * sz + j < i * sz + off + v.cells.toList.length) := by
            rintro ⟨p1, p2⟩
            simp at p2
            rcases Nat.lt_or_gt_of_ne hii with hlt | hgt
            · have := Nat.mul_le_mul_right sz hlt
              rw [Nat.succ_mul] at this; omega
            · have := Nat.mul_le_mul_right sz hgt
              rw [Nat.succ_mul] at this; omega
          rw [if_neg hne] at hu
          exact hlift _ _ (h3 _ _ _ _ _ hi2 hj hu))).1
  rwa [putR_same (st := st)] at this

theorem wp_skip' {P : Program} {o : Oper} {a : Act} {w w' : World} {next : Act → World → Prop} {Q : Exit → Act → World → Prop} (hd : o.dst = none) (hr : (execOp a.eval o).run P w = .ok .skip w') (h : next a w') : o.wp P a w next Q := by
  unfold Oper.wp
  rw [hr]
  show next (a.put o.dst undef) w'
  rw [hd]; exact h

theorem storeK_ok {st : St} {t : Nat} {x v : Operand} {o : Oper} {K : List Loc → List (Loc × Cont) → Prop} (hdst : o.dst = none) (ho : o.op = .store t x v)
    (h : storeK C.P st t (ev st x) (ev st v) fun l outs => K (l ++ rd [x, v]) outs) :
    ∃ l outs, K l outs ∧ LStep C o st.n (l.map fun x => (x, st.get x)) outs := by
  unfold storeK at h
  obtain ⟨hxo, hl, hkn, h⟩ := h
  have run : ∀ (a : Act) (w w' : World), (Instr.storeAt t (a.eval x) (a.eval v)).run C.P w = .ok () w' → (execOp a.eval o).run C.P w = .ok .skip w' := fun a w w' hr => by
    simp [execOp, ho, hr]
  split at h
  · rename_i k ver hxe
    split at h
    · rename_i cv cells hk
      obtain ⟨rfl, hle, h⟩ := h
      refine ⟨_, _, h, fun e st' a w next Q hn ⟨heok, g, hs⟩ ha hnext => ?_⟩
      replace ha := Agree_of.1 ha
      have hk' := (ha.R (k := k) (by simp)).trans hk
      obtain ⟨b, hb, _⟩ := held_bx hs hk'
      have h1 := arg hs ha.right (x := x) (by simp)
      have h2 := arg hs ha.right (x := v) (by simp)
      rw [hxe] at h1
      have h3 := inv_os h1 (curk k hk').symm
      obtain ⟨w', h4, h5⟩ := store_bx hs heok (off := 0) hk' hb h2 hxo hl hkn (by omega)
      exact wp_skip' hdst (run a w w' (by rw [h3, hb]; exact h4)) (hnext a w' ⟨heok, g, h5⟩)
    · exact h.elim
  · rename_i k ver off hxe
    split at h
    · rename_i cv cells hk
      obtain ⟨rfl, hle, h⟩ := h
      refine ⟨_, _, h, fun e st' a w next Q hn ⟨heok, g, hs⟩ ha hnext => ?_⟩
      replace ha := Agree_of.1 ha
      have hk' := (ha.R (k := k) (by simp)).trans hk
      have h1 := arg hs ha.right (x := x) (by simp)
      have h2 := arg hs ha.right (x := v) (by simp)
      rw [hxe] at h1
      obtain ⟨b, hb, h3⟩ := inv_rf h1 (curk k hk').symm
      obtain ⟨w', h4, h5⟩ := store_bx hs heok (off := off) hk' hb h2 hxo hl hkn (by omega)
      exact wp_skip' hdst (run a w w' (by rw [h3]; exact h4)) (hnext a w' ⟨heok, g, h5⟩)
    · exact h.elim
  · rename_i k ver sz i off hxe
    split at h
    · rename_i cv el sz' rows hk
      obtain ⟨rfl, rfl, hi, hle, h⟩ := h
      refine ⟨_, _, h, fun e st' a w next Q hn ⟨heok, g, hs⟩ ha hnext => ?_⟩
      replace ha := Agree_of.1 ha
      have hk' := (ha.R (k := k) (by simp)).trans hk
      have h1 := arg hs ha.right (x := x) (by simp)
      have h2 := arg hs ha.right (x := v) (by simp)
      rw [hxe] at h1
      obtain ⟨b, n', c', hb, h3⟩ := inv_re h1 (curk k hk').symm
      obtain ⟨w', h4, h5⟩ := store_sl hs heok (off := off) hk' hb h2 hxo hl hkn hi (by omega)
      exact wp_skip' hdst (run a w w' (by rw [h3]; exact h4)) (hnext a w' ⟨heok, g, h5⟩)
    · exact h.elim
  · exact h.elim

end

end Go.Proofs.YtjbhpoolghfhiaaDoor
