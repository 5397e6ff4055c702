/- Maps: what is looked up, what is put. No condition: definitions and plain lemmas. -/
import Derived.Test.YtjbhpoolghfhiaaDoorAv16r
import Derived.WideKeyElems
import Derived.DeepKeys5
namespace Go.Proofs.YtjbhpoolghfhiaaDoor
set_option linter.unusedVariables false
set_option linter.unusedSimpArgs false
set_option maxHeartbeats 10000000
open Go

def plainL : List AV → (List Value → Prop) → Prop
  | [], K => K []
  | .r (.v x) :: l, K => plainL l fun vs => K (x :: vs)
  | _, _ => False

/-- A key: a whole number, a string, a struct of such. -/
def keyK (x : AV) (K : Value → Prop) : Prop :=
  match x with
  | .r (.v (.int k n)) => K (.int k n)
  | .r (.v (.string s)) => K (.string s)
  | .agg cs => plainL cs fun vs => K (.agg vs.toArray)
  | _ => False

theorem plainL_ok : ∀ {l : List AV} {K : List Value → Prop}, plainL l K → ∃ vs, K vs ∧ l = vs.map fun v => .r (.v v)
  | [], K, h => ⟨[], h, rfl⟩
  | .r (.v x) :: l, K, h => by
    obtain ⟨vs, h2, h3⟩ := plainL_ok (l := l) (K := fun vs => K (x :: vs)) h
    exact ⟨x :: vs, h2, by rw [h3]; rfl⟩
  | .r (.rp _) :: _, _, h => h.elim
  | .r (.rs _ _) :: _, _, h => h.elim
  | .r (.fn _ _) :: _, _, h => h.elim
  | .r .nan :: _, _, h => h.elim
  | .r (.ln _) :: _, _, h => h.elim
  | .os _ _ :: _, _, h => h.elim
  | .rf _ _ _ :: _, _, h => h.elim
  | .re _ _ _ _ _ :: _, _, h => h.elim
  | .agg _ :: _, _, h => h.elim
  | .tup _ :: _, _, h => h.elim
  | .any :: _, _, h => h.elim

theorem keyK_ok {x : AV} {K : Value → Prop} (h : keyK x K) : ∃ kv, K kv ∧ ∀ cur g w N v, AR cur g w N x v → v = kv := by
  unfold keyK at h
  split at h
  · exact ⟨_, h, fun cur g w N v hv => inv_v hv⟩
  · exact ⟨_, h, fun cur g w N v hv => inv_v hv⟩
  · obtain ⟨vs, h1, rfl⟩ := plainL_ok h
    refine ⟨_, h1, fun cur g w N v hv => ?_⟩
    obtain ⟨xs, rfl, p1, p2⟩ := inv_agg hv
    congr 1
    apply Array.ext'
    refine List.ext_getElem? fun j => ?_
    by_cases hj : j < vs.length
    · have hx : (vs.map fun v => AV.r (.v v))[j]? = some (.r (.v vs[j])) := by simp [hj]
      have hjx : j < xs.size := by rw [p1]; simpa using hj
      have hy : xs[j]? = some xs[j] := Array.getElem?_eq_getElem hjx
      have := inv_v (p2 j _ _ hx hy)
      simp [hj, hjx, this]
    · have hs : xs.size = vs.length := by simpa using p1
      rw [List.getElem?_eq_none (by simp; omega), List.getElem?_eq_none (by simpa using hj)]
  · exact h.elim

/-- The map's keys are such that the machine compares them one by one. -/
structure MapOk (P : Program) (t : Nat) (f : Value → Option Value) (kv : Value) : Prop where
  law : ∃ kt e, P.underlying t = some (.map kt e) ∧ WideMaps.KeyLaw P kt ∧ (∃ l, keyOf P kt kv = some l) ∧ ∀ k' v', f k' = some v' → ∃ l, keyOf P kt k' = some l

open Classical in
noncomputable def updF (f : Value → Option Value) (kv vv : Value) (k : Value) : Option Value := if k = kv then some vv else f k
def updN (f : Value → Option Value) (kv : Value) (n : Nat) : Nat := match f kv with | some _ => n | none => n + 1

def lookupK (P : Program) (st : St) (t : Nat) (x idx : AV) (K : List Loc → AV → Prop) : Prop :=
  match x with
  | .os k ver => match lookR k st.rs with
    | (cv, .mp f _) => ver = cv ∧ keyK idx fun kv => MapOk P t f kv ∧ match mapT P t with
      | some (_, e) => match zeroT P e with
        | some z => K [.R k] (.r (.v ((f kv).getD z)))
        | none => False
      | none => False
    | _ => False
  | _ => False

def updK (P : Program) (st : St) (t : Nat) (x idx v : AV) (K : List Loc → List (Loc × Cont) → Prop) : Prop :=
  match x with
  | .os k ver => match lookR k st.rs with
    | (cv, .mp f n) => ver = cv ∧ keyK idx fun kv => MapOk P t f kv ∧ match v with
      | .r (.v vv) => K [.R k] [(.R k, .s cv (.mp (updF f kv vv) (updN f kv n)))]
      | _ => False
    | _ => False
  | _ => False

/-- Finding a key. -/
theorem find_ok {P : Program} {kt : Nat} (L : WideMaps.KeyLaw P kt) {es : Array MapEntry} {f : Value → Option Value} {n : Nat} (hm : MapIs es f n) {kv : Value} {l : Lit} (hk : keyOf P kt kv = some l) (hf : ∀ k' v', f k' = some v' → ∃ l, keyOf P kt k' = some l) (w : World) :
    ((Instr.findKey kt kv es.toList).run P w = .ok none w ∧ f kv = none ∧ ∀ e ∈ es.toList, e.key ≠ kv) ∨ ∃ j e, (Instr.findKey kt kv es.toList).run P w = .ok (some (j, e.val)) w ∧ es.toList[j]? = some e ∧ e.key = kv ∧ f kv = some e.val := by
  rcases L.find w hk es.toList (fun e he => hf e.key e.val ((hm.2.1 _ _).2 ⟨e, he, rfl, rfl⟩)) with ⟨h1, h2⟩ | ⟨j, e, h1, h2, h3⟩
  · refine .inl ⟨h1, ?_, h2⟩
    cases hfk : f kv with
    | none => rfl
    | some x =>
      obtain ⟨e, he, hk', _⟩ := (hm.2.1 _ _).1 hfk
      exact absurd hk' (h2 e he)
  · exact .inr ⟨j, e, h1, h2, h3, (hm.2.1 _ _).2 ⟨e, List.mem_of_getElem? h2, h3, rfl⟩⟩

theorem MapIs_push {es : Array MapEntry} {f : Value → Option Value} {n : Nat} (hm : MapIs es f n) {kv vv : Value} {born : Nat} (hn : f kv = none) (hno : ∀ e ∈ es.toList, e.key ≠ kv) : MapIs (es.push ⟨kv, vv, born⟩) (updF f kv vv) (updN f kv n) := by
  refine ⟨by simp [updN, hn, hm.1], fun k x => ?_, ?_⟩
  · simp only [Array.toList_push, List.mem_append, List.mem_singleton]
    unfold updF
    by_cases hk : k = kv
    · subst hk
      rw [if_pos rfl]
      constructor
      · intro h; cases h; exact ⟨_, .inr rfl, rfl, rfl⟩
      · rintro ⟨e, he | rfl, h1, h2⟩
        · exact absurd h1 (hno e he)
        · exact congrArg some h2
    · rw [if_neg hk, hm.2.1]
      constructor
      · rintro ⟨e, he, h1, h2⟩; exact ⟨e, .inl he, h1, h2⟩
      · rintro ⟨e, he | rfl, h1, h2⟩
        · exact ⟨e, he, h1, h2⟩
        · exact absurd h1.symm hk
  · rw [Array.toList_push, List.map_append]
    refine List.nodup_append.2 ⟨hm.2.2, by simp, fun a ha b hb => ?_⟩
    simp at hb
    obtain ⟨e, he, rfl⟩ := List.mem_map.1 ha
    rw [hb]
    exact hno e he

theorem MapIs_modify {es : Array MapEntry} {f : Value → Option Value} {n : Nat} (hm : MapIs es f n) {kv vv : Value} {j : Nat} {e0 : MapEntry} (hj : es.toList[j]? = some e0) (hk0 : e0.key = kv) (hf : f kv = some e0.val) : MapIs (es.modify j fun e => { e with key := kv, val := vv }) (updF f kv vv) (updN f kv n) := by
  have hjl : j < es.toList.length := (List.getElem?_eq_some_iff.1 hj).1
  have hl : (es.modify j fun e => { e with key := kv, val := vv }).toList = es.toList.set j { e0 with key := kv, val := vv } := by
    rw [Array.toList_modify]
    refine List.ext_getElem? fun i => ?_
    rw [List.getElem?_modify, List.getElem?_set]
    by_cases h : j = i
    · subst h; rw [if_pos rfl, if_pos hjl, hj]; simp
    · rw [if_neg h]; simp [h]
  have hkeys : (es.toList.set j { e0 with key := kv, val := vv }).map (·.key) = es.toList.map (·.key) := by
    rw [List.map_set]
    show (es.toList.map (·.key)).set j kv = _
    refine List.ext_getElem? fun i => ?_
    rw [List.getElem?_set]
    by_cases h : j = i
    · subst h; rw [if_pos rfl, if_pos (by simpa using hjl), List.getElem?_map, hj, ← hk0]; rfl
    · rw [if_neg h]
  refine ⟨by simp [updN, hf, hm.1], fun k x => ?_, by rw [hl, hkeys]; exact hm.2.2⟩
  rw [hl]
  have uniq : ∀ i e, es.toList[i]? = some e → e.key = kv → i = j := fun i e hi he => by
    have hn := hm.2.2
    have h1 : (es.toList.map (·.key))[i]? = some kv := by rw [List.getElem?_map, hi]; exact congrArg some he
    have h2 : (es.toList.map (·.key))[j]? = some kv := by rw [List.getElem?_map, hj]; exact congrArg some hk0
    exact (List.getElem?_inj (List.getElem?_eq_some_iff.1 h1).1 hn).1 (h1.trans h2.symm)
  unfold updF
  by_cases hk : k = kv
  · subst hk
    rw [if_pos rfl]
    constructor
    · intro h; cases h
      exact ⟨_, List.mem_of_getElem? (by rw [List.getElem?_set, if_pos rfl, if_pos hjl]), rfl, rfl⟩
    · rintro ⟨e, he, h1, h2⟩
      obtain ⟨i, hi⟩ := List.getElem?_of_mem he
      rw [List.getElem?_set] at hi
      by_cases hji : j = i
      · rw [if_pos hji, if_pos (by omega)] at hi
        cases hi; exact congrArg some h2
      · rw [if_neg hji] at hi
        exact absurd (uniq i e hi h1).symm hji
  · rw [if_neg hk, hm.2.1]
    constructor
    · rintro ⟨e, he, h1, h2⟩
      obtain ⟨i, hi⟩ := List.getElem?_of_mem he
      refine ⟨e, List.mem_of_getElem? (i := i) ?_, h1, h2⟩
      rw [List.getElem?_set, if_neg]
      · exact hi
      · rintro rfl; rw [hj] at hi; cases hi; exact hk (h1.symm.trans hk0)
    · rintro ⟨e, he, h1, h2⟩
      obtain ⟨i, hi⟩ := List.getElem?_of_mem he
      rw [List.getElem?_set] at hi
      by_cases hji : j = i
      · rw [if_pos hji, if_pos (by omega)] at hi
        cases hi; exact absurd h1.symm hk
      · rw [if_neg hji] at hi
        exact ⟨e, List.mem_of_getElem? hi, h1, h2⟩

section
variable {C : Ctx}

theorem map_at {e : Env} {st : St} {g : Gh} {a : Act} {w : World} (hs : SR C e st g a w) {k ver n : Nat} {f : Value → Option Value} (hk : lookR k st.rs = (ver, .mp f n)) : ∃ b es clock, g k = .map (some b) ∧ w.heap[b]? = some (.map es clock) ∧ MapIs es f n := by
  have := hs.res k
  rwa [hk] at this

theorem lookup_ok {st : St} {d t : Nat} {x i : Operand} {o : Oper} {K : List Loc → List (Loc × Cont) → Prop} (hdst : o.dst = some d) (ho : o.op = .lookup t x i false) (hd : d < st.n)
    (h : lookupK C.P st t (ev st x) (ev st i) fun l r => K (l ++ rd [x, i]) [(.T d, .a r)]) : ∃ l outs, K l outs ∧ LStep C o st.n (l.map fun x => (x, st.get x)) outs := by
  unfold lookupK at h
  split at h
  · rename_i k ver hx
    split at h
    · rename_i cv f n hk
      obtain ⟨rfl, h⟩ := h
      obtain ⟨kv, ⟨hmo, h⟩, hkv⟩ := keyK_ok h
      split at h
      · rename_i kt0 e0 hmt
        split at h
        · rename_i z hz
          obtain ⟨kt, el, hu, L, ⟨l, hl⟩, hf⟩ := hmo.law
          have he0 : el = e0 := by
            unfold mapT at hmt; rw [hu] at hmt; simp at hmt; exact hmt.2
          subst he0
          have hzr : ∀ w, (zeroValue el).run C.P w = .ok z w := fun w => by
            unfold zeroT at hz
            split at hz
            · rename_i i hi; simp [zeroValue, typeInfo, hi, hz]
            · cases hz
          refine ⟨_, _, h, LStep_val hdst hd fun e st' g a w hs ha => ?_⟩
          have ha0 := Agree_of.1 ha
          have hk' := (ha0.R (k := k) (by simp)).trans hk
          have hard : Ag (rd [x, i]) st st' := fun y hy => ha0 y (by simp [hy])
          have h1 := arg hs hard (x := x) (by simp)
          have h2 := arg hs hard (x := i) (by simp)
          rw [hx] at h1
          obtain ⟨b, es, clock, hg, hb, hm⟩ := map_at hs hk'
          have e1 : a.eval x = .map (some b) := by rw [inv_os h1 (curk k hk').symm, hg]
          have e2 := hkv _ _ _ _ _ h2
          have run : ∀ v, (Instr.lookup t (.map (some b)) kv false).run C.P w = .ok v w → (execOp a.eval o).run C.P w = .ok (.value v) w := fun v hv => by
            simp only [execOp, ho, Sem.run_bind, e1, e2]; rw [hv]; rfl
          rcases find_ok L hm hl hf w with ⟨q1, q2, _⟩ | ⟨j, e0, q1, _, _, q2⟩
          · refine ⟨z, w, run z ?_, rfl, rfl, rfl, rfl, by rw [q2]; exact .r (.v _)⟩
            simp [Instr.lookup, run_underlying hu, MapKept.run_getObj_map hb, L.check w _ hl, q1, hzr w, Result.andThen]
          · refine ⟨e0.val, w, run _ ?_, rfl, rfl, rfl, rfl, by rw [q2]; exact .r (.v _)⟩
            simp [Instr.lookup, run_underlying hu, MapKept.run_getObj_map hb, L.check w _ hl, q1, Result.andThen]
        · exact h.elim
      · exact h.elim
    · exact h.elim
  · exact h.elim

theorem upd_ok {st : St} {t : Nat} {x i v : Operand} {o : Oper} {K : List Loc → List (Loc × Cont) → Prop} (hdst : o.dst = none) (ho : o.op = .mapUpdate t x i v)
    (h : updK C.P st t (ev st x) (ev st i) (ev st v) fun l outs => K (l ++ rd [x, i, v]) outs) : ∃ l outs, K l outs ∧ LStep C o st.n (l.map fun x => (x, st.get x)) outs := by
  unfold updK at h
  split at h
  · rename_i k ver hx
    split at h
    · rename_i cv f n hk
      obtain ⟨rfl, h⟩ := h
      obtain ⟨kv, ⟨hmo, h⟩, hkv⟩ := keyK_ok h
      split at h
      · rename_i vv hvv
        obtain ⟨kt, el, hu, L, ⟨l, hl⟩, hf⟩ := hmo.law
        refine ⟨_, _, h, fun e st' a w next Q hn ⟨heok, g, hs⟩ ha hnext => ?_⟩
        have ha0 := Agree_of.1 ha
        have hk' := (ha0.R (k := k) (by simp)).trans hk
        have hard : Ag (rd [x, i, v]) st st' := fun y hy => ha0 y (by simp [hy])
        have h1 := arg hs hard (x := x) (by simp)
        have h2 := arg hs hard (x := i) (by simp)
        have h3 := arg hs hard (x := v) (by simp)
        rw [hx] at h1
        rw [hvv] at h3
        obtain ⟨b, es, clock, hg, hb, hm⟩ := map_at hs hk'
        have e1 : a.eval x = .map (some b) := by rw [inv_os h1 (curk k hk').symm, hg]
        have e2 := hkv _ _ _ _ _ h2
        have e3 := inv_v h3
        have hblk : blk st' g k = some b := by simp only [blk, hk', hg, hblock]
        have hbs : b < w.heap.size := (hs.low k b hblk).2.1
        have fin : ∀ es' clock', (Instr.mapUpdate t (.map (some b)) kv vv).run C.P w = .ok () { w with heap := w.heap.setIfInBounds b (.map es' clock') } → MapIs es' (updF f kv vv) (updN f kv n) → o.wp C.P a w next Q := by
          intro es' clock' hr hm'
          refine wp_skip' hdst ?_ (hnext a { w with heap := w.heap.setIfInBounds b (.map es' clock') } ⟨heok, g, ?_⟩)
          · simp only [execOp, ho, Sem.run_bind, e1, e2, e3]; rw [hr]; rfl
          · have hat : ({ w with heap := w.heap.setIfInBounds b (.map es' clock') } : World).heap[b]? = some (.map es' clock') := by simp [hbs]
            have := (hs.turn k ver (.mp (updF f kv vv) (updN f kv n)) (g k) (w' := { w with heap := w.heap.setIfInBounds b (.map es' clock') }) rfl rfl rfl (by simp) (fun b' hb' hne => by
                have : b ≠ b' := fun he => hne (by rw [← he]; exact hblk)
                show (w.heap.setIfInBounds b _)[b']? = _
                rw [Array.getElem?_setIfInBounds_ne this])
              (.inr ⟨curk k hk', rfl⟩) (fun b' _ hb' => by rw [hg] at hb'; simp [hblock] at hb'; subst hb'; exact ⟨by simpa using hbs, .inl hblk⟩) heok
              (fun st2 g2 _ hg2 _ => ⟨b, es', clock', by rw [hg2, putR_same (st := st')]; exact hg, hat, hm'⟩)).1
            rw [putR_same (st := st')] at this
            exact this
        rcases find_ok L hm hl hf w with ⟨q1, q2, q3⟩ | ⟨j, e0, q1, q2, q3, q4⟩
        · refine fin _ (clock + 1) ?_ (MapIs_push (born := clock) hm q2 q3)
          simp [Instr.mapUpdate, run_underlying hu, MapKept.run_getObj_map hb, L.check w false hl, q1, MapKept.run_setObj_map _ hb, Result.andThen]
        · have hj : es[j]? = some e0 := by simpa using q2
          refine fin _ clock ?_ (MapIs_modify hm q2 q3 q4)
          simp [Instr.mapUpdate, run_underlying hu, MapKept.run_getObj_map hb, L.check w false hl, q1, hj, q3, L.stays w hl, MapKept.run_setObj_map _ hb, Result.andThen]
      · exact h.elim
    · exact h.elim
  · exact h.elim

end

end Go.Proofs.YtjbhpoolghfhiaaDoor
