/- The operations that give a value do what is told of them: what runs behind pointers. No condition: plain lemmas. -/
import Derived.Test.YtjbhpoolghfhiaaDoorAv5
namespace Go.Proofs.YtjbhpoolghfhiaaDoor
set_option linter.unusedVariables false
set_option linter.unusedSimpArgs false
set_option maxHeartbeats 10000000
open Go

section
variable {P : Program}

theorem known_info {t : Nat} (h : knownT P t = true) : ∃ d i, P.underlying t = some d ∧ P.info? t = some i := by
  unfold knownT at h
  cases hu : P.underlying t with
  | none => simp [hu] at h
  | some d =>
    refine ⟨d, ?_⟩
    cases hi : P.info? t with
    | none => simp [Program.underlying, hi] at hu
    | some i => exact ⟨i, rfl, rfl⟩

theorem underlying_info {t : Nat} {d : TypeDesc} (h : P.underlying t = some d) : ∃ i, P.info? t = some i :=
  let ⟨_, i, _, hi⟩ := known_info (P := P) (t := t) (by simp [knownT, h]); ⟨i, hi⟩

theorem run_sizeOf' {t : Nat} (h : knownT P t = true) (w : World) : (sizeOf t).run P w = .ok (sizeT P t) w := by
  obtain ⟨d, i, hu, hi⟩ := known_info h
  simp [sizeOf, typeInfo, hi, sizeT]

theorem run_isAgg' {t : Nat} (h : knownT P t = true) (w : World) : (isAgg t).run P w = .ok (aggT P t) w := by
  obtain ⟨d, i, hu, hi⟩ := known_info h
  simp only [isAgg, Sem.run_bind, run_underlying hu, Result.andThen_ok, aggT, hu]
  cases d <;> rfl

theorem elem_of {t e : Nat} (h : elemT P t = some e) : P.underlying t = some (.slice e) := by
  unfold elemT at h
  split at h <;> simp_all

theorem arr_of {t n e : Nat} (h : arrT P t = some (n, e)) : P.underlying t = some (.array n e) := by
  unfold arrT at h
  split at h <;> simp_all

theorem map_of {t k e : Nat} (h : mapT P t = some (k, e)) : P.underlying t = some (.map k e) := by
  unfold mapT at h
  split at h <;> simp_all

theorem sliceT_of {t : Nat} (h : sliceT P t = true) : ∃ e, P.underlying t = some (.slice e) := by
  unfold sliceT at h
  split at h
  · rename_i e he; exact ⟨e, he⟩
  · cases h

theorem stringT_of {t : Nat} (h : stringT P t = true) : P.underlying t = some .string := by
  unfold stringT at h
  split at h
  · assumption
  · cases h

theorem boolT_of {t : Nat} (h : boolT P t = true) : P.underlying t = some .bool := by
  unfold boolT at h
  split at h
  · assumption
  · cases h

theorem ptrT_of {t : Nat} (h : ptrT P t = true) : ∃ e, P.underlying t = some (.pointer e) := by
  unfold ptrT at h
  split at h
  · rename_i e he; exact ⟨e, he⟩
  · cases h

theorem intT_of {t : Nat} {k : IntKind} (h : intT P t = some k) : P.underlying t = some (.int k) := by
  unfold intT at h
  split at h <;> simp_all

theorem floatT_of {t : Nat} {k : FloatKind} (h : floatT P t = some k) : P.underlying t = some (.float k) := by
  unfold floatT at h
  split at h <;> simp_all

theorem structT_of {t : Nat} (h : structT P t = true) : ∃ fs, P.underlying t = some (.struct fs) := by
  unfold structT at h
  split at h
  · rename_i fs he; exact ⟨fs, he⟩
  · cases h

theorem field_of {s f off n : Nat} (h : fieldT P s f = some (off, n)) : ∃ fs x, P.underlying s = some (.struct fs) ∧ fs[f]? = some x ∧ x.offset = off ∧ sizeT P x.type = n := by
  unfold fieldT at h
  split at h
  · rename_i fs hu
    split at h
    · rename_i x hx
      simp only [Option.some.injEq, Prod.mk.injEq] at h
      exact ⟨fs, x, hu, hx, h.1, h.2⟩
    · cases h
  · cases h

theorem known_of_size {t n : Nat} (h : sizeT P t = n) (hn : n ≠ 0) : ∃ i, P.info? t = some i ∧ i.size = n := by
  unfold sizeT at h
  split at h
  · rename_i i hi; exact ⟨i, hi, h⟩
  · omega

end

/-- The cells behind a pointer. -/
def Held (cur : Nat → Nat) (g : Gh) (w : World) (N : Nat → Prop) (v : Value) (cs : List AV) : Prop :=
  ∃ (a : Addr) (c : Nat → Value), v = .pointer (some a) ∧ (cs ≠ [] → a.spot = none) ∧ ∀ j x, cs[j]? = some x → w.cell? ⟨a.block, a.off + j, none⟩ = some (c j) ∧ AR cur g w N x (c j)

/-- What a load of some cells gives. -/
def LoadR (P : Program) (t : Nat) (cs : List AV) (r : AV) : Prop :=
  knownT P t = true ∧ ((aggT P t = true ∧ sizeT P t ≤ cs.length ∧ r = .agg (cs.take (sizeT P t))) ∨ (aggT P t = false ∧ ∃ rest, cs = r :: rest))

theorem loadK_ok {P : Program} {t : Nat} {cs : List AV} {K : AV → Prop} (h : loadK P t cs K) : ∃ r, K r ∧ LoadR P t cs r := by
  unfold loadK at h
  obtain ⟨hk, h⟩ := h
  cases ha : aggT P t with
  | true => simp only [ha] at h; exact ⟨_, h.2, hk, .inl ⟨ha, h.1, rfl⟩⟩
  | false =>
    simp only [ha] at h
    cases cs with
    | nil => exact h.elim
    | cons x l => exact ⟨x, h, hk, .inr ⟨ha, l, rfl⟩⟩

theorem addr_add (b o n : Nat) : (⟨b, o, none⟩ : Addr).add n = ⟨b, o + n, none⟩ := Addr.add_lit b o n

theorem addr_eta {a : Addr} (h : a.spot = none) : a = ⟨a.block, a.off, none⟩ := by cases a; simp_all

theorem run_load_of {P : Program} {t : Nat} {cs : List AV} {r : AV} {cur : Nat → Nat} {g : Gh} {w : World} {N : Nat → Prop} {v : Value}
    (hl : LoadR P t cs r) (hv : Held cur g w N v cs) : ∃ u, (Instr.loadAt t v).run P w = .ok u w ∧ AR cur g w N r u := by
  obtain ⟨a, c, rfl, hsp, hc⟩ := hv
  obtain ⟨hk, hl⟩ := hl
  simp only [Instr.loadAt, Instr.sureAddr, loadVar, Sem.run_bind, Sem.run_pure, Result.andThen_ok, run_isAgg' hk]
  rcases hl with ⟨ha, hn, rfl⟩ | ⟨ha, rest, rfl⟩
  · simp only [ha, if_true, Sem.run_bind, run_sizeOf' hk, Result.andThen_ok]
    by_cases h0 : sizeT P t = 0
    · refine ⟨.agg #[], ?_, ?_⟩
      · simp [h0, loadCells, loadCellsFrom]
      · rw [h0]; exact .agg _ _ (by simp) (by simp)
    · have hne : cs ≠ [] := by intro e; simp [e] at hn; omega
      rw [addr_eta (hsp hne)]
      rw [run_loadCells (P := P) w ⟨a.block, a.off, none⟩ (sizeT P t) c (fun j hj => by
        rw [addr_add]; exact (hc j cs[j] (List.getElem?_eq_getElem (by omega))).1)]
      refine ⟨_, rfl, .agg _ _ (by simp; omega) (fun j x y hx hy => ?_)⟩
      have hj : j < sizeT P t := by
        rcases Nat.lt_or_ge j (sizeT P t) with h | h
        · exact h
        · rw [List.getElem?_eq_none (by simp; omega)] at hx; cases hx
      rw [List.getElem?_take_of_lt hj] at hx
      have : y = c j := by simpa [hj] using hy.symm
      rw [this]; exact (hc j x hx).2
  · simp only [ha]
    have h0 := hc 0 r (by simp)
    rw [addr_eta (hsp (by simp))]
    simp only [Nat.add_zero] at h0
    exact ⟨c 0, by simp [h0.1], h0.2⟩

theorem RR_one {w : World} {N : Nat → Prop} {x : RV} {v : Value} (h : RR w N x v) (hx : okCell (.r x) = true) : v.oneCell' = true := by
  cases h <;> first | rfl | exact hx

theorem AR_one {cur : Nat → Nat} {g : Gh} {w : World} {N : Nat → Prop} {x : AV} {v : Value} (h : AR cur g w N x v) (hx : okCell x = true) : v.oneCell' = true := by
  cases h with
  | r h => exact RR_one h hx
  | os _ _ _ h1 _ => exact h1
  | rf _ _ _ _ h1 _ => exact h1
  | re _ _ _ _ _ _ h1 _ => exact h1
  | agg _ _ _ _ => simp [okCell] at hx
  | tup _ _ _ _ => simp [okCell] at hx
  | any _ => simp [okCell] at hx

/-- A value's cells, told one by one. -/
theorem AR_cells {cur : Nat → Nat} {g : Gh} {w : World} {N : Nat → Prop} {x : AV} {v : Value} (h : AR cur g w N x v) (hx : okCells (avCells x) = true) :
    v.cells.size = (avCells x).length ∧ (∀ (j : Nat) (y : AV) (u : Value), (avCells x)[j]? = some y → v.cells[j]? = some u → AR cur g w N y u) ∧ ∀ u ∈ v.cells.toList, u.oneCell' = true := by
  have one : ∀ (x : AV) (v : Value), AR cur g w N x v → okCell x = true → avCells x = [x] → v.cells.size = (avCells x).length ∧ (∀ (j : Nat) (y : AV) (u : Value), (avCells x)[j]? = some y → v.cells[j]? = some u → AR cur g w N y u) ∧ ∀ u ∈ v.cells.toList, u.oneCell' = true := by
    intro x v h hx e
    have h1 := AR_one h hx
    have h2 : v.cells = #[v] := by cases v <;> first | rfl | simp [Value.oneCell'] at h1
    rw [e, h2]
    refine ⟨rfl, fun j y u hy hu => ?_, by simpa using h1⟩
    cases j with
    | zero => simp at hy hu; subst hy; subst hu; exact h
    | succ j => simp at hy
  cases h with
  | agg cs xs hs hh =>
    refine ⟨hs, hh, fun u hu => ?_⟩
    obtain ⟨j, hj, rfl⟩ := List.getElem_of_mem hu
    have hj' : j < cs.length := by simpa [Value.cells, hs] using hj
    have h1 := hh j cs[j] xs[j]! (List.getElem?_eq_getElem hj') (by simp [Value.cells] at hj; simp [hj])
    have h2 : okCell cs[j] = true := by
      have : ∀ (l : List AV), okCells l = true → ∀ j (hj : j < l.length), okCell l[j] = true := by
        intro l; induction l with
        | nil => intro _ j hj; simp at hj
        | cons y l ih =>
          intro h j hj
          simp only [okCells, Bool.and_eq_true] at h
          cases j with
          | zero => exact h.1
          | succ j => exact ih h.2 j (by simpa using hj)
      exact this cs hx j hj'
    have h3 := AR_one h1 h2
    simp [Value.cells] at hj
    simpa [Value.cells, hj] using h3
  | tup cs xs hs hh => simp [avCells, okCells, okCell] at hx
  | any v => simp [avCells, okCells, okCell] at hx
  | r h => exact one _ _ (.r h) (by simpa [avCells, okCells] using hx) rfl
  | os k ver v h1 h => exact one _ _ (.os k ver v h1 h) rfl rfl
  | rf k ver off v h1 h => exact one _ _ (.rf k ver off v h1 h) rfl rfl
  | re k ver sz i off v h1 h => exact one _ _ (.re k ver sz i off v h1 h) rfl rfl

end Go.Proofs.YtjbhpoolghfhiaaDoor
