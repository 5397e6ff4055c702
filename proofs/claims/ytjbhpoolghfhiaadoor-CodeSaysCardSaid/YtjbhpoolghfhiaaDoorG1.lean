/- What a call is handed, told of read-only values; what the caller is told at the end. No condition: definitions and plain lemmas. -/
import Derived.Test.YtjbhpoolghfhiaaDoorAvS
import Derived.Deep.Slices
import Derived.ChangeSame
import Derived.WideKeyArgs
import Derived.WideShapes
import Derived.Carry
import Derived.RowKit
namespace Go.Proofs.YtjbhpoolghfhiaaDoor
set_option linter.unusedVariables false
set_option linter.unusedSimpArgs false
set_option maxHeartbeats 10000000
open Go

/-- The read-only values that a type's cells may hold. -/
inductive Ro (P : Program) : Nat → List RV → Prop
  | int (t : Nat) (k : IntKind) (n : Int) (ht : P.underlying t = some (.int k)) (hw : (Lit.int k n).wf = true) : Ro P t [.v (.int k n)]
  | bool (t : Nat) (b : Bool) (ht : P.underlying t = some .bool) : Ro P t [.v (.bool b)]
  | string (t : Nat) (s : ByteArray) (ht : P.underlying t = some .string) (hs : s.size ≤ maxLen) : Ro P t [.v (.string s)]
  | struct (t : Nat) (fs : Array Field) (rows : List (List RV)) (ht : P.underlying t = some (.struct fs)) (hn : rows.length = fs.toList.length)
      (h : ∀ (i : Nat) (f : Field) (row : List RV), fs.toList[i]? = some f → rows[i]? = some row → Ro P f.type row) : Ro P t rows.flatten
  | slice (t e : Nat) (rows : List (List RV)) (ht : P.underlying t = some (.slice e)) (hl : rows.length ≤ maxLen) (h : ∀ row ∈ rows, Ro P e row) : Ro P t [.rs (P.cellsOf e) rows]

/-- Fields lie one behind the other. -/
def contigB (P : Program) : List Field → Nat → Nat → Bool
  | [], off, n => off == n
  | f :: fs, off, n => f.offset == off && contigB P fs (off + P.cellsOf f.type) n

/-- A type that is opened: of whole numbers, bools, strings, structs, slices. -/
def openB (P : Program) : Nat → Nat → Bool
  | 0, _ => false
  | d + 1, t => match P.underlying t with
    | some (.int _) | some .bool | some .string => P.cellsOf t == 1
    | some (.struct fs) => contigB P fs.toList 0 (P.cellsOf t) && fs.toList.all fun f => openB P d f.type
    | some (.slice e) => P.cellsOf t == 1 && decide (0 < P.cellsOf e) && openB P d e
    | _ => false

theorem opens_fields {P : Program} {W : World} {H : Type} {enc : TypeId × Value → H} {n : Nat}
    (ih : ∀ (t : Nat) (cs : List Value) (x : DataW H × List MemPlace), DataW.trod enc P W 0 (fun _ => true) true n t cs = some x → ∀ d, openB P d t = true → ∃ row, Ro P t row ∧ row.length = P.cellsOf t ∧ cs.length = P.cellsOf t ∧ ∀ (j : Nat) (r : RV) (c : Value), row[j]? = some r → cs[j]? = some c → RR W (fun _ => False) r c) (d : Nat) (cs : List Value) :
    ∀ (fs : List Field) (off : Nat) (xs : List (DataW H × List MemPlace)), fs.mapM (fun f => DataW.trod enc P W 0 (fun _ => true) true n f.type ((cs.drop f.offset).take (P.cellsOf f.type))) = some xs → contigB P fs off cs.length = true → fs.all (fun f => openB P d f.type) = true →
      ∃ rows : List (List RV), rows.length = fs.length ∧ (∀ (i : Nat) (f : Field) (row : List RV), fs[i]? = some f → rows[i]? = some row → Ro P f.type row) ∧ off + rows.flatten.length = cs.length ∧ ∀ (j : Nat) (r : RV) (c : Value), rows.flatten[j]? = some r → cs[off + j]? = some c → RR W (fun _ => False) r c
  | [], off, xs, _, hc, _ => by
    simp only [contigB, beq_iff_eq] at hc
    exact ⟨[], rfl, fun i f row h => by simp at h, by simpa using hc, fun j r c h => by simp at h⟩
  | f :: fs, off, xs, h, hc, ha => by
    simp only [contigB, Bool.and_eq_true, beq_iff_eq] at hc
    simp only [List.all_cons, Bool.and_eq_true] at ha
    rw [List.mapM_cons] at h
    cases h1 : DataW.trod enc P W 0 (fun _ => true) true n f.type ((cs.drop f.offset).take (P.cellsOf f.type)) with
    | none => rw [h1] at h; simp at h
    | some y =>
      rw [h1] at h
      cases h2 : fs.mapM (fun f => DataW.trod enc P W 0 (fun _ => true) true n f.type ((cs.drop f.offset).take (P.cellsOf f.type))) with
      | none => rw [h2] at h; simp at h
      | some ys =>
        obtain ⟨row, r1, r2, r3, r4⟩ := ih _ _ _ h1 d ha.1
        obtain ⟨rows, q1, q2, q3, q4⟩ := opens_fields ih d cs fs _ ys h2 hc.2 ha.2
        refine ⟨row :: rows, by simp [q1], fun i f' row' hi hr => ?_, by simp only [List.flatten_cons, List.length_append]; omega, fun j r c hj hcj => ?_⟩
        · cases i with
          | zero => simp at hi hr; subst hi; subst hr; exact r1
          | succ i => exact q2 i f' row' (by simpa using hi) (by simpa using hr)
        · rw [List.flatten_cons] at hj
          by_cases hjl : j < row.length
          · rw [List.getElem?_append_left hjl] at hj
            refine r4 j r c hj ?_
            rw [List.getElem?_take, if_pos (by omega), List.getElem?_drop, hc.1]; exact hcj
          · rw [List.getElem?_append_right (by omega)] at hj
            refine q4 _ r c hj ?_
            have : off + P.cellsOf f.type + (j - row.length) = off + j := by omega
            rw [this]; exact hcj

theorem add2 {a : Addr} (h : a.spot = none) (n m : Nat) : (a.add n).add m = ⟨a.block, a.off + (n + m), none⟩ := by
  obtain ⟨b, o, sp⟩ := a
  simp only at h
  subst h
  by_cases hn : n = 0 <;> by_cases hm : m = 0 <;> simp [Addr.add, hn, hm, Nat.add_assoc]
theorem add_block (a : Addr) (n : Nat) : (a.add n).block = a.block := by
  unfold Addr.add; split <;> rfl

/-- What is read as data is a read-only value. -/
theorem opens {P : Program} {W : World} {H : Type} {enc : TypeId × Value → H} : ∀ (n : Nat) (t : Nat) (cs : List Value) (x : DataW H × List MemPlace), DataW.trod enc P W 0 (fun _ => true) true n t cs = some x → ∀ d, openB P d t = true →
    ∃ row, Ro P t row ∧ row.length = P.cellsOf t ∧ cs.length = P.cellsOf t ∧ ∀ (j : Nat) (r : RV) (c : Value), row[j]? = some r → cs[j]? = some c → RR W (fun _ => False) r c := by
  intro n
  induction n with
  | zero => intro t cs x h; simp [DataW.trod] at h
  | succ n ih =>
    intro t cs x h d hd
    cases d with
    | zero => simp [openB] at hd
    | succ d =>
      have one : ∀ (r : RV) (c : Value), cs = [c] → RR W (fun _ => False) r c → ∀ (j : Nat) (r' : RV) (c' : Value), [r][j]? = some r' → cs[j]? = some c' → RR W (fun _ => False) r' c' := by
        intro r c hcs hr j r' c' h1 h2
        subst hcs
        cases j with
        | zero => simp at h1 h2; subst h1; subst h2; exact hr
        | succ j => simp at h1
      unfold openB at hd
      split at hd
      · rename_i k ht
        obtain ⟨m, rfl, hx, hw⟩ := DataW.trod_int ht h
        exact ⟨[.v (.int k m)], .int t k m ht hw, (beq_iff_eq.1 hd).symm, (beq_iff_eq.1 hd).symm, one _ _ rfl (.v _)⟩
      · rename_i ht
        have : ∃ b, cs = [.bool b] := by
          unfold DataW.trod at h
          rw [ht] at h
          split at h <;> simp_all
        obtain ⟨b, rfl⟩ := this
        exact ⟨[.v (.bool b)], .bool t b ht, (beq_iff_eq.1 hd).symm, (beq_iff_eq.1 hd).symm, one _ _ rfl (.v _)⟩
      · rename_i ht
        have : ∃ s : ByteArray, cs = [.string s] ∧ s.size ≤ maxLen := by
          unfold DataW.trod at h
          rw [ht] at h
          split at h <;> simp_all
        obtain ⟨s, rfl, hs⟩ := this
        exact ⟨[.v (.string s)], .string t s ht hs, (beq_iff_eq.1 hd).symm, (beq_iff_eq.1 hd).symm, one _ _ rfl (.v _)⟩
      · rename_i fs ht
        simp only [Bool.and_eq_true] at hd
        have : cs.length = P.cellsOf t ∧ ∃ xs, fs.toList.mapM (fun f => DataW.trod enc P W 0 (fun _ => true) true n f.type ((cs.drop f.offset).take (P.cellsOf f.type))) = some xs := by
          unfold DataW.trod at h
          rw [ht] at h
          simp only at h
          split at h
          · rename_i hl
            cases hm : fs.toList.mapM (fun f => DataW.trod enc P W 0 (fun _ => true) true n f.type ((cs.drop f.offset).take (P.cellsOf f.type))) with
            | none => rw [hm] at h; simp at h
            | some xs => exact ⟨hl, xs, rfl⟩
          · simp at h
        obtain ⟨hl, xs, hm⟩ := this
        obtain ⟨rows, q1, q2, q3, q4⟩ := opens_fields ih d cs fs.toList 0 xs hm (by rw [hl]; exact hd.1) hd.2
        exact ⟨rows.flatten, .struct t fs rows ht q1 q2, by omega, hl, fun j r c hj hc => q4 j r c hj (by simpa using hc)⟩
      · rename_i e ht
        simp only [Bool.and_eq_true, beq_iff_eq, decide_eq_true_eq] at hd
        obtain ⟨⟨hd1, hd2⟩, hd3⟩ := hd
        rcases DataW.trod_slice ht h with ⟨rfl, _⟩ | ⟨a, len, cap, elems, rest, n', hn, rfl, _, hb, hlc, hcm, hlen, hel, _, _⟩
        · exact ⟨[.rs (P.cellsOf e) []], .slice t e [] ht (by simp) (fun row h => by simp at h), by simpa using hd1.symm, by simpa using hd1.symm, one _ _ rfl (.nil _)⟩
        · obtain rfl : n = n' := by omega
          have each : ∀ i, ∃ row : List RV, i < len → Ro P e row ∧ row.length = P.cellsOf e ∧ ∀ j, j < P.cellsOf e → ∃ c, W.cell? ((a.add (i * P.cellsOf e)).add j) = some c ∧ ∀ r, row[j]? = some r → RR W (fun _ => False) r c := by
            intro i
            by_cases hi : i < len
            · have h1 := hel i hi
              rw [List.getElem?_eq_getElem (by omega : i < elems.length)] at h1
              cases h2 : W.cells? 0 (a.add (i * P.cellsOf e)) (P.cellsOf e) with
              | none => rw [h2] at h1; simp at h1
              | some cs' =>
                rw [h2] at h1
                simp only [Option.bind_some] at h1
                obtain ⟨row, r1, r2, r3, r4⟩ := ih _ _ _ h1 d hd3
                obtain ⟨_, c1, c2⟩ := World.cells?_some h2
                refine ⟨row, fun _ => ⟨r1, r2, fun j hj => ?_⟩⟩
                have h3 : cs'[j]? = some cs'[j] := List.getElem?_eq_getElem (by omega)
                exact ⟨cs'[j], by rw [c2 j hj, h3], fun r hr => r4 j r _ hr h3⟩
            · exact ⟨[], fun h => absurd h hi⟩
          obtain ⟨f, hf⟩ := Classical.axiomOfChoice each
          have hrows : ∀ (i : Nat) (row : List RV), ((List.range len).map f)[i]? = some row → i < len ∧ row = f i := by
            intro i row hr
            rw [List.getElem?_map] at hr
            by_cases hi : i < len
            · rw [List.getElem?_range hi] at hr; simp at hr; exact ⟨hi, hr.symm⟩
            · rw [List.getElem?_eq_none (by simpa using hi)] at hr; simp at hr
          have hmem : ∀ row ∈ (List.range len).map f, ∃ i, i < len ∧ row = f i := by
            intro row hr
            obtain ⟨i, hi, rfl⟩ := List.mem_map.1 hr
            exact ⟨i, List.mem_range.1 hi, rfl⟩
          have hspot : 0 < len → a.spot = none ∧ a.block < W.heap.size := by
            intro h0
            obtain ⟨c, h1, _⟩ := (hf 0 h0).2.2 0 hd2
            unfold World.cell? at h1
            split at h1
            · rename_i q1 q2 q3 hq
              refine ⟨?_, by have := (Array.getElem?_eq_some_iff.1 hq).1; rwa [add_block, add_block] at this⟩
              cases hs : a.spot with
              | none => rfl
              | some z => simp [Addr.add, hs] at h1
            · cases h1
          refine ⟨[.rs (P.cellsOf e) ((List.range len).map f)], .slice t e _ ht (by simp; omega) (fun row hr => ?_), by simpa using hd1.symm, by simpa using hd1.symm, one _ _ rfl ?_⟩
          · obtain ⟨i, hi, rfl⟩ := hmem row hr
            exact (hf i hi).1
          · have := RR.rs (w := W) (N := fun _ => False) (P.cellsOf e) ((List.range len).map f) a cap (fun i j => (W.cell? ⟨a.block, a.off + (i * P.cellsOf e + j), none⟩).getD undef) (fun hne => ?_) (by simpa using hlc) (fun row hr => ?_) (fun i j hi hj => ?_) (fun i j row r hi hj => ?_)
            · simpa using this
            · have h0 : 0 < len := by
                rcases Nat.eq_zero_or_pos len with h | h
                · subst h; exact absurd rfl hne
                · exact h
              exact ⟨(hspot h0).2, fun h => h, (hspot h0).1⟩
            · obtain ⟨i, hi, rfl⟩ := hmem row hr
              exact (hf i hi).2.1
            · have hi' : i < len := by simpa using hi
              obtain ⟨c, h1, _⟩ := (hf i hi').2.2 j hj
              have h2 := (hspot (by omega)).1
              have h3 := add2 h2 (i * P.cellsOf e) j
              rw [h3] at h1
              rw [h1]; rfl
            · obtain ⟨hi', rfl⟩ := hrows i row hi
              have hj' : j < P.cellsOf e := by
                have := (List.getElem?_eq_some_iff.1 hj).1
                rw [(hf i hi').2.1] at this; exact this
              obtain ⟨c, h1, h4⟩ := (hf i hi').2.2 j hj'
              have h2 := (hspot (by omega)).1
              have h3 := add2 h2 (i * P.cellsOf e) j
              rw [h3] at h1
              rw [h1]; exact h4 r hj
      · simp at hd

end Go.Proofs.YtjbhpoolghfhiaaDoor
