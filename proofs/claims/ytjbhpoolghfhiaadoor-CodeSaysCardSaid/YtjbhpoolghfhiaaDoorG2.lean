/- From a contract of a law's function to the given statement's form. No condition: plain lemmas. -/
import Derived.Test.YtjbhpoolghfhiaaDoorG1
import Derived.OpenShut
import Derived.WalkKit
import Derived.ProofKit
namespace Go.Proofs.YtjbhpoolghfhiaaDoor
set_option linter.unusedVariables false
set_option linter.unusedSimpArgs false
set_option maxHeartbeats 10000000
open Go Go.ChangeShapes Go.WideShapes Go.ChangeAt Go.RowKit

/-- An argument, out of its cells. -/
def avOf (P : Program) (t : Nat) (row : List RV) : AV := match aggT P t with
  | true => .agg (row.map .r)
  | false => match row with
    | x :: _ => .r x
    | [] => .any

theorem arg_open {P : Program} {W : World} {H : Type} {enc : TypeId × Value → H} {r : Reach} {b0 n t : Nat} {v : Value} {d : DataW H} {ps : List MemPlace} (ho : openB P n t = true) (hval : Value.okWide P W r b0 t v) (hd : DataW.Trod enc P W 0 (fun _ => true) true t v d ps) (cur : Nat → Nat) (g : Gh) :
    ∃ row, Ro P t row ∧ AR cur g W (fun _ => False) (avOf P t row) v := by
  obtain ⟨fuel, hf⟩ := hd
  obtain ⟨row, h1, h2, h3, h4⟩ := opens fuel t _ _ hf n ho
  refine ⟨row, h1, ?_⟩
  have one : (∀ v', v.cells = #[v'] → v' = v) → aggT P t = false → v.cells = #[v] → AR cur g W (fun _ => False) (avOf P t row) v := fun _ ha hc => by
    unfold avOf
    rw [ha]
    cases row with
    | nil => exact .any _
    | cons x l => exact .r (h4 0 x v rfl (by rw [hc]; rfl))
  cases n with
  | zero => simp [openB] at ho
  | succ n =>
    unfold openB at ho
    split at ho
    · rename_i k ht
      obtain ⟨m, rfl⟩ := okWide_int ht hval
      exact one (fun v' h => by simpa [Value.cells] using h.symm) (by simp [aggT, ht]) rfl
    · rename_i ht
      obtain ⟨m, rfl⟩ := okWide_bool ht hval
      exact one (fun v' h => by simpa [Value.cells] using h.symm) (by simp [aggT, ht]) rfl
    · rename_i ht
      obtain ⟨m, rfl⟩ := okWide_string ht hval
      exact one (fun v' h => by simpa [Value.cells] using h.symm) (by simp [aggT, ht]) rfl
    · rename_i fs ht
      obtain ⟨cs, rfl, hs⟩ := okWide_struct ht hval
      unfold avOf
      rw [show aggT P t = true by simp [aggT, ht]]
      refine .agg _ _ (by simp only [List.length_map]; simp only [Value.cells] at h3; omega) (fun j x y hx hy => ?_)
      rw [List.getElem?_map] at hx
      cases hj : row[j]? with
      | none => simp [hj] at hx
      | some z => simp [hj] at hx; subst hx; exact .r (h4 j z y hj (by simpa [Value.cells] using hy))
    · rename_i e ht
      obtain ⟨a, l, c, rfl⟩ := okWide_slice ht hval
      exact one (fun v' h => by simpa [Value.cells] using h.symm) (by simp [aggT, ht]) rfl
    · simp at ho

theorem args_open {P : Program} {W : World} {H : Type} {enc : TypeId × Value → H} {r : Reach} {b0 : Nat} (cur : Nat → Nat) (g : Gh) : ∀ {ts : List Nat} {vs : List Value} {ds : List (DataW H)} {ps : List MemPlace}, DataW.TrodAll enc P W 0 (fun _ => true) true ts vs ds ps → ts.all (openB P 20) = true →
    (∀ (j : Nat) t v, ts[j]? = some t → vs[j]? = some v → Value.okWide P W r b0 t v) →
    ∃ rows : List (List RV), rows.length = ts.length ∧ vs.length = ts.length ∧ ds.length = ts.length ∧ (∀ (j : Nat) (t : Nat) (row : List RV), ts[j]? = some t → rows[j]? = some row → Ro P t row) ∧
      ∀ (j : Nat) (t : Nat) (row : List RV) (v : Value), ts[j]? = some t → rows[j]? = some row → vs[j]? = some v → AR cur g W (fun _ => False) (avOf P t row) v
  | [], [], [], _, _, _, _ => ⟨[], rfl, rfl, rfl, fun j t row h => by simp at h, fun j t row v h => by simp at h⟩
  | t :: ts, v :: vs, d :: ds, ps, h, ha, hv => by
    obtain ⟨p, q, h1, h2, _⟩ := h
    simp only [List.all_cons, Bool.and_eq_true] at ha
    obtain ⟨row, r1, r2⟩ := arg_open ha.1 (hv 0 t v rfl rfl) h1 cur g
    obtain ⟨rows, q1, q2, q3, q4, q5⟩ := args_open cur g h2 ha.2 (fun j t v ht hv' => hv (j + 1) t v (by simpa using ht) (by simpa using hv'))
    refine ⟨row :: rows, by simp [q1], by simp [q2], by simp [q3], fun j t' row' ht hr => ?_, fun j t' row' v' ht hr hv' => ?_⟩
    · cases j with
      | zero => simp at ht hr; subst ht; subst hr; exact r1
      | succ j => exact q4 j t' row' (by simpa using ht) (by simpa using hr)
    · cases j with
      | zero => simp at ht hr hv'; subst ht; subst hr; subst hv'; exact r2
      | succ j => exact q5 j t' row' v' (by simpa using ht) (by simpa using hr) (by simpa using hv')
  | [], _ :: _, _, _, h, _, _ => h.elim
  | [], [], _ :: _, _, h, _, _ => h.elim
  | _ :: _, [], _, _, h, _, _ => h.elim
  | _ :: _, _ :: _, [], _, h, _, _ => h.elim

theorem trodAll_same {P : Program} {H : Type} {enc : TypeId × Value → H} (hl : laidOutB P = true) {W W' : World} {sp : Nat → Bool} : ∀ {ts : List Nat} {vs : List Value} {ds : List (DataW H)} {ps : List MemPlace}, DataW.TrodAll enc P W 0 (fun _ => true) true ts vs ds ps → (ts.all fun t => P.readableRec t && decide (t < P.types.size)) = true →
    (∀ p ∈ ps, W.sameAt W' p) → (∀ p ∈ ps, sp p.block = true) → DataW.TrodAll enc P W' 0 sp true ts vs ds ps
  | [], [], [], _, h, _, _, _ => h
  | t :: ts, v :: vs, d :: ds, ps, h, ha, hs, hp => by
    obtain ⟨p, q, h1, h2, rfl⟩ := h
    simp only [List.all_cons, Bool.and_eq_true, decide_eq_true_eq] at ha
    exact ⟨p, q, WideElems.Trod_stays hl ha.1.1 ha.1.2 h1 (fun x hx => hs x (List.mem_append_left _ hx)) (fun x hx => hp x (List.mem_append_left _ hx)),
      trodAll_same hl h2 (by simpa using ha.2) (fun x hx => hs x (List.mem_append_right _ hx)) (fun x hx => hp x (List.mem_append_right _ hx)), rfl⟩
  | [], _ :: _, _, _, h, _, _, _ => h.elim
  | [], [], _ :: _, _, h, _, _, _ => h.elim
  | _ :: _, [], _, _, h, _, _, _ => h.elim
  | _ :: _, _ :: _, [], _, h, _, _, _ => h.elim

theorem same_of {W W' : World} (hx : Ext W (fun _ => False) W' (fun _ => False)) {p : MemPlace} (hp : p.block < W.heap.size) : W.sameAt W' p := by
  cases p with
  | cell b o => exact World.cell?_of_block (w := W) (hx.block b hp (fun h => h)).1
  | map b => exact (hx.block b hp (fun h => h)).1

theorem kept_of {W W' : World} (hx : Ext W (fun _ => False) W' (fun _ => False)) (may : MemPlace → Prop) : W.keptBut W' may := by
  refine ⟨hx.os, hx.output, fun i hi => ?_⟩
  rw [(hx.block i hi (fun h => h)).1]
  split <;> simp_all

/-- What the statement asks of the world behind the call. -/
theorem law_post {P : Program} {H : Type} {enc : TypeId × Value → H} {f : Func} {s : ChangeSpec} {W W' : World} {args : Array Value} {ds gs : List (DataW H)} {before : List MemPlace} {tb : Nat} (hl : laidOutB P = true) (hread : (f.params.toList.all fun t => P.readableRec t && decide (t < P.types.size)) = true)
    (hvars : s.vars = []) (hres : f.resultTypes = #[tb]) (htb : P.underlying tb = some .bool) (hfn : ∀ ds : List (DataW H), ds.length = f.params.size → s.fn H ds = { results := [.lit (.bool true)], args := ds })
    (hW : DataW.Whole enc P f.params.toList s.vars false W args.toList ds gs before) (hds : ds.length = f.params.size) (hx : Ext W (fun _ => False) W' (fun _ => False)) : s.post enc P f false true false false W args (.bool true) W' := by
  obtain ⟨p, q, hA, hV, hpq, hfz, hnd⟩ := id hW
  have hgs : gs = [] ∧ q = [] := by
    rw [hvars] at hV
    cases gs with
    | nil => exact ⟨rfl, hV⟩
    | cons a b => exact hV.elim
  obtain ⟨rfl, rfl⟩ := hgs
  rw [List.append_nil] at hpq
  subst hpq
  have hf := hfn ds hds
  refine ⟨ds, [], before, [], before, [], hW, ?_, ?_, ?_, kept_of hx _, fun h => by cases h⟩
  · rw [List.append_nil, hf, hres]
    exact trodAll_cons_mk (shut_bool htb true) trodAll_mk0
  · rw [List.append_nil, hf]
    exact trodAll_same hl hA hread (fun x hx' => same_of hx (hW.lt x hx')) (fun x hx' => by simpa using hW.lt x hx')
  · rw [List.append_nil, hf, hvars]
    exact rfl

/-- A law's function, called: it tells true, and all reads as it did. -/
theorem law_end {C : Ctx} {H : Type} {enc : TypeId × Value → H} {f : Nat} {fn : Func} {s : ChangeSpec} {W : World} {args : Array Value} {avs : List AV} {ds gs : List (DataW H)} {before : List MemPlace} {tb : Nat} (hl : laidOutB C.P = true) (hread : (fn.params.toList.all fun t => C.P.readableRec t && decide (t < C.P.types.size)) = true)
    (hvars : s.vars = []) (hres : fn.resultTypes = #[tb]) (htb : C.P.underlying tb = some .bool) (hfn : ∀ ds : List (DataW H), ds.length = fn.params.size → s.fn H ds = { results := [.lit (.bool true)], args := ds })
    (hW : DataW.Whole enc C.P fn.params.toList s.vars false W args.toList ds gs before) (hds : ds.length = fn.params.size) (hG : C.G W) (hgs : C.gs ≤ W.heap.size) (hpw : PW (fun _ => 0) (fun _ => undef) W (fun _ => False) avs args) (ha : withinL none0 avs = true)
    (hfc : FC C f avs [] (Bv true) []) : Calls C.P f args W fun e W' => ∃ v, e = .returned v ∧ s.post enc C.P fn false true false false W args v W' := by
  refine (hfc.use0 rfl hG hgs (av := fun _ => False) (fun b hb => hb.elim) ha hpw).mono ?_
  rintro x w' ⟨v, rfl, hx, hv⟩
  have h1 := hv (fun _ => 0) (fun _ => undef)
  obtain rfl : v = .bool true := by cases h1 with | r h => cases h; rfl
  exact ⟨_, rfl, law_post hl hread hvars hres htb hfn hW hds hx⟩

end Go.Proofs.YtjbhpoolghfhiaaDoor
