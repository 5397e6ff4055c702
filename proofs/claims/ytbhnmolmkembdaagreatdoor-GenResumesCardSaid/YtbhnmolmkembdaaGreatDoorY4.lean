/- From a contract of a law's function to the given statement's form. No condition: plain lemmas. -/
import Derived.Test.YtbhnmolmkembdaaGreatDoorY3
import Derived.OpenShut
import Derived.WalkKit
import Derived.ProofKit
import Derived.Test.YtbhnmolmkembdaaGreatDoorRows
import Derived.Test.YtbhnmolmkembdaaGreatDoorTie
import Derived.Test.YtbhnmolmkembdaaGreatDoorCards
import Derived.Stop.LaidErr
import Derived.MakeChecks
import Derived.LaidMore
import Derived.Stop.Joined
import Derived.SevenTiedAt
import Derived.Shelf.Strings.Fields
import Derived.Test.YtbhnmolmkembdaaGreatDoorProg
import Derived.StringKeys
namespace Go.Proofs.YtbhnmolmkembdaaGreatDoor
set_option linter.unusedVariables false
set_option linter.unusedSimpArgs false
set_option maxHeartbeats 10000000
open Go Go.ChangeShapes Go.WideShapes Go.ChangeAt Go.RowKit
def avOf (P : Program) (t : Nat) (row : List RV) : AV := match aggT P t with
 | true => .agg (row.map .r)
 | false => match row with
  | x :: _ => .r x
  | [] => .any
theorem aA2 {P : Program} {W : World} {H : Type} {enc : TypeId × Value → H} {r : Reach} {b0 n t : Nat} {v : Value} {d : DataW H} {ps : List MemPlace} (ho : openB P n t = true) (hval : Value.okWide P W r b0 t v) (hd : DataW.Trod enc P W 0 (fun _ => true) true t v d ps) (hwt : ∀ m ∈ d.weights P t, m ≤ reachBytes) (cur : Nat → Nat) (g : Gh) :
  ∃ row, Ro P t row ∧ AR cur g W (fun _ => False) (avOf P t row) v := by
 obtain ⟨fuel, hf⟩ := hd
 obtain ⟨row, h1, h2, h3, h4⟩ := aUa fuel t _ _ hf hwt n ho
 refine ⟨row, h1, ?_⟩
 have one : (∀ v', v.cells = #[v'] → v' = v) → aggT P t = false → v.cells = #[v] → AR cur g W (fun _ => False) (avOf P t row) v := fun _ ha hc => by
  unfold avOf
  rw [ha]
  cases row with
  | nil => exact .any _
  | cons x l => exact .r (h4 0 x v rfl (by rw [hc]; rfl))
 cases n with
 | zero => simp [openB] at ho
 | succ n =>
  unfold openB at ho
  split at ho
  ·rename_i k ht
   obtain ⟨m, rfl⟩ := okWide_int ht hval
   exact one (fun v' h => by simpa [Value.cells] using h.symm) (by simp [aggT, ht]) rfl
  ·rename_i ht
   obtain ⟨m, rfl⟩ := okWide_bool ht hval
   exact one (fun v' h => by simpa [Value.cells] using h.symm) (by simp [aggT, ht]) rfl
  ·rename_i ht
   obtain ⟨m, rfl⟩ := okWide_string ht hval
   exact one (fun v' h => by simpa [Value.cells] using h.symm) (by simp [aggT, ht]) rfl
  ·rename_i fs ht
   obtain ⟨cs, rfl, hs⟩ := okWide_struct ht hval
   unfold avOf
   rw [show aggT P t = true by simp [aggT, ht]]
   refine .agg _ _ (by simp only [List.length_map]; simp only [Value.cells] at h3; omega) (fun j x y hx hy => ?_)
   rw [List.getElem?_map] at hx
   cases hj : row[j]? with
   | none => simp [hj] at hx
   | some z => simp [hj] at hx; subst hx; exact .r (h4 j z y hj (by simpa [Value.cells] using hy))
  ·rename_i e ht
   obtain ⟨a, l, c, rfl⟩ := okWide_slice ht hval
   exact one (fun v' h => by simpa [Value.cells] using h.symm) (by simp [aggT, ht]) rfl
  ·simp at ho
theorem Fk {P : Program} {W : World} {H : Type} {enc : TypeId × Value → H} {r : Reach} {b0 : Nat} (cur : Nat → Nat) (g : Gh) : ∀ {ts : List Nat} {vs : List Value} {ds : List (DataW H)} {ps : List MemPlace}, DataW.TrodAll enc P W 0 (fun _ => true) true ts vs ds ps → (∀ m ∈ DataW.weightsEach P ts ds, m ≤ reachBytes) → ts.all (openB P 20) = true →
  (∀ (j : Nat) t v, ts[j]? = some t → vs[j]? = some v → Value.okWide P W r b0 t v) →
  ∃ rows : List (List RV), rows.length = ts.length ∧ vs.length = ts.length ∧ ds.length = ts.length ∧ (∀ (j : Nat) (t : Nat) (row : List RV), ts[j]? = some t → rows[j]? = some row → Ro P t row) ∧
   ∀ (j : Nat) (t : Nat) (row : List RV) (v : Value), ts[j]? = some t → rows[j]? = some row → vs[j]? = some v → AR cur g W (fun _ => False) (avOf P t row) v
 | [], [], [], _, _, _, _, _ => ⟨[], rfl, rfl, rfl, fun j t row h => by simp at h, fun j t row v h => by simp at h⟩
 | t :: ts, v :: vs, d :: ds, ps, h, hwt, ha, hv => by
  obtain ⟨p, q, h1, h2, _⟩ := h
  have hw : DataW.weightsEach P (t :: ts) (d :: ds) = d.weights P t ++ DataW.weightsEach P ts ds := rfl
  rw [hw] at hwt
  simp only [List.all_cons, Bool.and_eq_true] at ha
  obtain ⟨row, r1, r2⟩ := aA2 ha.1 (hv 0 t v rfl rfl) h1 (fun m h => hwt m (List.mem_append_left _ h)) cur g
  obtain ⟨rows, q1, q2, q3, q4, q5⟩ := Fk cur g h2 (fun m h => hwt m (List.mem_append_right _ h)) ha.2 (fun j t v ht hv' => hv (j + 1) t v (by simpa using ht) (by simpa using hv'))
  refine ⟨row :: rows, by simp [q1], by simp [q2], by simp [q3], fun j t' row' ht hr => ?_, fun j t' row' v' ht hr hv' => ?_⟩
  ·cases j with
   | zero => simp at ht hr; subst ht; subst hr; exact r1
   | succ j => exact q4 j t' row' (by simpa using ht) (by simpa using hr)
  ·cases j with
   | zero => simp at ht hr hv'; subst ht; subst hr; subst hv'; exact r2
   | succ j => exact q5 j t' row' v' (by simpa using ht) (by simpa using hr) (by simpa using hv')
 | [], _ :: _, _, _, h, _, _, _ => h.elim
 | [], [], _ :: _, _, h, _, _, _ => h.elim
 | _ :: _, [], _, _, h, _, _, _ => h.elim
 | _ :: _, _ :: _, [], _, h, _, _, _ => h.elim
theorem Ow {P : Program} {H : Type} {ts us : List Nat} {ds : List (DataW H)} (h : (DataW.weightsEach P (ts ++ us) (ds ++ [])).all (· ≤ reachBytes) = true) : ∀ m ∈ DataW.weightsEach P ts ds, m ≤ reachBytes := by
 rw [List.append_nil] at h
 intro m hm
 have : ∀ (ts : List Nat) (ds : List (DataW H)), m ∈ DataW.weightsEach P ts ds → m ∈ DataW.weightsEach P (ts ++ us) ds := by
  intro ts
  induction ts with
  | nil => intro ds h; cases ds <;> exact absurd h (by simp [DataW.weightsEach])
  | cons t ts ih =>
   intro ds h
   cases ds with
   | nil => exact absurd h (by simp [DataW.weightsEach])
   | cons d ds =>
    rw [List.cons_append]
    unfold DataW.weightsEach at h ⊢
    rcases List.mem_append.1 h with h | h
    ·exact List.mem_append_left _ h
    ·exact List.mem_append_right _ (ih ds h)
 simpa using List.all_eq_true.1 h m (this ts ds hm)
theorem wI {P : Program} {H : Type} {enc : TypeId × Value → H} (hl : laidOutB P = true) {W W' : World} {sp : Nat → Bool} : ∀ {ts : List Nat} {vs : List Value} {ds : List (DataW H)} {ps : List MemPlace}, DataW.TrodAll enc P W 0 (fun _ => true) true ts vs ds ps → (ts.all fun t => P.readableRec t && decide (t < P.types.size)) = true →
  (∀ p ∈ ps, W.sameAt W' p) → (∀ p ∈ ps, sp p.block = true) → DataW.TrodAll enc P W' 0 sp true ts vs ds ps
 | [], [], [], _, h, _, _, _ => h
 | t :: ts, v :: vs, d :: ds, ps, h, ha, hs, hp => by
  obtain ⟨p, q, h1, h2, rfl⟩ := h
  simp only [List.all_cons, Bool.and_eq_true, decide_eq_true_eq] at ha
  exact ⟨p, q, WideElems.Trod_stays hl ha.1.1 ha.1.2 h1 (fun x hx => hs x (List.mem_append_left _ hx)) (fun x hx => hp x (List.mem_append_left _ hx)),
   wI hl h2 (by simpa using ha.2) (fun x hx => hs x (List.mem_append_right _ hx)) (fun x hx => hp x (List.mem_append_right _ hx)), rfl⟩
 | [], _ :: _, _, _, h, _, _, _ => h.elim
 | [], [], _ :: _, _, h, _, _, _ => h.elim
 | _ :: _, [], _, _, h, _, _, _ => h.elim
 | _ :: _, _ :: _, [], _, h, _, _, _ => h.elim
theorem aGl {W W' : World} (hx : Ext W (fun _ => False) W' (fun _ => False)) {p : MemPlace} (hp : p.block < W.heap.size) : W.sameAt W' p := by
 cases p with
 | cell b o => exact World.cell?_of_block (w := W) (hx.block b hp (fun h => h)).1
 | map b => exact (hx.block b hp (fun h => h)).1
theorem aD4 {W W' : World} (hx : Ext W (fun _ => False) W' (fun _ => False)) (may : MemPlace → Prop) : W.keptBut W' may := by
 refine ⟨hx.os, hx.output, fun i hi => ?_⟩
 rw [(hx.block i hi (fun h => h)).1]
 split <;> simp_all
theorem Zk {P : Program} {H : Type} {enc : TypeId × Value → H} {f : Func} {s : ChangeSpec} {W W' : World} {args : Array Value} {ds gs : List (DataW H)} {before : List MemPlace} {tb : Nat} (hl : laidOutB P = true) (hread : (f.params.toList.all fun t => P.readableRec t && decide (t < P.types.size)) = true)
  (hvars : s.vars = []) (hres : f.resultTypes = #[tb]) (htb : P.underlying tb = some .bool) (hfn : ∀ ds : List (DataW H), ds.length = f.params.size → s.fn H ds = { results := [.lit (.bool true)], args := ds })
  (hW : DataW.Whole enc P f.params.toList s.vars false W args.toList ds gs before) (hds : ds.length = f.params.size) (hx : Ext W (fun _ => False) W' (fun _ => False)) : s.post enc P f false true false false W args (.bool true) W' := by
 obtain ⟨p, q, hA, hV, hpq, hfz, hnd⟩ := id hW
 have hgs : gs = [] ∧ q = [] := by
  rw [hvars] at hV
  cases gs with
  | nil => exact ⟨rfl, hV⟩
  | cons a b => exact hV.elim
 obtain ⟨rfl, rfl⟩ := hgs
 rw [List.append_nil] at hpq
 subst hpq
 have hf := hfn ds hds
 refine ⟨ds, [], before, [], before, [], hW, ?_, ?_, ?_, aD4 hx _, fun h => by cases h⟩
 ·rw [List.append_nil, hf, hres]
  exact trodAll_cons_mk (shut_bool htb true) trodAll_mk0
 ·rw [List.append_nil, hf]
  exact wI hl hA hread (fun x hx' => aGl hx (hW.lt x hx')) (fun x hx' => by simpa using hW.lt x hx')
 ·rw [List.append_nil, hf, hvars]
  exact rfl
theorem aF8 {C : Ctx} {H : Type} {enc : TypeId × Value → H} {f : Nat} {fn : Func} {s : ChangeSpec} {W : World} {args : Array Value} {avs : List AV} {ds gs : List (DataW H)} {before : List MemPlace} {tb : Nat} (hl : laidOutB C.P = true) (hread : (fn.params.toList.all fun t => C.P.readableRec t && decide (t < C.P.types.size)) = true)
  (hvars : s.vars = []) (hres : fn.resultTypes = #[tb]) (htb : C.P.underlying tb = some .bool) (hfn : ∀ ds : List (DataW H), ds.length = fn.params.size → s.fn H ds = { results := [.lit (.bool true)], args := ds })
  (hW : DataW.Whole enc C.P fn.params.toList s.vars false W args.toList ds gs before) (hds : ds.length = fn.params.size) (hG : C.G W) (hgs : C.gs ≤ W.heap.size) (hpw : PW (fun _ => 0) gh0 W (fun _ => False) avs args) (ha : aX bR avs = true)
  (hfc : FC C f avs [] (Bv true) []) : Calls C.P f args W fun e W' => ∃ v, e = .returned v ∧ s.post enc C.P fn false true false false W args v W' := by
 refine (hfc.use0 rfl hG hgs (av := fun _ => False) (fun b hb => hb.elim) ha hpw).mono ?_
 rintro x w' ⟨v, rfl, hx, hv⟩
 have h1 := hv (fun _ => 0) gh0
 obtain rfl : v = .bool true := by cases h1 with | r h => cases h; rfl
 exact ⟨_, rfl, Zk hl hread hvars hres htb hfn hW hds hx⟩
end Go.Proofs.YtbhnmolmkembdaaGreatDoor
namespace Go.Proofs.YtbhnmolmkembdaaGreatDoor
set_option linter.unusedVariables false
set_option linter.unusedSimpArgs false
set_option maxHeartbeats 10000000
open Go Go.ChangeShapes Go.WideShapes Go.ChangeAt Go.RowKit
theorem aLo : ownKnob Tryz.prog.godebug = none := by kernel_rfl
theorem aRr : laidOutB Tryz.prog = true := by kernel_rfl
theorem cS {P : Program} {t : Nat} {k : IntKind} {row : List RV} (h : Ro P t row) (ht : P.underlying t = some (.int k)) : ∃ n, row = [.v (.int k n)] ∧ (Lit.int k n).wf = true := by
 cases h with
 | int _ k' n h1 h2 => rw [ht] at h1; cases h1; exact ⟨n, rfl, h2⟩
 | bool _ _ h1 => rw [ht] at h1; cases h1
 | string _ _ h1 => rw [ht] at h1; cases h1
 | struct _ _ _ h1 => rw [ht] at h1; cases h1
 | slice _ _ _ h1 => rw [ht] at h1; cases h1
theorem dY {P : Program} {t : Nat} {fs : Array Field} {row : List RV} (h : Ro P t row) (ht : P.underlying t = some (.struct fs)) : ∃ rows : List (List RV), row = rows.flatten ∧ rows.length = fs.toList.length ∧ ∀ (i : Nat) (f : Field) (row : List RV), fs.toList[i]? = some f → rows[i]? = some row → Ro P f.type row := by
 cases h with
 | int _ k' n h1 h2 => rw [ht] at h1; cases h1
 | bool _ _ h1 => rw [ht] at h1; cases h1
 | string _ _ h1 => rw [ht] at h1; cases h1
 | struct _ _ rows h1 h2 h3 => rw [ht] at h1; cases h1; exact ⟨rows, rfl, h2, h3⟩
 | slice _ _ _ h1 => rw [ht] at h1; cases h1
theorem Pr {row : List RV} (h : Ro Tryz.prog 50 row) : ∃ k n, row = [.v (.int .i64 k), .v (.int .i64 n)] := by
 obtain ⟨rows, rfl, h1, h2⟩ := dY h Tryz.underlying50
 match rows, h1 with
 | [a, b], _ =>
  obtain ⟨k, rfl, _⟩ := cS (h2 0 _ a rfl rfl) Tryz.underlying3
  obtain ⟨n, rfl, _⟩ := cS (h2 1 _ b rfl rfl) Tryz.underlying3
  exact ⟨k, n, rfl⟩
theorem pO {P : Program} {t e : Nat} {row : List RV} (h : Ro P t row) (ht : P.underlying t = some (.slice e)) : ∃ rows : List (List RV), row = [.rs (P.cellsOf e) rows] ∧ rows.length ≤ maxLen ∧ ∀ r ∈ rows, Ro P e r := by
 cases h with
 | int _ k' n h1 h2 => rw [ht] at h1; cases h1
 | bool _ _ h1 => rw [ht] at h1; cases h1
 | string _ _ h1 => rw [ht] at h1; cases h1
 | struct _ _ _ h1 => rw [ht] at h1; cases h1
 | slice _ e' rows h1 h2 _ h3 => rw [ht] at h1; cases h1; exact ⟨rows, rfl, h2, h3⟩
theorem Ub {P : Program} {t e : Nat} {rows : List (List RV)} {sz : Nat} (h : Ro P t [.rs sz rows]) (ht : P.underlying t = some (.slice e)) : rows.length * P.bytesOf e ≤ reachBytes := by
 obtain ⟨row, hr⟩ : ∃ row, row = [RV.rs sz rows] := ⟨_, rfl⟩
 rw [← hr] at h
 cases h with
 | slice _ e' rows' h1 h2 h4 h3 => rw [ht] at h1; cases h1; cases hr; exact h4
 | int _ _ _ h1 => rw [ht] at h1; cases h1
 | bool _ _ h1 => rw [ht] at h1; cases h1
 | string _ _ h1 => rw [ht] at h1; cases h1
 | struct _ _ _ h1 => rw [ht] at h1; cases h1
theorem nU {α : Type} {f : α → List RV} {p : α → Prop} : ∀ {rows : List (List RV)}, (∀ r ∈ rows, ∃ x, r = f x ∧ p x) → ∃ l : List α, rows = l.map f ∧ ∀ x ∈ l, p x
 | [], _ => ⟨[], rfl, fun x hx => by simp at hx⟩
 | r :: rows, h => by
  obtain ⟨x, rfl, hx⟩ := h r (List.mem_cons_self ..)
  obtain ⟨l, rfl, hl⟩ := nU (rows := rows) fun r hr => h r (List.mem_cons_of_mem _ hr)
  exact ⟨x :: l, rfl, fun y hy => (List.mem_cons.1 hy).elim (fun h => h ▸ hx) (hl y)⟩
end Go.Proofs.YtbhnmolmkembdaaGreatDoor
namespace Go.Proofs.YtbhnmolmkembdaaGreatDoor
set_option linter.unusedVariables false
set_option linter.unusedSimpArgs false
set_option maxHeartbeats 10000000
open Go Go.ChangeShapes Go.WideShapes Go.ChangeAt Go.RowKit
noncomputable abbrev Jw : List (String × DataW Unit) := [("unicode.White_Space", Rows.laid_unicode_White_Space), ("strings.asciiSpace", Rows.laid_strings_asciiSpace)]
theorem Xw (os : Os) (args : Array Value) : laidMetH Tryz.prog Jw ((World.doorLaid Tryz.prog 400 os).forCall (fun _ _ => 0) ⟨#[], args, []⟩).memory :=
 laidMetH_of_parts3 (fuel := 8) (laidMet_of_run' 8 (by kernel_rfl) (by kernel_rfl)) (by kernel_rfl) (by kernel_rfl)
theorem Pu : (Rows.laid_strings_asciiSpace : DataW Unit) = Lib.tabData .u8 Lib.asciiSpaceTab := by kernel_rfl
theorem Di {W : World} (h : laidMetH Tryz.prog Jw W) : Cx.G W ∧ Cx.gs ≤ W.heap.size := by
 rw [MakeChecks.laidMetH_plain _ _ _ (by kernel_rfl)] at h
 have h2 := h.tail
 rw [Pu] at h2
 have h3 : Lib.TabIs Tryz.prog W "strings.asciiSpace" .u8 Lib.asciiSpaceTab := Lib.tabIs_of_head Ng (t := 223) (e := 5) (n := 256) (by kernel_rfl) Tryz.underlying223 Tryz.underlying5 (by kernel_rfl) (by kernel_rfl) h2
 refine ⟨h3, ?_⟩
 unfold Lib.TabIs World.var? at h3
 rw [Ng] at h3
 simp only [Option.bind_some] at h3
 show 1 + 1 ≤ _
 rcases Nat.lt_or_ge 1 W.heap.size with h' | h'
 ·exact h'
 ·rw [Array.getElem?_eq_none h'] at h3; simp at h3
end Go.Proofs.YtbhnmolmkembdaaGreatDoor
namespace Go.Proofs.YtbhnmolmkembdaaGreatDoor
set_option linter.unusedVariables false
set_option linter.unusedSimpArgs false
set_option maxHeartbeats 10000000
open Go
set_option maxRecDepth 10000
theorem aE {α β : Type} (f : α → β) {l : List α} {i : Nat} {x : α} (h : l[i]? = some x) (d : β) : (l.map f).getD i d = f x := by simp [List.getD, h]
abbrev strR (s : ByteArray) : List RV := [.v (.string s)]
abbrev bZ (l : List ByteArray) : AV := .r (.rs 1 (l.map strR))
abbrev Ew (b : Bool) : List RV := [.v (.bool b)]
abbrev Hw (l : List Bool) : AV := .r (.rs 1 (l.map Ew))
abbrev tryR (p : Int × Int) : List RV := [.v (.int .i64 p.1), .v (.int .i64 p.2)]
abbrev cM (l : List (Int × Int)) : AV := .r (.rs 2 (l.map tryR))
def strsOf (xs : List (List RV)) : List ByteArray := xs.map fun r => match r with | [.v (.string n)] => n | _ => ⟨#[]⟩
def triesOf (xs : List (List RV)) : List (Int × Int) := xs.map fun r => match r with | [.v (.int _ n), .v (.int _ m)] => (n, m) | _ => (0, 0)
@[go_sem] theorem aK2 (l : List ByteArray) : strsOf (l.map strR) = l := by
 unfold strsOf; rw [List.map_map]; conv => rhs; rw [← List.map_id l]
 exact List.map_congr_left fun x _ => rfl
@[go_sem] theorem sB (l : List (Int × Int)) : triesOf (l.map tryR) = l := by
 unfold triesOf; rw [List.map_map]; conv => rhs; rw [← List.map_id l]
 exact List.map_congr_left fun x _ => rfl
theorem pL {xs : List (List RV)} (h : xs = (strsOf xs).map strR) : bZ (strsOf xs) = .r (.rs 1 xs) := congrArg (fun z => AV.r (RV.rs 1 z)) h.symm
theorem iP {xs : List (List RV)} (h : xs = (triesOf xs).map tryR) : cM (triesOf xs) = .r (.rs 2 xs) := congrArg (fun z => AV.r (RV.rs 2 z)) h.symm
@[go_sem] theorem aY0 (a b : ByteArray) : (a.toList == b.toList) = decide (a = b) := by
 rw [Bool.eq_iff_iff, beq_iff_eq, decide_eq_true_eq]
 refine ⟨fun h => ?_, fun h => by rw [h]⟩
 rw [ByteArray.toList_eq, ByteArray.toList_eq] at h
 exact ByteArray.ext (Array.ext' h)
theorem aG2 (l m : List ByteArray) (hl : l.length ≤ 9223372036854775807) : FC Cx 68 [bZ l, bZ m] [] (Bv (decide (l = m))) [] := by
 have hlen : (l.map strR).length = l.length := List.length_map ..
 have hlen' : (m.map strR).length = m.length := List.length_map ..
 refine aD [] Tryz.func68 Tryz.ntmps68 Tryz.results68 ?_
 (any_goals refine go lv68 0 ?_)
 repeat' (first | (refine Br.go (fun h h' => ?_) (fun h h' => ?_)) | (refine Br.mk (fun h => ?_) (fun h => ?_)))
 ·simp only [go_sem]
  have : l ≠ m := fun he => h' (by rw [he])
  simp [this]
 have hlm : l.length = m.length := by omega
 refine eB [0, 1, 12, 13] (fun i => i ≤ l.length ∧ ∀ j, j < i → l[j]? = m[j]?) (fun (i : Nat) => ⟨26, [(0, bZ l), (1, bZ m), (12, Iv m.length), (13, Iv i)], []⟩) (fun i => l.length - i) 0 rfl rfl rfl ⟨Nat.zero_le _, fun j hj => by omega⟩ ?_
 rintro i ⟨hi, hno⟩
 by_cases hlt : i < l.length
 ·obtain ⟨x, hx⟩ : ∃ x, l[i]? = some x := ⟨l[i], List.getElem?_eq_getElem hlt⟩
  obtain ⟨y, hy⟩ : ∃ y, m[i]? = some y := ⟨m[i], List.getElem?_eq_getElem (by omega)⟩
  have hg := aE strR hx ([] : List RV)
  have hg' := aE strR hy ([] : List RV)
  have hw : IntKind.i64.wrap ((i : Int) + 1) = ((i + 1 : Nat) : Int) := by rw [aN] <;> omega
  have h1 : decide ((i : Int) < (m.length : Int)) = true := by rw [decide_eq_true_eq]; omega
  have h2 : Int.toNat (i : Int) = i := by omega
  (any_goals refine go lv68 0 ?_)
  repeat' (first | (refine Br.go (fun h h' => ?_) (fun h h' => ?_)) | (refine Br.mk (fun h => ?_) (fun h => ?_)))
  all_goals (try simp only [go_sem])
  ·have h9 := h
   have : l ≠ m := fun he => by
    rw [he] at hx; rw [hx] at hy
    have := Option.some.inj hy
    subst this
    simp at h9
   simp [this]
  ·refine ⟨i + 1, ⟨by omega, fun j hj => ?_⟩, by omega, fI [0, 1, 12, 13] rfl rfl rfl⟩
   rcases Nat.lt_succ_iff_lt_or_eq.1 hj with h3 | h3
   ·exact hno j h3
   ·rw [h3, hx, hy]; exact congrArg some (by first | exact h' | exact Prod.ext h'.1 h'.2 | (cases x; cases y; simp_all))
 ·have h1 : decide ((i : Int) < (m.length : Int)) = false := by rw [decide_eq_false_iff_not]; omega
  (any_goals refine go lv68 0 ?_)
  all_goals (try simp only [go_sem])
  have : l = m := List.ext_getElem? fun j => by
   by_cases hj : j < i
   ·exact hno j hj
   ·rw [List.getElem?_eq_none (by omega), List.getElem?_eq_none (by omega)]
  simp [this]
theorem Zz (xs ys : List (List RV)) (h : xs = (strsOf xs).map strR ∧ ys = (strsOf ys).map strR ∧ xs.length ≤ 9223372036854775807) : FC Cx 68 [.r (.rs 1 xs), .r (.rs 1 ys)] [] (Bv (decide (strsOf xs = strsOf ys))) [] := by
 have := aG2 (strsOf xs) (strsOf ys) (by simpa [strsOf] using h.2.2)
 rwa [pL h.1, pL h.2.1] at this
def tS (args : List AV) (K : AV → Prop) : Prop := match args with
 | [.r (.rs 1 xs), .r (.rs 1 ys)] => (xs = (strsOf xs).map strR ∧ ys = (strsOf ys).map strR ∧ xs.length ≤ 9223372036854775807) ∧ K (Bv (decide (strsOf xs = strsOf ys)))
 | _ => False
noncomputable abbrev pR : Ct Cx := .pure 68 tS fun args K h => by
 unfold tS at h; split at h; exact ⟨_, aA (Zz _ _ h.1) en68 rfl rfl, h.2⟩; exact h.elim
@[go_sem] theorem aEt : type_of% @tS.eq_def := @tS.eq_def
theorem aHp (l m : List (Int × Int)) (hl : l.length ≤ 9223372036854775807) : FC Cx 130 [cM l, cM m] [] (Bv (decide (l = m))) [] := by
 have hlen : (l.map tryR).length = l.length := List.length_map ..
 have hlen' : (m.map tryR).length = m.length := List.length_map ..
 refine aD [] Tryz.func130 Tryz.ntmps130 Tryz.results130 ?_
 (any_goals refine go Ya 0 ?_)
 repeat' (first | (refine Br.go (fun h h' => ?_) (fun h h' => ?_)) | (refine Br.mk (fun h => ?_) (fun h => ?_)))
 ·simp only [go_sem]
  have : l ≠ m := fun he => h' (by rw [he])
  simp [this]
 have hlm : l.length = m.length := by omega
 refine eB [0, 1, 12, 13] (fun i => i ≤ l.length ∧ ∀ j, j < i → l[j]? = m[j]?) (fun (i : Nat) => ⟨26, [(0, cM l), (1, cM m), (12, Iv m.length), (13, Iv i)], []⟩) (fun i => l.length - i) 0 rfl rfl rfl ⟨Nat.zero_le _, fun j hj => by omega⟩ ?_
 rintro i ⟨hi, hno⟩
 by_cases hlt : i < l.length
 ·obtain ⟨x, hx⟩ : ∃ x, l[i]? = some x := ⟨l[i], List.getElem?_eq_getElem hlt⟩
  obtain ⟨y, hy⟩ : ∃ y, m[i]? = some y := ⟨m[i], List.getElem?_eq_getElem (by omega)⟩
  have hg := aE tryR hx ([] : List RV)
  have hg' := aE tryR hy ([] : List RV)
  have hw : IntKind.i64.wrap ((i : Int) + 1) = ((i + 1 : Nat) : Int) := by rw [aN] <;> omega
  have h1 : decide ((i : Int) < (m.length : Int)) = true := by rw [decide_eq_true_eq]; omega
  have h2 : Int.toNat (i : Int) = i := by omega
  (any_goals refine go Ya 0 ?_)
  repeat' (first | (refine Br.go (fun h h' => ?_) (fun h h' => ?_)) | (refine Br.mk (fun h => ?_) (fun h => ?_)))
  all_goals (try simp only [go_sem])
  ·have h9 := h
   have : l ≠ m := fun he => by
    rw [he] at hx; rw [hx] at hy
    have := Option.some.inj hy
    subst this
    simp at h9
   simp [this]
  ·refine ⟨i + 1, ⟨by omega, fun j hj => ?_⟩, by omega, fI [0, 1, 12, 13] rfl rfl rfl⟩
   rcases Nat.lt_succ_iff_lt_or_eq.1 hj with h3 | h3
   ·exact hno j h3
   ·rw [h3, hx, hy]; exact congrArg some (by first | exact h' | exact Prod.ext h'.1 h'.2 | (cases x; cases y; simp_all))
 ·have h1 : decide ((i : Int) < (m.length : Int)) = false := by rw [decide_eq_false_iff_not]; omega
  (any_goals refine go Ya 0 ?_)
  all_goals (try simp only [go_sem])
  have : l = m := List.ext_getElem? fun j => by
   by_cases hj : j < i
   ·exact hno j hj
   ·rw [List.getElem?_eq_none (by omega), List.getElem?_eq_none (by omega)]
  simp [this]
theorem aAt (xs ys : List (List RV)) (h : xs = (triesOf xs).map tryR ∧ ys = (triesOf ys).map tryR ∧ xs.length ≤ 9223372036854775807) : FC Cx 130 [.r (.rs 2 xs), .r (.rs 2 ys)] [] (Bv (decide (triesOf xs = triesOf ys))) [] := by
 have := aHp (triesOf xs) (triesOf ys) (by simpa [triesOf] using h.2.2)
 rwa [iP h.1, iP h.2.1] at this
def tJ (args : List AV) (K : AV → Prop) : Prop := match args with
 | [.r (.rs 2 xs), .r (.rs 2 ys)] => (xs = (triesOf xs).map tryR ∧ ys = (triesOf ys).map tryR ∧ xs.length ≤ 9223372036854775807) ∧ K (Bv (decide (triesOf xs = triesOf ys)))
 | _ => False
noncomputable abbrev fS : Ct Cx := .pure 130 tJ fun args K h => by
 unfold tJ at h; split at h; exact ⟨_, aA (aAt _ _ h.1) aR3 rfl rfl, h.2⟩; exact h.elim
@[go_sem] theorem aFe : type_of% @tJ.eq_def := @tJ.eq_def
structure InsT where
 op : Int
 a : Int
 b : Int
 c : Int
 line : Int
 deriving DecidableEq
structure FnT where
 params : Int
 regs : Int
 gen : Bool
 caught : List Int
 code : List InsT
structure aI where
 fns : List FnT
 consts : List (Int × Int)
 texts : List ByteArray
abbrev intR (n : Int) : List RV := [.v (.int .i64 n)]
abbrev dF (l : List Int) : AV := .r (.rs 1 (l.map intR))
abbrev valR (p : Int × Int) : List RV := [.v (.int .i64 p.1), .v (.int .i64 p.2)]
abbrev aT (l : List (Int × Int)) : AV := .r (.rs 2 (l.map valR))
abbrev valA (p : Int × Int) : AV := .agg [Iv p.1, Iv p.2]
abbrev strA (s : ByteArray) : AV := .r (.v (.string s))
abbrev intA (n : Int) : AV := .r (.v (.int .i64 n))
abbrev insR (i : InsT) : List RV := [.v (.int .i64 i.op), .v (.int .i64 i.a), .v (.int .i64 i.b), .v (.int .i64 i.c), .v (.int .i64 i.line)]
abbrev insA (i : InsT) : AV := .agg [Iv i.op, Iv i.a, Iv i.b, Iv i.c, Iv i.line]
abbrev nQ (l : List InsT) : AV := .r (.rs 5 (l.map insR))
abbrev fnR (f : FnT) : List RV := [.v (.int .i64 f.params), .v (.int .i64 f.regs), .v (.bool f.gen), .rs 1 (f.caught.map intR), .rs 5 (f.code.map insR)]
abbrev fnA (f : FnT) : AV := .agg [Iv f.params, Iv f.regs, Bv f.gen, dF f.caught, nQ f.code]
abbrev fnsV (l : List FnT) : AV := .r (.rs 5 (l.map fnR))
abbrev cQ (p : aI) : List RV := [.rs 5 (p.fns.map fnR), .rs 2 (p.consts.map valR), .rs 1 (p.texts.map strR)]
abbrev bC (p : aI) : AV := .agg [fnsV p.fns, aT p.consts, bZ p.texts]
def aK (xs : List (List RV)) : List Int := xs.map fun r => match r with | [.v (.int _ n)] => n | _ => 0
def valsOf (xs : List (List RV)) : List (Int × Int) := xs.map fun r => match r with | [.v (.int _ n), .v (.int _ m)] => (n, m) | _ => (0, 0)
def aS (xs : List (List RV)) : List InsT := xs.map fun r => match r with | [.v (.int _ o), .v (.int _ a), .v (.int _ b), .v (.int _ c), .v (.int _ l)] => ⟨o, a, b, c, l⟩ | _ => ⟨0, 0, 0, 0, 0⟩
def fnsOf (xs : List (List RV)) : List FnT := xs.map fun r => match r with | [.v (.int _ p), .v (.int _ g), .v (.bool b), .rs _ cs, .rs _ is] => ⟨p, g, b, aK cs, aS is⟩ | _ => ⟨0, 0, false, [], []⟩
@[go_sem] theorem uM (l : List Int) : aK (l.map intR) = l := by
 unfold aK; rw [List.map_map]; conv => rhs; rw [← List.map_id l]
 exact List.map_congr_left fun x _ => rfl
@[go_sem] theorem qW (l : List (Int × Int)) : valsOf (l.map valR) = l := by
 unfold valsOf; rw [List.map_map]; conv => rhs; rw [← List.map_id l]
 exact List.map_congr_left fun x _ => rfl
@[go_sem] theorem Bn (l : List InsT) : aS (l.map insR) = l := by
 unfold aS; rw [List.map_map]; conv => rhs; rw [← List.map_id l]
 exact List.map_congr_left fun x _ => rfl
@[go_sem] theorem aQm (l : List FnT) : fnsOf (l.map fnR) = l := by
 unfold fnsOf; rw [List.map_map]; conv => rhs; rw [← List.map_id l]
 refine List.map_congr_left fun x _ => ?_
 show (⟨x.params, x.regs, x.gen, aK (x.caught.map intR), aS (x.code.map insR)⟩ : FnT) = x
 rw [uM, Bn]
theorem Ei {xs : List (List RV)} (h : xs = (aK xs).map intR) : dF (aK xs) = .r (.rs 1 xs) := congrArg (fun z => AV.r (RV.rs 1 z)) h.symm
theorem fM {xs : List (List RV)} (h : xs = (valsOf xs).map valR) : aT (valsOf xs) = .r (.rs 2 xs) := congrArg (fun z => AV.r (RV.rs 2 z)) h.symm
theorem Ex {xs : List (List RV)} (h : xs = (aS xs).map insR) : nQ (aS xs) = .r (.rs 5 xs) := congrArg (fun z => AV.r (RV.rs 5 z)) h.symm
theorem Lk {xs : List (List RV)} (h : xs = (fnsOf xs).map fnR) : fnsV (fnsOf xs) = .r (.rs 5 xs) := congrArg (fun z => AV.r (RV.rs 5 z)) h.symm
@[go_sem] theorem aY1 (f : FnT) : FnT.mk f.params f.regs f.gen f.caught f.code = f := rfl
@[go_sem] theorem aYl (i : InsT) : InsT.mk i.op i.a i.b i.c i.line = i := rfl
@[go_sem] theorem aVz (p : aI) : aI.mk p.fns p.consts p.texts = p := rfl
@[go_sem] theorem aYm (p : Int × Int) : (p.1, p.2) = p := rfl
def fidx {α : Type} (p : α → Bool) : List α → Int
 | [] => -1
 | x :: l => if p x = true then 0 else if fidx p l < 0 then -1 else fidx p l + 1
theorem Qx {α : Type} (p : α → Bool) : ∀ l : List α, -1 ≤ fidx p l
 | [] => by simp [fidx]
 | x :: l => by
  have := Qx p l
  unfold fidx; split
  ·omega
  ·split <;> omega
theorem jH {α : Type} {p : α → Bool} {x : α} : ∀ {l : List α} {i : Nat}, l[i]? = some x → p x = true → (∀ j y, j < i → l[j]? = some y → p y = false) → fidx p l = i
 | y :: l, 0, h, hp, _ => by simp at h; subst h; simp [fidx, hp]
 | y :: l, i + 1, h, hp, hno => by
  have h0 := hno 0 y (by omega) rfl
  have ih := jH (l := l) (i := i) (by simpa using h) hp fun j z hj hz => hno (j + 1) z (by omega) (by simpa using hz)
  unfold fidx
  rw [h0, if_neg (by simp), ih, if_neg (by omega)]
  omega
theorem gR {α : Type} {p : α → Bool} : ∀ {l : List α}, (∀ (j : Nat) y, l[j]? = some y → p y = false) → fidx p l = -1
 | [], _ => rfl
 | y :: l, h => by
  have ih := gR (p := p) (l := l) fun j z hz => h (j + 1) z (by simpa using hz)
  unfold fidx
  rw [h 0 y rfl, if_neg (by simp), ih]; rfl
theorem iN {α : Type} (p : α → Bool) : ∀ l : List α, decide (fidx p l ≥ 0) = l.any p
 | [] => rfl
 | x :: l => by
  have ih := iN p l
  have hge := Qx p l
  unfold fidx
  cases hp : p x with
  | true => simp [hp]
  | false =>
   rw [if_neg (by simp), List.any_cons, hp, Bool.false_or, ← ih]
   by_cases h : fidx p l < 0
   ·rw [if_pos h, decide_eq_false (by omega), decide_eq_false (by omega)]
   ·rw [if_neg h, decide_eq_true (by omega), decide_eq_true (by omega)]
@[go_sem] theorem aOq {α : Type} (p : α → Bool) (l : List α) : decide (0 ≤ fidx p l) = l.any p := iN p l
def spF (caps : List RV) (dom : AV → Prop) (pv : AV → Bool) (args : List AV) (K : AV → Prop) : Prop := match args with
 | y :: ys => (dom y ∧ ys = caps.map .r) ∧ K (Bv (pv y))
 | [] => False
theorem aLn {C : Ctx} {f : Nat} {caps : List RV} {dom : AV → Prop} {pv : AV → Bool} (h : ∀ y, dom y → aQ C f (y :: caps.map AV.r) (Bv (pv y))) (args : List AV) (K : AV → Prop) (hs : spF caps dom pv args K) : ∃ r, aQ C f args r ∧ K r := by
 unfold spF at hs
 split at hs
 ·obtain ⟨⟨h1, rfl⟩, h2⟩ := hs
  exact ⟨_, h _ h1, h2⟩
 ·exact hs.elim
noncomputable def ctF {C : Ctx} (f : Nat) (caps : List RV) (dom : AV → Prop) (pv : AV → Bool) (h : ∀ y, dom y → aQ C f (y :: caps.map AV.r) (Bv (pv y))) : Ct C := .pure f (spF caps dom pv) (aLn h)
@[go_sem] theorem aY6 {C : Ctx} (f : Nat) (caps : List RV) (dom : AV → Prop) (pv : AV → Bool) (h : ∀ y, dom y → aQ C f (y :: caps.map AV.r) (Bv (pv y))) : (ctF f caps dom pv h).g = f := rfl
@[go_sem] theorem aYh {C : Ctx} (f : Nat) (caps : List RV) (dom : AV → Prop) (pv : AV → Bool) (h : ∀ y, dom y → aQ C f (y :: caps.map AV.r) (Bv (pv y))) (c : Call) (fop : Operand) (cs : List AV) (o : Oper) (st : St) (K : List Loc → List (Loc × Cont) → Prop) : (ctF f caps dom pv h).run c fop cs o st K = vY C (spF caps dom pv) c fop cs o st K := rfl
@[go_sem] theorem aYt (caps : List RV) (dom : AV → Prop) (pv : AV → Bool) (y : AV) (ys : List AV) (K : AV → Prop) : spF caps dom pv (y :: ys) K = ((dom y ∧ ys = caps.map .r) ∧ K (Bv (pv y))) := rfl
def spE (args : List AV) (r : AV) (args' : List AV) (K : AV → Prop) : Prop := args' = args ∧ K r
theorem aMl {C : Ctx} {f : Nat} {args : List AV} {r : AV} (h : ∀ y, y = args → aQ C f y r) (args' : List AV) (K : AV → Prop) (hs : spE args r args' K) : ∃ r, aQ C f args' r ∧ K r := ⟨r, h _ hs.1, hs.2⟩
noncomputable def ctE {C : Ctx} (f : Nat) (args : List AV) (r : AV) (h : ∀ y, y = args → aQ C f y r) : Ct C := .pure f (spE args r) (aMl h)
@[go_sem] theorem aY7 {C : Ctx} (f : Nat) (args : List AV) (r : AV) (h : ∀ y, y = args → aQ C f y r) : (ctE f args r h).g = f := rfl
@[go_sem] theorem aYi {C : Ctx} (f : Nat) (args : List AV) (r : AV) (h : ∀ y, y = args → aQ C f y r) (c : Call) (fop : Operand) (cs : List AV) (o : Oper) (st : St) (K : List Loc → List (Loc × Cont) → Prop) : (ctE f args r h).run c fop cs o st K = vY C (spE args r) c fop cs o st K := rfl
attribute [go_sem] spE
@[go_sem] theorem Yt (st : St) : ∀ (caps : List RV) (K : List Loc → List AV → Prop), sA st (caps.map AV.r) K = K [] (caps.map AV.r)
 | [], K => rfl
 | x :: l, K => by
  simp only [List.map_cons, sA, aEj]
  rw [Yt st l]; rfl
theorem Vd (l : List ByteArray) (f : Nat) (caps : List RV) (dom : AV → Prop) (pv : AV → Bool) (h : ∀ y, dom y → aQ Cx f (y :: caps.map AV.r) (Bv (pv y))) (hd : ∀ x ∈ l, dom (strA x)) (hl : l.length ≤ 9223372036854775807) :
  FC Cx 151 [bZ l, .r (.fn f caps)] [] (Iv (fidx (fun x => pv (strA x)) l)) [] := by
 have hlen : (l.map strR).length = l.length := List.length_map ..
 refine aD [ctF f caps dom pv h] Tryz.func151 Tryz.ntmps151 Tryz.results151 ?_
 (any_goals refine go Su 0 ?_)
 refine eB [0, 1, 7, 8] (fun i => i ≤ l.length ∧ ∀ j x, j < i → l[j]? = some x → pv (strA x) = false) (fun (i : Nat) => ⟨19, [(0, bZ l), (1, .r (.fn f caps)), (7, Iv l.length), (8, Iv i)], []⟩) (fun i => l.length - i) 0 rfl (by rw [← hlen]; rfl) rfl ⟨Nat.zero_le _, fun j x hj => by omega⟩ ?_
 rintro i ⟨hi, hno⟩
 by_cases hlt : i < l.length
 ·obtain ⟨x, hx⟩ : ∃ x, l[i]? = some x := ⟨l[i], List.getElem?_eq_getElem hlt⟩
  have hg := aE strR hx ([] : List RV)
  have hdx := hd x (List.mem_of_getElem? hx)
  have hw : IntKind.i64.wrap ((i : Int) + 1) = ((i + 1 : Nat) : Int) := by rw [aN] <;> omega
  have h1 : decide ((i : Int) < (l.length : Int)) = true := by rw [decide_eq_true_eq]; omega
  have h2 : Int.toNat (i : Int) = i := by omega
  cases hp : pv (strA x) with
  | true =>
   (any_goals refine go Su 0 ?_)
   all_goals (try simp only [go_sem])
   rw [jH hx hp fun j y hj hy => hno j y hj hy]
  | false =>
   (any_goals refine go Su 0 ?_)
   refine ⟨i + 1, ⟨by omega, fun j y hj hy => ?_⟩, by omega, fI [0, 1, 7, 8] rfl rfl rfl⟩
   rcases Nat.lt_succ_iff_lt_or_eq.1 hj with h3 | h3
   ·exact hno j y h3 hy
   ·subst h3; rw [hx] at hy; cases hy; exact hp
 ·have h1 : decide ((i : Int) < (l.length : Int)) = false := by rw [decide_eq_false_iff_not]; omega
  (any_goals refine go Su 0 ?_)
  all_goals (try simp only [go_sem])
  rw [gR fun j y hy => hno j y (by have := (List.getElem?_eq_some_iff.1 hy).1; omega) hy]
theorem Ji (l : List ByteArray) (f : Nat) (caps : List RV) (dom : AV → Prop) (pv : AV → Bool) (h : ∀ y, dom y → aQ Cx f (y :: caps.map AV.r) (Bv (pv y))) (hd : ∀ x ∈ l, dom (strA x)) (hl : l.length ≤ 9223372036854775807) :
  FC Cx 99 [bZ l, .r (.fn f caps)] [] (Bv (l.any fun x => pv (strA x))) [] := by
 have hA : ∀ y, y = [bZ l, .r (.fn f caps)] → aQ Cx 151 y (Iv (fidx (fun x => pv (strA x)) l)) := fun y hy => by
  subst hy; exact aA (Vd l f caps dom pv h hd hl) aT4 rfl rfl
 refine aD [ctE 151 [bZ l, .r (.fn f caps)] (Iv (fidx (fun x => pv (strA x)) l)) hA] Tryz.func99 Tryz.ntmps99 Tryz.results99 ?_
 (any_goals refine go lv99 0 ?_)
 all_goals (try simp only [go_sem])
 all_goals (try rw [iN])
abbrev jU (p : aI) (f : FnT) : AV := .agg [fnsV p.fns, aT p.consts, bZ p.texts, Iv f.params, Iv f.regs, Bv f.gen, dF f.caught, nQ f.code]
theorem kA {xs ys zs : List (List RV)} (h : xs = (fnsOf xs).map fnR ∧ ys = (valsOf ys).map valR ∧ zs = (strsOf zs).map strR) : bC ⟨fnsOf xs, valsOf ys, strsOf zs⟩ = .agg [.r (.rs 5 xs), .r (.rs 2 ys), .r (.rs 1 zs)] := by
 show AV.agg [fnsV (fnsOf xs), aT (valsOf ys), bZ (strsOf zs)] = _
 rw [Lk h.1, fM h.2.1, pL h.2.2]
theorem Eg {pa rg : Int} {ge : Bool} {us vs : List (List RV)} (h : us = (aK us).map intR ∧ vs = (aS vs).map insR) : fnA ⟨pa, rg, ge, aK us, aS vs⟩ = .agg [Iv pa, Iv rg, Bv ge, .r (.rs 1 us), .r (.rs 5 vs)] := by
 show AV.agg [Iv pa, Iv rg, Bv ge, dF (aK us), nQ (aS vs)] = _
 rw [Ei h.1, Ex h.2]
theorem wA {xs ys zs : List (List RV)} {pa rg : Int} {ge : Bool} {us vs : List (List RV)} (h : (xs = (fnsOf xs).map fnR ∧ ys = (valsOf ys).map valR ∧ zs = (strsOf zs).map strR) ∧ us = (aK us).map intR ∧ vs = (aS vs).map insR) : jU ⟨fnsOf xs, valsOf ys, strsOf zs⟩ ⟨pa, rg, ge, aK us, aS vs⟩ = .agg [.r (.rs 5 xs), .r (.rs 2 ys), .r (.rs 1 zs), Iv pa, Iv rg, Bv ge, .r (.rs 1 us), .r (.rs 5 vs)] := by
 show AV.agg [fnsV (fnsOf xs), aT (valsOf ys), bZ (strsOf zs), Iv pa, Iv rg, Bv ge, dF (aK us), nQ (aS vs)] = _
 rw [Lk h.1.1, fM h.1.2.1, pL h.1.2.2, Ei h.2.1, Ex h.2.2]
structure Fok (f : FnT) : Prop where
 caught : f.caught.length ≤ 9223372036854775807
 code : f.code.length ≤ 9223372036854775807
 regs : 1 ≤ f.regs ∧ f.regs ≤ 60
structure Psz (p : aI) : Prop where
 fns : p.fns.length ≤ 9223372036854775807
 consts : p.consts.length ≤ 9223372036854775807
 texts : p.texts.length ≤ 9223372036854775807
def wiF (n lo hi : Int) : Bool := decide (lo ≤ n ∧ n ≤ hi)
theorem Us (n lo hi : Int) : FC Cx 156 [Iv n, Iv lo, Iv hi] [] (Bv (wiF n lo hi)) [] := by
 refine aD [] Tryz.func156 Tryz.ntmps156 Tryz.results156 ?_
 (any_goals refine go aS7 0 ?_)
 all_goals (try simp only [go_sem])
 all_goals simp_all [wiF]
 all_goals omega
def qV (args : List AV) (K : AV → Prop) : Prop := match args with
 | [.r (.v (.int .i64 n)), .r (.v (.int .i64 lo)), .r (.v (.int .i64 hi))] => K (Bv (wiF n lo hi))
 | _ => False
noncomputable abbrev cR : Ct Cx := .pure 156 qV fun args K h => by
 unfold qV at h; split at h; exact ⟨_, aA (Us _ _ _) aTm rfl rfl, h⟩; exact h.elim
@[go_sem] theorem aCz : type_of% @qV.eq_def := @qV.eq_def
theorem aQ4 (p : aI) (f : FnT) (n : Int) (h : Fok f) : FC Cx 158 [jU p f, Iv n] [] (Bv (wiF n 0 (f.regs - 1))) [] := by
 have hw : IntKind.i64.wrap (f.regs - 1) = f.regs - 1 := by have := h.regs; rw [aN] <;> omega
 refine aD [cR] Tryz.func158 Tryz.ntmps158 Tryz.results158 ?_
 refine goR ?_
 refine fzB 2 ?_
 (any_goals refine go aSf 0 ?_)
 all_goals (try simp only [go_sem])
theorem aLy (xs ys zs : List (List RV)) (pa rg : Int) (ge : Bool) (us vs : List (List RV)) (n : Int) (h : ((xs = (fnsOf xs).map fnR ∧ ys = (valsOf ys).map valR ∧ zs = (strsOf zs).map strR) ∧ us = (aK us).map intR ∧ vs = (aS vs).map insR) ∧ Fok ⟨pa, rg, ge, aK us, aS vs⟩) : FC Cx 158 [.agg [.r (.rs 5 xs), .r (.rs 2 ys), .r (.rs 1 zs), Iv pa, Iv rg, Bv ge, .r (.rs 1 us), .r (.rs 5 vs)], Iv n] [] (Bv (wiF n 0 (rg - 1))) [] := by
 have := aQ4 ⟨fnsOf xs, valsOf ys, strsOf zs⟩ ⟨pa, rg, ge, aK us, aS vs⟩ n h.2
 rwa [wA h.1] at this
def zZ (args : List AV) (K : AV → Prop) : Prop := match args with
 | [.agg [.r (.rs 5 xs), .r (.rs 2 ys), .r (.rs 1 zs), .r (.v (.int .i64 pa)), .r (.v (.int .i64 rg)), .r (.v (.bool ge)), .r (.rs 1 us), .r (.rs 5 vs)], .r (.v (.int .i64 n))] => (((xs = (fnsOf xs).map fnR ∧ ys = (valsOf ys).map valR ∧ zs = (strsOf zs).map strR) ∧ us = (aK us).map intR ∧ vs = (aS vs).map insR) ∧ Fok ⟨pa, rg, ge, aK us, aS vs⟩) ∧ K (Bv (wiF n 0 (rg - 1)))
 | _ => False
noncomputable abbrev iS : Ct Cx := .pure 158 zZ fun args K h => by
 unfold zZ at h; split at h; exact ⟨_, aA (aLy _ _ _ _ _ _ _ _ _ h.1) aVn rfl rfl, h.2⟩; exact h.elim
@[go_sem] theorem aL7 : type_of% @zZ.eq_def := @zZ.eq_def
theorem at_c (p : aI) (f : FnT) (n : Int) (h : Fok f) : FC Cx 183 [jU p f, Iv n] [] (Bv (wiF n 0 ((f.code.length : Int) - 1))) [] := by
 have hw : IntKind.i64.wrap ((f.code.length : Int) - 1) = (f.code.length : Int) - 1 := by have := h.code; rw [aN] <;> omega
 have hl : (f.code.map insR).length = f.code.length := List.length_map ..
 refine aD [cR] Tryz.func183 Tryz.ntmps183 Tryz.results183 ?_
 refine goR ?_
 refine fzB 2 ?_
 (any_goals refine go aXj 0 ?_)
 all_goals (try simp only [go_sem])
theorem aTl (xs ys zs : List (List RV)) (pa rg : Int) (ge : Bool) (us vs : List (List RV)) (n : Int) (h : ((xs = (fnsOf xs).map fnR ∧ ys = (valsOf ys).map valR ∧ zs = (strsOf zs).map strR) ∧ us = (aK us).map intR ∧ vs = (aS vs).map insR) ∧ Fok ⟨pa, rg, ge, aK us, aS vs⟩) : FC Cx 183 [.agg [.r (.rs 5 xs), .r (.rs 2 ys), .r (.rs 1 zs), Iv pa, Iv rg, Bv ge, .r (.rs 1 us), .r (.rs 5 vs)], Iv n] [] (Bv (wiF n 0 (((aS vs).length : Int) - 1))) [] := by
 have := at_c ⟨fnsOf xs, valsOf ys, strsOf zs⟩ ⟨pa, rg, ge, aK us, aS vs⟩ n h.2
 rwa [wA h.1] at this
def Gs (args : List AV) (K : AV → Prop) : Prop := match args with
 | [.agg [.r (.rs 5 xs), .r (.rs 2 ys), .r (.rs 1 zs), .r (.v (.int .i64 pa)), .r (.v (.int .i64 rg)), .r (.v (.bool ge)), .r (.rs 1 us), .r (.rs 5 vs)], .r (.v (.int .i64 n))] => (((xs = (fnsOf xs).map fnR ∧ ys = (valsOf ys).map valR ∧ zs = (strsOf zs).map strR) ∧ us = (aK us).map intR ∧ vs = (aS vs).map insR) ∧ Fok ⟨pa, rg, ge, aK us, aS vs⟩) ∧ K (Bv (wiF n 0 (((aS vs).length : Int) - 1)))
 | _ => False
noncomputable abbrev aNp : Ct Cx := .pure 183 Gs fun args K h => by
 unfold Gs at h; split at h; exact ⟨_, aA (aTl _ _ _ _ _ _ _ _ _ h.1) aSj rfl rfl, h.2⟩; exact h.elim
@[go_sem] theorem aQj : type_of% @Gs.eq_def := @Gs.eq_def
theorem aKd (p : aI) (f : FnT) (n : Int) (h : Psz p) : FC Cx 182 [jU p f, Iv n] [] (Bv (wiF n 0 ((p.texts.length : Int) - 1))) [] := by
 have hw : IntKind.i64.wrap ((p.texts.length : Int) - 1) = (p.texts.length : Int) - 1 := by have := h.texts; rw [aN] <;> omega
 have hl : (p.texts.map strR).length = p.texts.length := List.length_map ..
 refine aD [cR] Tryz.func182 Tryz.ntmps182 Tryz.results182 ?_
 refine goR ?_
 refine fzB 2 ?_
 (any_goals refine go aR4 0 ?_)
 all_goals (try simp only [go_sem])
theorem aG0 (xs ys zs : List (List RV)) (pa rg : Int) (ge : Bool) (us vs : List (List RV)) (n : Int) (h : ((xs = (fnsOf xs).map fnR ∧ ys = (valsOf ys).map valR ∧ zs = (strsOf zs).map strR) ∧ us = (aK us).map intR ∧ vs = (aS vs).map insR) ∧ Psz ⟨fnsOf xs, valsOf ys, strsOf zs⟩) : FC Cx 182 [.agg [.r (.rs 5 xs), .r (.rs 2 ys), .r (.rs 1 zs), Iv pa, Iv rg, Bv ge, .r (.rs 1 us), .r (.rs 5 vs)], Iv n] [] (Bv (wiF n 0 (((strsOf zs).length : Int) - 1))) [] := by
 have := aKd ⟨fnsOf xs, valsOf ys, strsOf zs⟩ ⟨pa, rg, ge, aK us, aS vs⟩ n h.2
 rwa [wA h.1] at this
def vZ (args : List AV) (K : AV → Prop) : Prop := match args with
 | [.agg [.r (.rs 5 xs), .r (.rs 2 ys), .r (.rs 1 zs), .r (.v (.int .i64 pa)), .r (.v (.int .i64 rg)), .r (.v (.bool ge)), .r (.rs 1 us), .r (.rs 5 vs)], .r (.v (.int .i64 n))] => (((xs = (fnsOf xs).map fnR ∧ ys = (valsOf ys).map valR ∧ zs = (strsOf zs).map strR) ∧ us = (aK us).map intR ∧ vs = (aS vs).map insR) ∧ Psz ⟨fnsOf xs, valsOf ys, strsOf zs⟩) ∧ K (Bv (wiF n 0 (((strsOf zs).length : Int) - 1)))
 | _ => False
noncomputable abbrev Xv : Ct Cx := .pure 182 vZ fun args K h => by
 unfold vZ at h; split at h; exact ⟨_, aA (aG0 _ _ _ _ _ _ _ _ _ h.1) aU0 rfl rfl, h.2⟩; exact h.elim
@[go_sem] theorem aIo : type_of% @vZ.eq_def := @vZ.eq_def
def namesF (p : aI) (f : FnT) (c n : Int) : Bool :=
 if c = 114 then wiF n 0 (f.regs - 1) else if c = 107 then wiF n 0 ((p.consts.length : Int) - 1) else if c = 116 then wiF n 0 ((p.texts.length : Int) - 1) else if c = 97 then wiF n 0 ((f.code.length : Int) - 1) else
 if c = 117 then wiF n 0 ((f.caught.length : Int) - 1) else if c = 102 then wiF n 1 ((p.fns.length : Int) - 1) else if c = 108 ∨ c = 99 ∨ c = 110 then wiF n 0 f.regs else decide (n = 0)
theorem Hy (p : aI) (f : FnT) (c n : Int) (hf : Fok f) (hp : Psz p) : FC Cx 157 [jU p f, .r (.v (.int .u8 c)), Iv n] [] (Bv (namesF p f c n)) [] := by
 have hw1 : IntKind.i64.wrap ((p.consts.length : Int) - 1) = (p.consts.length : Int) - 1 := by have := hp.consts; rw [aN] <;> omega
 have hw2 : IntKind.i64.wrap ((f.caught.length : Int) - 1) = (f.caught.length : Int) - 1 := by have := hf.caught; rw [aN] <;> omega
 have hw3 : IntKind.i64.wrap ((p.fns.length : Int) - 1) = (p.fns.length : Int) - 1 := by have := hp.fns; rw [aN] <;> omega
 have hl1 : (p.consts.map valR).length = p.consts.length := List.length_map ..
 have hl2 : (f.caught.map intR).length = f.caught.length := List.length_map ..
 have hl3 : (p.fns.map fnR).length = p.fns.length := List.length_map ..
 refine aD [cR, iS, aNp, Xv] Tryz.func157 Tryz.ntmps157 Tryz.results157 ?_
 refine goR ?_
 refine fzB 3 ?_
 (any_goals refine go aUq 0 ?_)
 repeat' (first | (refine Br.go (fun h h' => ?_) (fun h h' => ?_)) | (refine Br.mk (fun h => ?_) (fun h => ?_)))
 all_goals (try simp only [go_sem])
 all_goals (simp_all [namesF])
theorem aA0 (xs ys zs : List (List RV)) (pa rg : Int) (ge : Bool) (us vs : List (List RV)) (c n : Int) (h : ((xs = (fnsOf xs).map fnR ∧ ys = (valsOf ys).map valR ∧ zs = (strsOf zs).map strR) ∧ us = (aK us).map intR ∧ vs = (aS vs).map insR) ∧ Fok ⟨pa, rg, ge, aK us, aS vs⟩ ∧ Psz ⟨fnsOf xs, valsOf ys, strsOf zs⟩) : FC Cx 157 [.agg [.r (.rs 5 xs), .r (.rs 2 ys), .r (.rs 1 zs), Iv pa, Iv rg, Bv ge, .r (.rs 1 us), .r (.rs 5 vs)], .r (.v (.int .u8 c)), Iv n] [] (Bv (namesF ⟨fnsOf xs, valsOf ys, strsOf zs⟩ ⟨pa, rg, ge, aK us, aS vs⟩ c n)) [] := by
 have := Hy ⟨fnsOf xs, valsOf ys, strsOf zs⟩ ⟨pa, rg, ge, aK us, aS vs⟩ c n h.2.1 h.2.2
 rwa [wA h.1] at this
def sZ (args : List AV) (K : AV → Prop) : Prop := match args with
 | [.agg [.r (.rs 5 xs), .r (.rs 2 ys), .r (.rs 1 zs), .r (.v (.int .i64 pa)), .r (.v (.int .i64 rg)), .r (.v (.bool ge)), .r (.rs 1 us), .r (.rs 5 vs)], .r (.v (.int .u8 c)), .r (.v (.int .i64 n))] => (((xs = (fnsOf xs).map fnR ∧ ys = (valsOf ys).map valR ∧ zs = (strsOf zs).map strR) ∧ us = (aK us).map intR ∧ vs = (aS vs).map insR) ∧ Fok ⟨pa, rg, ge, aK us, aS vs⟩ ∧ Psz ⟨fnsOf xs, valsOf ys, strsOf zs⟩) ∧ K (Bv (namesF ⟨fnsOf xs, valsOf ys, strsOf zs⟩ ⟨pa, rg, ge, aK us, aS vs⟩ c n))
 | _ => False
noncomputable abbrev gA : Ct Cx := .pure 157 sZ fun args K h => by
 unfold sZ at h; split at h; exact ⟨_, aA (aA0 _ _ _ _ _ _ _ _ _ _ h.1) aWf rfl rfl, h.2⟩; exact h.elim
@[go_sem] theorem aEf : type_of% @sZ.eq_def := @sZ.eq_def
def Hl : List ByteArray := [⟨#[]⟩, ⟨#[114, 107, 45]⟩, ⟨#[114, 114, 45]⟩, ⟨#[114, 114, 114]⟩, ⟨#[114, 114, 114]⟩, ⟨#[114, 114, 114]⟩, ⟨#[114, 114, 114]⟩, ⟨#[114, 114, 114]⟩, ⟨#[114, 114, 114]⟩, ⟨#[114, 114, 114]⟩, ⟨#[114, 114, 114]⟩, ⟨#[114, 114, 45]⟩, ⟨#[114, 114, 45]⟩, ⟨#[97, 45, 45]⟩, ⟨#[97, 45, 45]⟩, ⟨#[114, 97, 45]⟩, ⟨#[114, 45, 45]⟩, ⟨#[114, 114, 116]⟩, ⟨#[114, 116, 114]⟩, ⟨#[114, 108, 110]⟩, ⟨#[114, 114, 114]⟩, ⟨#[114, 114, 114]⟩, ⟨#[114, 45, 45]⟩, ⟨#[114, 114, 45]⟩, ⟨#[114, 114, 45]⟩, ⟨#[114, 117, 45]⟩, ⟨#[114, 102, 45]⟩, ⟨#[114, 99, 110]⟩, ⟨#[114, 45, 45]⟩, ⟨#[114, 45, 45]⟩, ⟨#[114, 97, 45]⟩, ⟨#[45, 45, 45]⟩, ⟨#[114, 114, 45]⟩, ⟨#[114, 45, 45]⟩, ⟨#[114, 45, 45]⟩, ⟨#[114, 114, 45]⟩, ⟨#[114, 114, 45]⟩, ⟨#[114, 45, 45]⟩, ⟨#[114, 45, 45]⟩]
def bH (op : Int) : ByteArray := if op < 1 ∨ 39 ≤ op then ⟨#[]⟩ else Hl.getD op.toNat ⟨#[]⟩
theorem ors {op : Int} (h : ¬ (op < 1 ∨ 39 ≤ op)) : op = 1 ∨ op = 2 ∨ op = 3 ∨ op = 4 ∨ op = 5 ∨ op = 6 ∨ op = 7 ∨ op = 8 ∨ op = 9 ∨ op = 10 ∨ op = 11 ∨ op = 12 ∨ op = 13 ∨ op = 14 ∨ op = 15 ∨ op = 16 ∨ op = 17 ∨ op = 18 ∨ op = 19 ∨ op = 20 ∨ op = 21 ∨ op = 22 ∨ op = 23 ∨ op = 24 ∨ op = 25 ∨ op = 26 ∨ op = 27 ∨ op = 28 ∨ op = 29 ∨ op = 30 ∨ op = 31 ∨ op = 32 ∨ op = 33 ∨ op = 34 ∨ op = 35 ∨ op = 36 ∨ op = 37 ∨ op = 38 := by omega
theorem By {op : Int} (h : ¬ (op < 1 ∨ 39 ≤ op)) : (bH op).size = 3 := by
 rcases ors h with rfl | rfl | rfl | rfl | rfl | rfl | rfl | rfl | rfl | rfl | rfl | rfl | rfl | rfl | rfl | rfl | rfl | rfl | rfl | rfl | rfl | rfl | rfl | rfl | rfl | rfl | rfl | rfl | rfl | rfl | rfl | rfl | rfl | rfl | rfl | rfl | rfl | rfl <;> rfl
theorem aLa (op : Int) : FC Cx 155 [Iv op] [] (Sv (bH op)) [] := by
 have hd : ∀ (h : ¬ (op < 1 ∨ 39 ≤ op)), List.drop op.toNat (Hl.map fun s => RV.v (.string s)) = .v (.string (bH op)) :: List.drop (op.toNat + 1) (Hl.map fun s => RV.v (.string s)) := fun h => by
  rcases ors h with rfl | rfl | rfl | rfl | rfl | rfl | rfl | rfl | rfl | rfl | rfl | rfl | rfl | rfl | rfl | rfl | rfl | rfl | rfl | rfl | rfl | rfl | rfl | rfl | rfl | rfl | rfl | rfl | rfl | rfl | rfl | rfl | rfl | rfl | rfl | rfl | rfl | rfl <;> rfl
 simp only [Hl, List.map_cons, List.map_nil] at hd
 refine aD [] Tryz.func155 Tryz.ntmps155 Tryz.results155 ?_
 (any_goals refine go (eM 2 aBp) 0 ?_)
 refine fzB 3 ?_
 by_cases hop : op < 1 ∨ 39 ≤ op
 ·clear hd
  have h1 : (decide (op < 1) || decide (39 ≤ op)) = true := by simpa using hop
  have e : bH op = ⟨#[]⟩ := if_pos hop
  (any_goals refine go aBp 0 ?_)
  all_goals (try simp only [go_sem])
  all_goals (rw [e])
 ·have h1 : (decide (op < 1) || decide (39 ≤ op)) = false := by rw [Bool.eq_false_iff]; simpa using hop
  replace hd := hd hop
  have b1 : 0 ≤ op := by omega
  have b2 : op < 39 := by omega
  have b3 : op.toNat < 39 := by omega
  have b4 : op.toNat * 1 = op.toNat := Nat.mul_one _
  (any_goals refine go aBp 0 ?_)
  all_goals (try simp only [go_sem])
def Ak (args : List AV) (K : AV → Prop) : Prop := match args with
 | [.r (.v (.int .i64 op))] => K (Sv (bH op))
 | _ => False
noncomputable abbrev kD : Ct Cx := .pure 155 Ak fun args K h => by
 unfold Ak at h; split at h; exact ⟨_, aA (aLa _) aVf rfl rfl, h⟩; exact h.elim
@[go_sem] theorem aLz : type_of% @Ak.eq_def := @Ak.eq_def
abbrev Ig (p : aI) (f : FnT) : List RV := [.rs 5 (p.fns.map fnR), .rs 2 (p.consts.map valR), .rs 1 (p.texts.map strR), .v (.int .i64 f.params), .v (.int .i64 f.regs), .v (.bool f.gen), .rs 1 (f.caught.map intR), .rs 5 (f.code.map insR)]
theorem Uq (l : List Int) (f : Nat) (caps : List RV) (dom : AV → Prop) (pv : AV → Bool) (h : ∀ y, dom y → aQ Cx f (y :: caps.map AV.r) (Bv (pv y))) (hd : ∀ x ∈ l, dom (intA x)) (hl : l.length ≤ 9223372036854775807) :
  FC Cx 191 [dF l, .r (.fn f caps)] [] (Iv (fidx (fun x => pv (intA x)) l)) [] := by
 have hlen : (l.map intR).length = l.length := List.length_map ..
 refine aD [ctF f caps dom pv h] Tryz.func191 Tryz.ntmps191 Tryz.results191 ?_
 (any_goals refine go Sa 0 ?_)
 refine eB [0, 1, 7, 8] (fun i => i ≤ l.length ∧ ∀ j x, j < i → l[j]? = some x → pv (intA x) = false) (fun (i : Nat) => ⟨19, [(0, dF l), (1, .r (.fn f caps)), (7, Iv l.length), (8, Iv i)], []⟩) (fun i => l.length - i) 0 rfl (by rw [← hlen]; rfl) rfl ⟨Nat.zero_le _, fun j x hj => by omega⟩ ?_
 rintro i ⟨hi, hno⟩
 by_cases hlt : i < l.length
 ·obtain ⟨x, hx⟩ : ∃ x, l[i]? = some x := ⟨l[i], List.getElem?_eq_getElem hlt⟩
  have hg := aE intR hx ([] : List RV)
  have hdx := hd x (List.mem_of_getElem? hx)
  have hw : IntKind.i64.wrap ((i : Int) + 1) = ((i + 1 : Nat) : Int) := by rw [aN] <;> omega
  have h1 : decide ((i : Int) < (l.length : Int)) = true := by rw [decide_eq_true_eq]; omega
  have h2 : Int.toNat (i : Int) = i := by omega
  cases hp : pv (intA x) with
  | true =>
   (any_goals refine go Sa 0 ?_)
   all_goals (try simp only [go_sem])
   rw [jH hx hp fun j y hj hy => hno j y hj hy]
  | false =>
   (any_goals refine go Sa 0 ?_)
   refine ⟨i + 1, ⟨by omega, fun j y hj hy => ?_⟩, by omega, fI [0, 1, 7, 8] rfl rfl rfl⟩
   rcases Nat.lt_succ_iff_lt_or_eq.1 hj with h3 | h3
   ·exact hno j y h3 hy
   ·subst h3; rw [hx] at hy; cases hy; exact hp
 ·have h1 : decide ((i : Int) < (l.length : Int)) = false := by rw [decide_eq_false_iff_not]; omega
  (any_goals refine go Sa 0 ?_)
  all_goals (try simp only [go_sem])
  rw [gR fun j y hy => hno j y (by have := (List.getElem?_eq_some_iff.1 hy).1; omega) hy]
theorem aB1 (l : List Int) (f : Nat) (caps : List RV) (dom : AV → Prop) (pv : AV → Bool) (h : ∀ y, dom y → aQ Cx f (y :: caps.map AV.r) (Bv (pv y))) (hd : ∀ x ∈ l, dom (intA x)) (hl : l.length ≤ 9223372036854775807) :
  FC Cx 184 [dF l, .r (.fn f caps)] [] (Bv (l.any fun x => pv (intA x))) [] := by
 have hA : ∀ y, y = [dF l, .r (.fn f caps)] → aQ Cx 191 y (Iv (fidx (fun x => pv (intA x)) l)) := fun y hy => by
  subst hy; exact aA (Uq l f caps dom pv h hd hl) aV2 rfl rfl
 refine aD [ctE 191 [dF l, .r (.fn f caps)] (Iv (fidx (fun x => pv (intA x)) l)) hA] Tryz.func184 Tryz.ntmps184 Tryz.results184 ?_
 (any_goals refine go aUu 0 ?_)
 all_goals (try simp only [go_sem])
 all_goals (try rw [iN])
def cauF (f : FnT) (c : Int) : Bool := !wiF c 0 (f.regs - 1) && !wiF c (-(f.caught.length : Int)) (-1)
theorem aWb (p : aI) (f : FnT) (c : Int) (h : Fok f) : FC Cx 185 [Iv c, .r (.rp (Ig p f))] [] (Bv (cauF f c)) [] := by
 have hl : (f.caught.map intR).length = f.caught.length := List.length_map ..
 have hw : IntKind.i64.wrap (0 - (f.caught.length : Int)) = -(f.caught.length : Int) := by have := h.caught; rw [aN] <;> omega
 have hw' : IntKind.i64.wrap (-(f.caught.length : Int)) = -(f.caught.length : Int) := by have := h.caught; rw [aN] <;> omega
 refine aD [cR, iS] Tryz.func185 Tryz.ntmps185 Tryz.results185 ?_
 (any_goals refine go aWi 0 ?_)
 all_goals (try simp only [go_sem])
 all_goals (first | rfl | (simp_all [cauF]; done) | trace_state)
def numV : AV → Int
 | .r (.v (.int _ n)) => n
 | _ => 0
def qH (f g : FnT) : Bool := !(g.caught.any (cauF f))
theorem aBd (p : aI) (f g : FnT) (h : Fok f) (hg : g.caught.length ≤ 9223372036854775807) : FC Cx 159 [jU p f, fnA g] [] (Bv (qH f g)) [] := by
 have hA : ∀ y, y = [dF g.caught, .r (.fn 185 [.rp (Ig p f)])] → aQ Cx 184 y (Bv (g.caught.any (cauF f))) := fun y hy => by
  subst hy
  refine aA (aB1 g.caught _ [.rp (Ig p f)] (fun y => ∃ c, y = intA c) (fun y => cauF f (numV y)) ?_ (fun x _ => ⟨x, rfl⟩) hg) aT6 rfl rfl
  rintro _ ⟨c, rfl⟩
  exact aA (aWb p f c h) aSx rfl rfl
 refine aD [ctE 184 [dF g.caught, .r (.fn 185 [.rp (Ig p f)])] (Bv (g.caught.any (cauF f))) hA] Tryz.func159 Tryz.ntmps159 Tryz.results159 ?_
 refine goR ?_
 refine fzB 2 ?_
 refine fzB 3 ?_
 (any_goals refine go aUe 0 ?_)
 all_goals (try simp only [go_sem])
 all_goals (first | rfl | trace_state)
def fB (op : Int) (j : Nat) : Int := ((bH op).data.toList.getD j 0).toNat
def kL (p : aI) (f : FnT) (i : InsT) : Bool := wiF i.line 0 2000 && namesF p f (fB i.op 0) i.a && namesF p f (fB i.op 1) i.b && namesF p f (fB i.op 2) i.c
def fn0 : FnT := ⟨0, 0, false, [], []⟩
def fH (p : aI) (f : FnT) (at' : Int) (i : InsT) : Bool :=
 if i.op < 1 ∨ 39 ≤ i.op then false else if kL p f i = false then false else if i.op = 14 then decide (i.a ≤ at') else if i.op = 19 then decide (i.b + i.c ≤ f.regs) else
 if i.op = 27 then wiF (i.b + i.c) 0 (f.regs - 1) else if i.op = 26 then qH f (p.fns.getD i.b.toNat fn0) else if i.op = 32 then f.gen else true
theorem oW {n lo hi : Int} : wiF n lo hi = true ↔ lo ≤ n ∧ n ≤ hi := by simp [wiF]
theorem aNu (p : aI) (f : FnT) (n op a b c line : Int) (hf : Fok f) (hp : Psz p) (hE : decide (bH op = ⟨#[]⟩) = true) : FC Cx 106 [jU p f, Iv n, insA ⟨op, a, b, c, line⟩] [] (Bv false) [] := by
 refine aD [cR, kD, gA, iS] Tryz.func106 Tryz.ntmps106 Tryz.results106 ?_
 refine goR ?_
 refine fzB 3 ?_
 refine fzB 5 ?_
 (any_goals refine go rQ 0 ?_)
 all_goals (try simp only [go_sem])
 all_goals (first | rfl | (simp_all; done) | trace_state)
theorem aFx (p : aI) (f : FnT) (n op a b c line : Int) (hf : Fok f) (hp : Psz p) (hE : decide (bH op = ⟨#[]⟩) = false) (hs : (bH op).size = 3) (e0 : wiF line 0 2000 = false) : FC Cx 106 [jU p f, Iv n, insA ⟨op, a, b, c, line⟩] [] (Bv false) [] := by
 have s0 : (0 : Int) < ((bH op).size : Int) := by rw [hs]; omega
 have s1 : (1 : Int) < ((bH op).size : Int) := by rw [hs]; omega
 have s2 : (2 : Int) < ((bH op).size : Int) := by rw [hs]; omega
 refine aD [cR, kD, gA, iS] Tryz.func106 Tryz.ntmps106 Tryz.results106 ?_
 refine goR ?_
 refine fzB 3 ?_
 refine fzB 5 ?_
 (any_goals refine go rQ 0 ?_)
 all_goals (try simp only [go_sem])
 all_goals (first | rfl | (simp_all; done) | trace_state)
theorem aE0 (p : aI) (f : FnT) (n op a b c line : Int) (hf : Fok f) (hp : Psz p) (hE : decide (bH op = ⟨#[]⟩) = false) (hs : (bH op).size = 3) (e0 : wiF line 0 2000 = true) (e1 : namesF p f ((bH op).data.toList.getD 0 0).toNat a = false) : FC Cx 106 [jU p f, Iv n, insA ⟨op, a, b, c, line⟩] [] (Bv false) [] := by
 have s0 : (0 : Int) < ((bH op).size : Int) := by rw [hs]; omega
 have s1 : (1 : Int) < ((bH op).size : Int) := by rw [hs]; omega
 have s2 : (2 : Int) < ((bH op).size : Int) := by rw [hs]; omega
 refine aD [cR, kD, gA, iS] Tryz.func106 Tryz.ntmps106 Tryz.results106 ?_
 refine goR ?_
 refine fzB 3 ?_
 refine fzB 5 ?_
 (any_goals refine go rQ 0 ?_)
 all_goals (try simp only [go_sem])
 all_goals (first | rfl | (simp_all; done) | trace_state)
theorem aEq (p : aI) (f : FnT) (n op a b c line : Int) (hf : Fok f) (hp : Psz p) (hE : decide (bH op = ⟨#[]⟩) = false) (hs : (bH op).size = 3) (e0 : wiF line 0 2000 = true) (e1 : namesF p f ((bH op).data.toList.getD 0 0).toNat a = true) (e2 : namesF p f ((bH op).data.toList.getD 1 0).toNat b = false) : FC Cx 106 [jU p f, Iv n, insA ⟨op, a, b, c, line⟩] [] (Bv false) [] := by
 have s0 : (0 : Int) < ((bH op).size : Int) := by rw [hs]; omega
 have s1 : (1 : Int) < ((bH op).size : Int) := by rw [hs]; omega
 have s2 : (2 : Int) < ((bH op).size : Int) := by rw [hs]; omega
 refine aD [cR, kD, gA, iS] Tryz.func106 Tryz.ntmps106 Tryz.results106 ?_
 refine goR ?_
 refine fzB 3 ?_
 refine fzB 5 ?_
 (any_goals refine go rQ 0 ?_)
 all_goals (try simp only [go_sem])
 all_goals (first | rfl | (simp_all; done) | trace_state)
theorem aHk (p : aI) (f : FnT) (n op a b c line : Int) (hf : Fok f) (hp : Psz p) (hE : decide (bH op = ⟨#[]⟩) = false) (hs : (bH op).size = 3) (e0 : wiF line 0 2000 = true) (e1 : namesF p f ((bH op).data.toList.getD 0 0).toNat a = true) (e2 : namesF p f ((bH op).data.toList.getD 1 0).toNat b = true) (e3 : namesF p f ((bH op).data.toList.getD 2 0).toNat c = false) : FC Cx 106 [jU p f, Iv n, insA ⟨op, a, b, c, line⟩] [] (Bv false) [] := by
 have s0 : (0 : Int) < ((bH op).size : Int) := by rw [hs]; omega
 have s1 : (1 : Int) < ((bH op).size : Int) := by rw [hs]; omega
 have s2 : (2 : Int) < ((bH op).size : Int) := by rw [hs]; omega
 refine aD [cR, kD, gA, iS] Tryz.func106 Tryz.ntmps106 Tryz.results106 ?_
 refine goR ?_
 refine fzB 3 ?_
 refine fzB 5 ?_
 (any_goals refine go rQ 0 ?_)
 all_goals (try simp only [go_sem])
 all_goals (first | rfl | (simp_all; done) | trace_state)
theorem aG3 (p : aI) (f : FnT) (n a b c line : Int) (hf : Fok f) (hp : Psz p) (hE : decide (bH 14 = ⟨#[]⟩) = false) (hs : (bH 14).size = 3) (e0 : wiF line 0 2000 = true) (e1 : namesF p f ((bH 14).data.toList.getD 0 0).toNat a = true) (e2 : namesF p f ((bH 14).data.toList.getD 1 0).toNat b = true) (e3 : namesF p f ((bH 14).data.toList.getD 2 0).toNat c = true) : FC Cx 106 [jU p f, Iv n, insA ⟨14, a, b, c, line⟩] [] (Bv (decide (a ≤ n))) [] := by
 have s0 : (0 : Int) < ((bH 14).size : Int) := by rw [hs]; omega
 have s1 : (1 : Int) < ((bH 14).size : Int) := by rw [hs]; omega
 have s2 : (2 : Int) < ((bH 14).size : Int) := by rw [hs]; omega
 refine aD [cR, kD, gA, iS] Tryz.func106 Tryz.ntmps106 Tryz.results106 ?_
 refine goR ?_
 refine fzB 3 ?_
 refine fzB 5 ?_
 (any_goals refine go rQ 0 ?_)
 all_goals (try simp only [go_sem])
 all_goals (first | rfl | (simp_all; done) | trace_state)
theorem aDz (p : aI) (f : FnT) (n a b c line : Int) (hf : Fok f) (hp : Psz p) (hE : decide (bH 19 = ⟨#[]⟩) = false) (hs : (bH 19).size = 3) (e0 : wiF line 0 2000 = true) (e1 : namesF p f ((bH 19).data.toList.getD 0 0).toNat a = true) (e2 : namesF p f ((bH 19).data.toList.getD 1 0).toNat b = true) (e3 : namesF p f ((bH 19).data.toList.getD 2 0).toNat c = true) (hw : IntKind.i64.wrap (b + c) = b + c) : FC Cx 106 [jU p f, Iv n, insA ⟨19, a, b, c, line⟩] [] (Bv (decide (b + c ≤ f.regs))) [] := by
 have s0 : (0 : Int) < ((bH 19).size : Int) := by rw [hs]; omega
 have s1 : (1 : Int) < ((bH 19).size : Int) := by rw [hs]; omega
 have s2 : (2 : Int) < ((bH 19).size : Int) := by rw [hs]; omega
 refine aD [cR, kD, gA, iS] Tryz.func106 Tryz.ntmps106 Tryz.results106 ?_
 refine goR ?_
 refine fzB 3 ?_
 refine fzB 5 ?_
 (any_goals refine go rQ 0 ?_)
 all_goals (try simp only [go_sem])
 all_goals (first | rfl | (simp_all; done) | trace_state)
theorem aEp (p : aI) (f : FnT) (n a b c line : Int) (hf : Fok f) (hp : Psz p) (hE : decide (bH 27 = ⟨#[]⟩) = false) (hs : (bH 27).size = 3) (e0 : wiF line 0 2000 = true) (e1 : namesF p f ((bH 27).data.toList.getD 0 0).toNat a = true) (e2 : namesF p f ((bH 27).data.toList.getD 1 0).toNat b = true) (e3 : namesF p f ((bH 27).data.toList.getD 2 0).toNat c = true) (hw : IntKind.i64.wrap (b + c) = b + c) : FC Cx 106 [jU p f, Iv n, insA ⟨27, a, b, c, line⟩] [] (Bv (wiF (b + c) 0 (f.regs - 1))) [] := by
 have s0 : (0 : Int) < ((bH 27).size : Int) := by rw [hs]; omega
 have s1 : (1 : Int) < ((bH 27).size : Int) := by rw [hs]; omega
 have s2 : (2 : Int) < ((bH 27).size : Int) := by rw [hs]; omega
 refine aD [cR, kD, gA, iS] Tryz.func106 Tryz.ntmps106 Tryz.results106 ?_
 refine goR ?_
 refine fzB 3 ?_
 refine fzB 5 ?_
 (any_goals refine go rQ 0 ?_)
 all_goals (try simp only [go_sem])
 all_goals (first | rfl | (simp_all; done) | trace_state)
theorem aFo (p : aI) (f : FnT) (n a b c line : Int) (hf : Fok f) (hp : Psz p) (hE : decide (bH 26 = ⟨#[]⟩) = false) (hs : (bH 26).size = 3) (e0 : wiF line 0 2000 = true) (e1 : namesF p f ((bH 26).data.toList.getD 0 0).toNat a = true) (e2 : namesF p f ((bH 26).data.toList.getD 1 0).toNat b = true) (e3 : namesF p f ((bH 26).data.toList.getD 2 0).toNat c = true) (g : FnT) (hg : p.fns[b.toNat]? = some g) (hb : 0 ≤ b) (hgc : g.caught.length ≤ 9223372036854775807) : FC Cx 106 [jU p f, Iv n, insA ⟨26, a, b, c, line⟩] [] (Bv (qH f g)) [] := by
 have s0 : (0 : Int) < ((bH 26).size : Int) := by rw [hs]; omega
 have s1 : (1 : Int) < ((bH 26).size : Int) := by rw [hs]; omega
 have s2 : (2 : Int) < ((bH 26).size : Int) := by rw [hs]; omega
 have hA : ∀ y, y = [jU p f, fnA g] → aQ Cx 159 y (Bv (qH f g)) := fun y hy => by
  subst hy; exact aA (aBd p f g hf hgc) aVx rfl rfl
 have hl : (p.fns.map fnR).length = p.fns.length := List.length_map ..
 have hgd := aE fnR hg ([] : List RV)
 have hlt : b < (p.fns.length : Int) := by have := (List.getElem?_eq_some_iff.1 hg).1; omega
 refine aD [cR, kD, gA, iS, ctE 159 [jU p f, fnA g] (Bv (qH f g)) hA] Tryz.func106 Tryz.ntmps106 Tryz.results106 ?_
 refine goR ?_
 refine fzB 3 ?_
 refine fzB 5 ?_
 (any_goals refine go rQ 0 ?_)
 all_goals (try simp only [go_sem])
 all_goals (first | rfl | (simp_all; done) | trace_state)
theorem aEi (p : aI) (f : FnT) (n a b c line : Int) (hf : Fok f) (hp : Psz p) (hE : decide (bH 32 = ⟨#[]⟩) = false) (hs : (bH 32).size = 3) (e0 : wiF line 0 2000 = true) (e1 : namesF p f ((bH 32).data.toList.getD 0 0).toNat a = true) (e2 : namesF p f ((bH 32).data.toList.getD 1 0).toNat b = true) (e3 : namesF p f ((bH 32).data.toList.getD 2 0).toNat c = true) : FC Cx 106 [jU p f, Iv n, insA ⟨32, a, b, c, line⟩] [] (Bv f.gen) [] := by
 have s0 : (0 : Int) < ((bH 32).size : Int) := by rw [hs]; omega
 have s1 : (1 : Int) < ((bH 32).size : Int) := by rw [hs]; omega
 have s2 : (2 : Int) < ((bH 32).size : Int) := by rw [hs]; omega
 refine aD [cR, kD, gA, iS] Tryz.func106 Tryz.ntmps106 Tryz.results106 ?_
 refine goR ?_
 refine fzB 3 ?_
 refine fzB 5 ?_
 (any_goals refine go rQ 0 ?_)
 all_goals (try simp only [go_sem])
 all_goals (first | rfl | (simp_all; done) | trace_state)
theorem aL5 (p : aI) (f : FnT) (n op a b c line : Int) (hf : Fok f) (hp : Psz p) (hE : decide (bH op = ⟨#[]⟩) = false) (hs : (bH op).size = 3) (e0 : wiF line 0 2000 = true) (e1 : namesF p f ((bH op).data.toList.getD 0 0).toNat a = true) (e2 : namesF p f ((bH op).data.toList.getD 1 0).toNat b = true) (e3 : namesF p f ((bH op).data.toList.getD 2 0).toNat c = true) (n14 : decide (op = 14) = false) (n19 : decide (op = 19) = false) (n27 : decide (op = 27) = false) (n26 : decide (op = 26) = false) (n32 : decide (op = 32) = false) : FC Cx 106 [jU p f, Iv n, insA ⟨op, a, b, c, line⟩] [] (Bv true) [] := by
 have s0 : (0 : Int) < ((bH op).size : Int) := by rw [hs]; omega
 have s1 : (1 : Int) < ((bH op).size : Int) := by rw [hs]; omega
 have s2 : (2 : Int) < ((bH op).size : Int) := by rw [hs]; omega
 refine aD [cR, kD, gA, iS] Tryz.func106 Tryz.ntmps106 Tryz.results106 ?_
 refine goR ?_
 refine fzB 3 ?_
 refine fzB 5 ?_
 (any_goals refine go rQ 0 ?_)
 all_goals (try simp only [go_sem])
 all_goals (first | rfl | (simp_all; done) | trace_state)
theorem aBx {op : Int} (h : ¬ (op < 1 ∨ 39 ≤ op)) : decide (bH op = ⟨#[]⟩) = false := by
 rw [decide_eq_false_iff_not]; intro e
 have := By h
 rw [e] at this; cases this
theorem aEm (p : aI) (f : FnT) (n : Int) (i : InsT) (hf : Fok f) (hp : Psz p) (hc : ∀ g ∈ p.fns, g.caught.length ≤ 9223372036854775807) : FC Cx 106 [jU p f, Iv n, insA i] [] (Bv (fH p f n i)) [] := by
 obtain ⟨op, a, b, c, line⟩ := i
 unfold fH
 by_cases hop : op < 1 ∨ 39 ≤ op
 ·rw [if_pos hop]
  exact aNu p f n op a b c line hf hp (by rw [bH, if_pos hop]; rfl)
 rw [if_neg hop]
 have hE := aBx hop
 have hs := By hop
 cases e0 : wiF line 0 2000 with
 | false => rw [if_pos (by simp [kL, e0])]; exact aFx p f n op a b c line hf hp hE hs e0
 | true =>
 cases e1 : namesF p f (fB op 0) a with
 | false => rw [if_pos (by simp [kL, e0, e1])]; exact aE0 p f n op a b c line hf hp hE hs e0 e1
 | true =>
 cases e2 : namesF p f (fB op 1) b with
 | false => rw [if_pos (by simp [kL, e0, e1, e2])]; exact aEq p f n op a b c line hf hp hE hs e0 e1 e2
 | true =>
 cases e3 : namesF p f (fB op 2) c with
 | false => rw [if_pos (by simp [kL, e0, e1, e2, e3])]; exact aHk p f n op a b c line hf hp hE hs e0 e1 e2 e3
 | true =>
 rw [if_neg (by simp [kL, e0, e1, e2, e3])]
 have hr := hf.regs
 by_cases o1 : op = 14
 ·subst o1; exact aG3 p f n a b c line hf hp hE hs e0 e1 e2 e3
 rw [if_neg (show ¬ (InsT.mk op a b c line).op = 14 from o1)]
 by_cases o2 : op = 19
 ·subst o2
  have h2 : wiF b 0 f.regs = true := e2
  have h3 : wiF c 0 f.regs = true := e3
  rw [oW] at h2 h3
  exact aDz p f n a b c line hf hp hE hs e0 e1 e2 e3 (by rw [aN] <;> omega)
 rw [if_neg (show ¬ (InsT.mk op a b c line).op = 19 from o2)]
 by_cases o3 : op = 27
 ·subst o3
  have h2 : wiF b 0 f.regs = true := e2
  have h3 : wiF c 0 f.regs = true := e3
  rw [oW] at h2 h3
  exact aEp p f n a b c line hf hp hE hs e0 e1 e2 e3 (by rw [aN] <;> omega)
 rw [if_neg (show ¬ (InsT.mk op a b c line).op = 27 from o3)]
 by_cases o4 : op = 26
 ·subst o4
  have h2 : wiF b 1 ((p.fns.length : Int) - 1) = true := e2
  rw [oW] at h2
  have hg : p.fns[b.toNat]? = some (p.fns[b.toNat]'(by omega)) := List.getElem?_eq_getElem (by omega)
  have := aFo p f n a b c line hf hp hE hs e0 e1 e2 e3 _ hg (by omega) (hc _ (List.mem_of_getElem? hg))
  rw [if_pos rfl]
  show FC Cx _ _ _ (Bv (qH f (p.fns.getD b.toNat fn0))) _
  rw [List.getD, hg]; exact this
 rw [if_neg (show ¬ (InsT.mk op a b c line).op = 26 from o4)]
 by_cases o5 : op = 32
 ·subst o5; exact aEi p f n a b c line hf hp hE hs e0 e1 e2 e3
 rw [if_neg (show ¬ (InsT.mk op a b c line).op = 32 from o5)]
 exact aL5 p f n op a b c line hf hp hE hs e0 e1 e2 e3 (by simpa using o1) (by simpa using o2) (by simpa using o3) (by simpa using o4) (by simpa using o5)
theorem Xo (xs ys zs : List (List RV)) (pa rg : Int) (ge : Bool) (us vs : List (List RV)) (n op a b c li : Int) (h : ((xs = (fnsOf xs).map fnR ∧ ys = (valsOf ys).map valR ∧ zs = (strsOf zs).map strR) ∧ us = (aK us).map intR ∧ vs = (aS vs).map insR) ∧ Fok ⟨pa, rg, ge, aK us, aS vs⟩ ∧ Psz ⟨fnsOf xs, valsOf ys, strsOf zs⟩ ∧ ∀ g ∈ fnsOf xs, g.caught.length ≤ 9223372036854775807) : FC Cx 106 [.agg [.r (.rs 5 xs), .r (.rs 2 ys), .r (.rs 1 zs), Iv pa, Iv rg, Bv ge, .r (.rs 1 us), .r (.rs 5 vs)], Iv n, .agg [Iv op, Iv a, Iv b, Iv c, Iv li]] [] (Bv (fH ⟨fnsOf xs, valsOf ys, strsOf zs⟩ ⟨pa, rg, ge, aK us, aS vs⟩ n ⟨op, a, b, c, li⟩)) [] := by
 have := aEm ⟨fnsOf xs, valsOf ys, strsOf zs⟩ ⟨pa, rg, ge, aK us, aS vs⟩ n ⟨op, a, b, c, li⟩ h.2.1 h.2.2.1 h.2.2.2
 rwa [wA h.1] at this
def tP (args : List AV) (K : AV → Prop) : Prop := match args with
 | [.agg [.r (.rs 5 xs), .r (.rs 2 ys), .r (.rs 1 zs), .r (.v (.int .i64 pa)), .r (.v (.int .i64 rg)), .r (.v (.bool ge)), .r (.rs 1 us), .r (.rs 5 vs)], .r (.v (.int .i64 n)), .agg [.r (.v (.int .i64 op)), .r (.v (.int .i64 a)), .r (.v (.int .i64 b)), .r (.v (.int .i64 c)), .r (.v (.int .i64 li))]] => (((xs = (fnsOf xs).map fnR ∧ ys = (valsOf ys).map valR ∧ zs = (strsOf zs).map strR) ∧ us = (aK us).map intR ∧ vs = (aS vs).map insR) ∧ Fok ⟨pa, rg, ge, aK us, aS vs⟩ ∧ Psz ⟨fnsOf xs, valsOf ys, strsOf zs⟩ ∧ ∀ g ∈ fnsOf xs, g.caught.length ≤ 9223372036854775807) ∧ K (Bv (fH ⟨fnsOf xs, valsOf ys, strsOf zs⟩ ⟨pa, rg, ge, aK us, aS vs⟩ n ⟨op, a, b, c, li⟩))
 | _ => False
noncomputable abbrev Fd : Ct Cx := .pure 106 tP fun args K h => by
 unfold tP at h; split at h; exact ⟨_, aA (Xo _ _ _ _ _ _ _ _ _ _ _ _ _ _ h.1) aWh rfl rfl, h.2⟩; exact h.elim
@[go_sem] theorem aFd : type_of% @tP.eq_def := @tP.eq_def
structure WT where
 seen : List Bool
 out : List (List (Int × Int))
 todo : List Int
 bad : Bool
abbrev boolC (b : Bool) : List AV := [Bv b]
abbrev trsC (l : List (Int × Int)) : List AV := [cM l]
abbrev intC (n : Int) : List AV := [Iv n]
abbrev wbx (f : FnT) (v : Nat) (bad : Bool) : Res := .bx [Iv f.params, Iv f.regs, Bv f.gen, dF f.caught, nQ f.code, .os 1 0, .os 2 0, .os 3 v, Bv bad]
abbrev rsW (v : Nat) (f : FnT) (W : WT) : List (Nat × Nat × Res) := [(0, 0, wbx f v W.bad), (1, 0, .sl 4 1 (W.seen.map boolC)), (2, 0, .sl 59 1 (W.out.map trsC)), (3, v, .sl 3 1 (W.todo.map intC))]
theorem sQ (l : List Bool) : ∀ row ∈ l.map boolC, aX bR row = true := fun row h => by
 obtain ⟨x, _, rfl⟩ := List.mem_map.1 h; rfl
theorem wY (l : List (List (Int × Int))) : ∀ row ∈ l.map trsC, aX bR row = true := fun row h => by
 obtain ⟨x, _, rfl⟩ := List.mem_map.1 h; rfl
theorem Ad (l : List Int) : ∀ row ∈ l.map intC, aX bR row = true := fun row h => by
 obtain ⟨x, _, rfl⟩ := List.mem_map.1 h; rfl
theorem xB {α β : Type} (f : α → β) (l : List α) (i : Nat) (x : α) : (l.map f).set i (f x) = (l.set i x).map f := by rw [List.map_set]
theorem insW (v : Nat) (f : FnT) (W : WT) (k : Nat) : bP (domR (rsW v f W)) (aB k (rsW v f W)).2 := by
 have e : aB k (rsW v f W) = if k = 0 then (0, wbx f v W.bad) else if k = 1 then (0, .sl 4 1 (W.seen.map boolC)) else if k = 2 then (0, .sl 59 1 (W.out.map trsC)) else if k = 3 then (v, .sl 3 1 (W.todo.map intC)) else (0, .gone) := rfl
 rw [e]
 split
 ·rfl
 ·split
  ·exact fun row h => cA (sQ _ row h)
  ·split
   ·exact fun row h => cA (wY _ row h)
   ·split
    ·exact fun row h => cA (Ad _ row h)
    ·trivial
def aZ (f : FnT) (n : Int) (l : List (Int × Int)) (W : WT) : WT :=
 if (f.code.length : Int) ≤ n ∨ 20 < l.length then { W with bad := true } else
 if W.seen.getD n.toNat false = false then ⟨W.seen.set n.toNat true, W.out.set n.toNat l, W.todo ++ [n], W.bad⟩ else
 if W.out.getD n.toNat [] = l then W else { W with bad := true }
structure Wok (f : FnT) (W : WT) : Prop where
 code : f.code.length ≤ 600
 seen : W.seen.length = f.code.length
 out : W.out.length = f.code.length
 todo : W.todo.length ≤ 1000
 outs : ∀ x ∈ W.out, x.length ≤ 1000
theorem aAu (f : FnT) (n : Int) (l : List (Int × Int)) (W : WT) (hn : 0 ≤ n) (hw : Wok f W) (hll : l.length ≤ 1000) :
  FC Cx 160 [.os 0 0, Iv n, cM l] (rsW 0 f W) (.tup []) (rsW 1 f (aZ f n l W)) := by
 obtain ⟨hc, h1, h2, h3, h4⟩ := hw
 have l0 : (f.code.map insR).length = f.code.length := List.length_map ..
 have l1 : (W.seen.map boolC).length = f.code.length := by rw [List.length_map, h1]
 have l2 : (W.out.map trsC).length = f.code.length := by rw [List.length_map, h2]
 have l3 : (W.todo.map intC).length = W.todo.length := List.length_map ..
 have l4 : (l.map tryR).length = l.length := List.length_map ..
 unfold aZ
 by_cases hb : (f.code.length : Int) ≤ n ∨ 20 < l.length
 ·rw [if_pos hb]
  have d1 : (decide ((f.code.length : Int) ≤ n) || decide ((20 : Int) < (l.length : Int))) = true := by
   rcases hb with hb | hb
   ·simp [hb]
   ·have : (20 : Int) < (l.length : Int) := by omega
    simp [this]
  refine iU [fS] [(3, 1)] Tryz.func160 rfl Tryz.ntmps160 (by simp) Tryz.results160 rfl (insW 1 f _) ?_
  refine rnst ?_
  (any_goals refine go Qu 0 ?_)
  all_goals (try simp only [go_sem])
  all_goals rfl
 ·rw [if_neg hb]
  have hb1 : n < (f.code.length : Int) := by omega
  obtain ⟨k, rfl⟩ : ∃ k : Nat, n = k := ⟨n.toNat, by omega⟩
  have hk : k < f.code.length := by omega
  have t1 : Int.toNat (k : Int) = k := by omega
  have d1 : (decide ((f.code.length : Int) ≤ (k : Int)) || decide ((20 : Int) < (l.length : Int))) = false := by
   rw [Bool.eq_false_iff]; intro h; simp at h; omega
  obtain ⟨b, hsb⟩ : ∃ b, W.seen[k]? = some b := ⟨W.seen[k], List.getElem?_eq_getElem (by omega)⟩
  obtain ⟨o, hso⟩ : ∃ o, W.out[k]? = some o := ⟨W.out[k], List.getElem?_eq_getElem (by omega)⟩
  have g1 := aE boolC hsb ([] : List AV)
  have g2 := aE trsC hso ([] : List AV)
  have e1 : W.seen.getD k false = b := by simp [List.getD, hsb]
  have e2 : W.out.getD k [] = o := by simp [List.getD, hso]
  have ho := h4 o (List.mem_of_getElem? hso)
  have l5 : (o.map tryR).length = o.length := List.length_map ..
  rw [t1, e1, e2]
  cases b with
  | false =>
   rw [if_pos rfl]
   have s1 : (W.seen.map boolC).set k [Bv true] = (W.seen.set k true).map boolC := xB boolC W.seen k true
   have s2 : (W.out.map trsC).set k [cM l] = (W.out.set k l).map trsC := xB trsC W.out k l
   have s3 : W.todo.map intC ++ [[Iv (k : Int)]] = (W.todo ++ [(k : Int)]).map intC := by simp
   refine iU [fS] [(3, 1)] Tryz.func160 rfl Tryz.ntmps160 (by simp) Tryz.results160 rfl (insW 1 f _) ?_
   refine rnst ?_
   (any_goals refine go Qu 0 ?_)
   all_goals (try simp only [go_sem])
   all_goals rfl
  | true =>
   rw [if_neg (by simp)]
   by_cases he : o = l
   ·rw [if_pos he]
    have d2 : decide (o = l) = true := by simpa using he
    refine iU [fS] [(3, 1)] Tryz.func160 rfl Tryz.ntmps160 (by simp) Tryz.results160 rfl (insW 1 f _) ?_
    refine rnst ?_
    (any_goals refine go Qu 0 ?_)
    all_goals (try simp only [go_sem])
    all_goals rfl
   ·rw [if_neg he]
    have d2 : decide (o = l) = false := by simpa using he
    refine iU [fS] [(3, 1)] Tryz.func160 rfl Tryz.ntmps160 (by simp) Tryz.results160 rfl (insW 1 f _) ?_
    refine rnst ?_
    (any_goals refine go Qu 0 ?_)
    all_goals (try simp only [go_sem])
    all_goals rfl
abbrev tryC (p : Int × Int) : List AV := [Iv p.1, Iv p.2]
theorem Ll (l : List (Int × Int)) : ∀ row ∈ l.map tryC, aX bR row = true := fun row h => by
 obtain ⟨x, _, rfl⟩ := List.mem_map.1 h; rfl
@[go_sem] theorem aJ2 : ∀ l : List (Int × Int), nE (l.map tryC) = true
 | [] => rfl
 | x :: l => aJ2 l
@[go_sem] theorem Hu (l : List (Int × Int)) : ((l.map tryR).map fun r => r.map AV.r) = l.map tryC := by rw [List.map_map]; rfl
theorem Ci (xs : List (List RV)) : ∀ row ∈ (triesOf xs).map tryC, aX bR row = true := Ll _
theorem yL (xs : List (List RV)) (h : xs = (triesOf xs).map tryR ∧ xs.length ≤ 1000000000) : FC Cx 179 [.r (.rs 2 xs)] [] (.os 0 1) [(0, 1, .sl 81 2 ((triesOf xs).map tryC))] := by
 have hl : (triesOf xs).length = xs.length := by simp [triesOf]
 have hlenS : ∀ l : List (Int × Int), (l.map tryC).length = l.length := fun l => List.length_map ..
 obtain ⟨h1, h2⟩ := h
 generalize triesOf xs = l at h1 hl
 subst h1
 rw [← hl] at h2
 refine iH [] (i := 0) [.os 0 1] Tryz.func179 rfl Tryz.ntmps179 (by simp) Tryz.results179 (Ll _) ?_
 refine rnst ?_
 iterate 8 (any_goals (first | (focus (intro K0; (try simp only [go_sem, *]); (first | exact ⟨id⟩ | (refine ⟨fun h => ?_⟩; (repeat' (first | exact h | refine And.intro ?_ ?_ | omega | rfl)); done)))) | (refine kK ?_) | (refine iE ?_) | (apply eL Py; (exact rfl)) | (refine eV ?_) | (apply nD; (exact rfl)) | (refine iC ?_) | ((first | apply Rn_g | apply Rd_g); (exact rfl); (exact rfl); (focus (intro K0; (try simp only [bB, ev, Nat.reduceEqDiff, ↓reduceIte]); exact ⟨id⟩))) | (with_reducible (first | apply kE | apply jW)) | ((with_reducible (first | apply iG | apply gY | apply lV | apply iK | apply gW | apply lZ)); (exact rfl)) | ((first | apply gE | apply gD); (focus (intro K0; (try simp only [go_sem]); exact ⟨id⟩)); (exact rfl)) | ((first | apply iL | apply iI); (exact rfl); (focus (intro K0; (try simp only [go_sem]); exact ⟨id⟩)); (focus (first | (simp only [Nat.reduceLT]; done) | omega)); (focus (intro hw0; (try simp only [Bool.and_eq_true, Bool.not_eq_true', dK, dC] at hw0); (focus (intro K0; (try simp only [go_sem, *]); (first | exact ⟨id⟩ | (refine ⟨fun h => ?_⟩; (repeat' (first | exact h | refine And.intro ?_ ?_ | omega | rfl)); done))))))) | (apply Rn_c; (focus (intro K0; (try simp only [bB, ev, Nat.reduceEqDiff, ↓reduceIte]); exact ⟨id⟩))) | (with_reducible (first | refine rN ?_ | refine sJ ?_)) | (refine kF ?_) | (refine kB rfl ?_) | (refine Rn_b ?_) | (apply iA Py; (exact rfl)) | (refine kH ?_) | (apply nH; (exact rfl)) | (refine nM (by kernel_rfl) ?_) | ((with_reducible (first | refine fW (fun h => ?_) (fun h => ?_) | refine fT (fun h => ?_) (fun h => ?_) | refine fK (fun h => ?_) (fun h => ?_))) <;> (have h' := h) <;> (try simp only [decide_eq_true_eq, decide_eq_false_iff_not, Bool.not_eq_true', Bool.not_eq_false', Bool.and_eq_true, Bool.or_eq_true, Bool.or_eq_false_iff, beq_iff_eq, bne_iff_ne, ne_eq, Bool.not_true, Bool.not_false, not_false_eq_true, reduceCtorEq, beq_eq_false_iff_ne, bne_eq_false_iff_eq] at h') <;> (first | apply pM | apply rW)) | (refine fR rfl rfl ?_) | (first | refine fY ?_ | refine lY ?_ | refine dP ?_) | (refine eE (T := []) ?_) | (refine nT ?_)))
 ·intro K0; (try simp only [go_sem]); exact ⟨id⟩
 refine lH (sz := 2) rfl (.inl rfl) rfl rfl (Nat.le_of_ble_eq_true rfl) rfl rfl (by kernel_rfl) (fun q hq => ?_)
 apply oP
 ·intro K0; (try simp only [go_sem]); exact ⟨id⟩
 cases q with
 | true =>
  have h0 : l = [] := by have := hq rfl; simpa using this
  subst h0
  (any_goals refine go Py 0 ?_)
  all_goals (try simp only [go_sem])
 | false =>
  clear hq
  (any_goals refine go Py 0 ?_)
  all_goals (try simp only [go_sem])
def iR (st : St) (d : Nat) (args : List AV) (K : AV → List Loc → List (Loc × Cont) → Prop) : Prop := match args with
 | [.r (.rs 2 xs)] => (xs = (triesOf xs).map tryR ∧ xs.length ≤ 1000000000) ∧ K (ren (fun _ => d) (fun _ => st.cur d) (.os 0 1)) [.R d] [(.R d, .s (1 + st.cur d) (.sl 81 2 ((triesOf xs).map tryC)))]
 | _ => False
theorem zM (st : St) (d : Nat) (args : List AV) (K : AV → List Loc → List (Loc × Cont) → Prop) (h : iR st d args K) : ∃ r ls outs, dI Cx 179 st args r ls outs ∧ K r ls outs := by
 unfold iR at h
 split at h
 ·exact ⟨_, _, _, dI.own (yL _ h.1) rfl (Ci _) rfl d, h.2⟩
 ·exact h.elim
noncomputable def dG : Ct Cx := .res 179 iR aIs zM
@[go_sem] theorem aBj : dG.g = 179 := rfl
@[go_sem] theorem Te (c : Call) (fop : Operand) (caps : List AV) (o : Oper) (st : St) (K : List Loc → List (Loc × Cont) → Prop) : dG.run c fop caps o st K = kO iR c fop caps o st K := rfl
@[go_sem] theorem Vz : type_of% @iR.eq_def := @iR.eq_def
theorem Ns (xs : List (List RV)) (h : xs = (triesOf xs).map tryR ∧ xs.length ≤ 1000000000) : FC Cx 179 [.r (.rs 2 xs)] [] (cM (triesOf xs)) [] := (yL xs h).freeze1 (Hu _).symm
def oA (args : List AV) (K : AV → Prop) : Prop := match args with
 | [.r (.rs 2 xs)] => (xs = (triesOf xs).map tryR ∧ xs.length ≤ 1000000000) ∧ K (cM (triesOf xs))
 | _ => False
noncomputable abbrev Ln : Ct Cx := .pure 179 oA fun args K h => by
 unfold oA at h; split at h; exact ⟨_, aA (Ns _ h.1) aIs rfl rfl, h.2⟩; exact h.elim
@[go_sem] theorem aBe : type_of% @oA.eq_def := @oA.eq_def
def pF (xs : List (List AV)) : List Bool := xs.map fun r => match r with | [.r (.v (.bool b))] => b | _ => false
def tV (xs : List (List AV)) : List (List (Int × Int)) := xs.map fun r => match r with | [.r (.rs _ l)] => triesOf l | _ => []
def tX (xs : List (List AV)) : List Int := xs.map fun r => match r with | [.r (.v (.int _ n))] => n | _ => 0
@[go_sem] theorem aMt (l : List Bool) : pF (l.map boolC) = l := by
 unfold pF; rw [List.map_map]; conv => rhs; rw [← List.map_id l]
 exact List.map_congr_left fun x _ => rfl
@[go_sem] theorem aO6 (l : List (List (Int × Int))) : tV (l.map trsC) = l := by
 unfold tV; rw [List.map_map]; conv => rhs; rw [← List.map_id l]
 exact List.map_congr_left fun x _ => sB x
@[go_sem] theorem aOz (l : List Int) : tX (l.map intC) = l := by
 unfold tX; rw [List.map_map]; conv => rhs; rw [← List.map_id l]
 exact List.map_congr_left fun x _ => rfl
@[go_sem] theorem aYy (W : WT) : WT.mk W.seen W.out W.todo W.bad = W := rfl
theorem aNe {C : Ctx} {f : Nat} {pre post : List AV} {x y : AV} {rs0 rs1 : List (Nat × Nat × Res)} {r : AV} (h : FC C f (pre ++ y :: post) rs0 r rs1) (hxy : ∀ cur g w N v, AR cur g w N x v → AR cur g w N y v) : FC C f (pre ++ x :: post) rs0 r rs1 := by
 refine ⟨fun e g w vs hok hs hvs => h.run e g w vs hok hs ⟨by rw [hvs.1]; simp, fun j a v ha hv => ?_⟩⟩
 by_cases hj : j < pre.length
 ·rw [List.getElem?_append_left hj] at ha
  exact hvs.2 j a v (by rw [List.getElem?_append_left hj]; exact ha) hv
 ·rw [List.getElem?_append_right (by omega)] at ha
  cases hd : j - pre.length with
  | zero =>
   rw [hd] at ha; simp at ha; subst ha
   exact hxy _ _ _ _ _ (hvs.2 j x v (by rw [List.getElem?_append_right (by omega), hd]; rfl) hv)
  | succ i =>
   rw [hd] at ha
   exact hvs.2 j a v (by rw [List.getElem?_append_right (by omega), hd]; exact ha) hv
theorem Nj {cur : Nat → Nat} {g : Gh} {w : World} {N : Nat → Prop} {v : Value} (sz : Nat) (h : AR cur g w N NilS v) : AR cur g w N (.r (.rs sz [])) v := by
 rw [cC h]; exact .r (.nil sz)
theorem aEv (f : FnT) (n : Int) (W : WT) (hn : 0 ≤ n) (hw : Wok f W) :
  FC Cx 160 [.os 0 0, Iv n, NilS] (rsW 0 f W) (.tup []) (rsW 1 f (aZ f n [] W)) :=
 aNe (pre := [.os 0 0, Iv n]) (post := []) (aAu f n [] W hn hw (Nat.zero_le _)) fun cur g w N v h => Nj 2 h
theorem domW (v : Nat) (f : FnT) (W : WT) (k : Nat) : domR (rsW v f W) k = decide (k < 4) := by
 have e : aB k (rsW v f W) = if k = 0 then (0, wbx f v W.bad) else if k = 1 then (0, .sl 4 1 (W.seen.map boolC)) else if k = 2 then (0, .sl 59 1 (W.out.map trsC)) else if k = 3 then (v, .sl 3 1 (W.todo.map intC)) else (0, .gone) := rfl
 unfold domR
 rw [e]
 by_cases h0 : k = 0
 ·subst h0; rfl
 ·by_cases h1 : k = 1
  ·subst h1; rfl
  ·by_cases h2 : k = 2
   ·subst h2; rfl
   ·by_cases h3 : k = 3
    ·subst h3; rfl
    ·rw [if_neg h0, if_neg h1, if_neg h2, if_neg h3]
     symm; simp; omega
theorem map_none {l : List (List AV)} {σ δ : Nat → Nat} (h : ∀ row ∈ l, aX bR row = true) : l.map (renL σ δ) = l := by
 conv => rhs; rw [← List.map_id l]
 exact List.map_congr_left fun row hr => iT (h row hr)
def spW (pre : FnT → WT → Prop) (g : FnT → WT → WT) (bump : Nat) (st : St) (a : AV) (K : List Loc → List (Loc × Cont) → Prop) : Prop := match a with
 | .os k0 v0 => match aB k0 st.rs with
  | (w0, .bx [.r (.v (.int .i64 pa)), .r (.v (.int .i64 rg)), .r (.v (.bool ge)), .r (.rs 1 us), .r (.rs 5 vs), .os k1 v1, .os k2 v2, .os k3 v3, .r (.v (.bool bad))]) =>
   match aB k1 st.rs, aB k2 st.rs, aB k3 st.rs with
   | (w1, .sl e1 1 r1), (w2, .sl e2 1 r2), (w3, .sl e3 1 r3) =>
    (v0 = w0 ∧ v1 = w1 ∧ v2 = w2 ∧ v3 = w3 ∧ e1 = 4 ∧ e2 = 59 ∧ e3 = 3 ∧ ndB [k0, k1, k2, k3] = true ∧ us = (aK us).map intR ∧ vs = (aS vs).map insR ∧ r1 = (pF r1).map boolC ∧ r2 = (tV r2).map trsC ∧ r3 = (tX r3).map intC ∧ pre ⟨pa, rg, ge, aK us, aS vs⟩ ⟨pF r1, tV r2, tX r3, bad⟩) ∧
     K [.R k0, .R k1, .R k2, .R k3] [(.R k0, .s v0 (.bx [Iv pa, Iv rg, Bv ge, .r (.rs 1 us), .r (.rs 5 vs), .os k1 v1, .os k2 v2, .os k3 (bump + v3), Bv (g ⟨pa, rg, ge, aK us, aS vs⟩ ⟨pF r1, tV r2, tX r3, bad⟩).bad])), (.R k1, .s v1 (.sl 4 1 ((g ⟨pa, rg, ge, aK us, aS vs⟩ ⟨pF r1, tV r2, tX r3, bad⟩).seen.map boolC))), (.R k2, .s v2 (.sl 59 1 ((g ⟨pa, rg, ge, aK us, aS vs⟩ ⟨pF r1, tV r2, tX r3, bad⟩).out.map trsC))), (.R k3, .s (bump + v3) (.sl 3 1 ((g ⟨pa, rg, ge, aK us, aS vs⟩ ⟨pF r1, tV r2, tX r3, bad⟩).todo.map intC)))]
   | _, _, _ => False
  | _ => False
 | _ => False
theorem Pg {f : Nat} {st : St} {args : List AV} {pre : FnT → WT → Prop} {g : FnT → WT → WT} {bump : Nat} (hfc : ∀ F W, pre F W → FC Cx f (.os 0 0 :: args) (rsW 0 F W) (.tup []) (rsW bump F (g F W))) (ha : aX bR args = true) {a : AV} {K : List Loc → List (Loc × Cont) → Prop} (h : spW pre g bump st a K) :
  ∃ ls outs, dI Cx f st (a :: args) (.tup []) ls outs ∧ K ls outs := by
 unfold spW at h
 split at h
 ·rename_i k0 v0
  split at h
  ·rename_i w0 pa rg ge us vs k1 v1 k2 v2 k3 v3 bad hk0
   split at h
   ·rename_i w1 e1 r1 w2 e2 r2 w3 e3 r3 hk1 hk2 hk3
    obtain ⟨⟨rfl, rfl, rfl, rfl, rfl, rfl, rfl, hnd, hu, hv, h1, h2, h3, hp⟩, hK⟩ := h
    refine ⟨_, _, ?_, hK⟩
    have hc := hfc _ _ hp
    generalize g ⟨pa, rg, ge, aK us, aS vs⟩ ⟨pF r1, tV r2, tX r3, bad⟩ = W' at hc ⊢
    have hin : ∀ (v : Nat) (F : FnT) (W : WT) (p : Nat × Nat × Res), p ∈ rsW v F W → bP (domR (rsW v F W)) p.2.2 := fun v F W p hp => by
     simp only [rsW, List.mem_cons, List.not_mem_nil, or_false] at hp
     rcases hp with rfl | rfl | rfl | rfl
     ·show aX _ _ = true; simp only [aX, bK, domW]; rfl
     ·exact fun row h => cA (sQ _ row h)
     ·exact fun row h => cA (wY _ row h)
     ·exact fun row h => cA (Ad _ row h)
    have := dI.gen (st := st) hc [(0, k0, v0), (1, k1, v1), (2, k2, v2), (3, k3, v3)] rfl (Ca hnd) (by
      simp only [aX, bK, domW, cA ha]; rfl) rfl (hin _ _ _) (hin _ _ _) (fun p hp => ?_) (fun q hq d0 d1 => ?_)
    ·have e0 : renL (mpS [(0, k0, v0), (1, k1, v1), (2, k2, v2), (3, k3, v3)]) (mpD [(0, k0, v0), (1, k1, v1), (2, k2, v2), (3, k3, v3)]) args = args := iT ha
     simp only [renL, ren, e0] at this
     simpa only [mpS, mpD, ren, renL, dQ, List.map_cons, List.map_nil, jT, domW, aB, rsW, Nat.reduceEqDiff, ↓reduceIte, map_none (sQ _), map_none (wY _), map_none (Ad _), Nat.zero_add, Nat.reduceLT, decide_true, ← hu, ← hv] using this
    ·simp only [rsW, List.mem_cons, List.not_mem_nil, or_false] at hp
     rcases hp with rfl | rfl | rfl | rfl
     ·simp only [mpS, mpD, dQ, renL, ren, Nat.reduceEqDiff, ↓reduceIte, hk0, Nat.zero_add, ← hu, ← hv]
     ·show aB k1 st.rs = (0 + v1, Res.sl _ 1 (((pF r1).map boolC).map (renL _ _)))
      rw [map_none (sQ _), ← h1, hk1, Nat.zero_add]
     ·show aB k2 st.rs = (0 + v2, Res.sl _ 1 (((tV r2).map trsC).map (renL _ _)))
      rw [map_none (wY _), ← h2, hk2, Nat.zero_add]
     ·show aB k3 st.rs = (0 + v3, Res.sl _ 1 (((tX r3).map intC).map (renL _ _)))
      rw [map_none (Ad _), ← h3, hk3, Nat.zero_add]
    ·simp only [domW] at d0 d1
     rw [d0] at d1; cases d1
   ·exact h.elim
  ·exact h.elim
 ·exact h.elim
def xI (st : St) (_ : Nat) (args : List AV) (K : AV → List Loc → List (Loc × Cont) → Prop) : Prop := match args with
 | [a, .r (.v (.int .i64 n)), .r (.rs 2 xs)] => spW (fun F W => xs = (triesOf xs).map tryR ∧ 0 ≤ n ∧ xs.length ≤ 1000 ∧ Wok F W) (fun F W => aZ F n (triesOf xs) W) 1 st a (K (.tup []))
 | [a, .r (.v (.int .i64 n)), .r (.v (.slice none 0 0))] => spW (fun F W => 0 ≤ n ∧ Wok F W) (fun F W => aZ F n [] W) 1 st a (K (.tup []))
 | _ => False
theorem Ot (st : St) (d : Nat) (args : List AV) (K : AV → List Loc → List (Loc × Cont) → Prop) (h : xI st d args K) : ∃ r ls outs, dI Cx 160 st args r ls outs ∧ K r ls outs := by
 unfold xI at h
 split at h
 ·rename_i a n xs
  obtain ⟨ls, outs, h1, h2⟩ := Pg (f := 160) (args := [Iv n, .r (.rs 2 xs)]) (fun F W hp => by
   have := aAu F n (triesOf xs) W hp.2.1 hp.2.2.2 (by simpa [triesOf] using hp.2.2.1)
   rwa [iP hp.1] at this) rfl h
  exact ⟨_, ls, outs, h1, h2⟩
 ·rename_i a n
  obtain ⟨ls, outs, h1, h2⟩ := Pg (f := 160) (args := [Iv n, NilS]) (fun F W hp => aEv F n W hp.1 hp.2) rfl h
  exact ⟨_, ls, outs, h1, h2⟩
 ·exact h.elim
noncomputable def jL : Ct Cx := .res 160 xI aUd Ot
@[go_sem] theorem aO8 : jL.g = 160 := rfl
@[go_sem] theorem aI7 (c : Call) (fop : Operand) (caps : List AV) (o : Oper) (st : St) (K : List Loc → List (Loc × Cont) → Prop) : jL.run c fop caps o st K = kO xI c fop caps o st K := rfl
attribute [go_sem] xI spW
def ins0 : InsT := ⟨0, 0, 0, 0, 0⟩
def bW (f : FnT) (n : Int) (W : WT) : WT :=
 let i := f.code.getD n.toNat ins0
 let l := W.out.getD n.toNat []
 if i.op = 28 ∨ i.op = 29 then W else if i.op = 13 ∨ i.op = 14 then aZ f i.a l W else
 if i.op = 15 then aZ f (n + 1) l (aZ f i.b l W) else if i.op = 30 then aZ f (n + 1) (l ++ [(i.a, i.b)]) (aZ f i.b l W) else
 if i.op = 31 then (if l = [] then { W with bad := true } else aZ f (n + 1) (l.take (l.length - 1)) W) else aZ f (n + 1) l W
theorem Ts (f : FnT) (n : Int) (l : List (Int × Int)) (W : WT) : (aZ f n l W).todo.length ≤ W.todo.length + 1 := by
 unfold aZ
 split
 ·simp
 ·split
  ·simp
  ·split <;> simp
theorem Ql {f : FnT} {n : Int} {l : List (Int × Int)} {W : WT} (h : Wok f W) (ht : W.todo.length ≤ 999) : Wok f (aZ f n l W) := by
 obtain ⟨h1, h2, h3, h4, h5⟩ := h
 have h6 := Ts f n l W
 refine ⟨h1, ?_, ?_, by omega, ?_⟩
 ·unfold aZ; split
  ·exact h2
  ·split
   ·simpa using h2
   ·split <;> exact h2
 ·unfold aZ; split
  ·exact h3
  ·split
   ·simpa using h3
   ·split <;> exact h3
 ·unfold aZ; split
  ·exact h5
  ·split
   ·intro x hx
    rcases List.mem_or_eq_of_mem_set hx with hx | rfl
    ·exact h5 x hx
    ·omega
   ·split <;> exact h5
theorem aKh (f : FnT) (n : Nat) (W : WT) (hw : Wok f W) (ht : W.todo.length ≤ 998) (i : InsT) (hi : f.code[n]? = some i) (hA : i.op = 13 ∨ i.op = 14 → 0 ≤ i.a) (hB : i.op = 15 ∨ i.op = 30 → 0 ≤ i.b) (hl20 : (W.out.getD n []).length ≤ 20) :
  FC Cx 161 [.os 0 0, Iv n] (rsW 0 f W) (.tup []) (rsW 2 f (bW f n W)) := by
 obtain ⟨hc, h1, h2, h3, h4⟩ := id hw
 have hn : n < f.code.length := (List.getElem?_eq_some_iff.1 hi).1
 have l0 : (f.code.map insR).length = f.code.length := List.length_map ..
 have l2 : (W.out.map trsC).length = f.code.length := by rw [List.length_map, h2]
 have t1 : Int.toNat (n : Int) = n := by omega
 obtain ⟨l, hl⟩ : ∃ l, W.out[n]? = some l := ⟨W.out[n], List.getElem?_eq_getElem (by omega)⟩
 have g1 := aE insR hi ([] : List RV)
 have g2 := aE trsC hl ([] : List AV)
 have e1 : f.code.getD n ins0 = i := by simp [List.getD, hi]
 have e2 : W.out.getD n [] = l := by simp [List.getD, hl]
 rw [e2] at hl20
 have l4 : (l.map tryR).length = l.length := List.length_map ..
 have w1 : IntKind.i64.wrap ((n : Int) + 1) = (n : Int) + 1 := by rw [aN] <;> omega
 obtain ⟨op, a, b, c, line⟩ := i
 dsimp only at hA hB
 have l5 : (l.map tryC).length = l.length := List.length_map ..
 have hl1000 : l.length ≤ 1000 := by omega
 by_cases o28 : op = 28
 ·subst o28
  have hF : bW f n W = W := by unfold bW; simp only [t1, e1, e2]; simp
  rw [hF]
  refine iU [jL, dG] [(3, 2)] Tryz.func161 rfl Tryz.ntmps161 (by simp) Tryz.results161 rfl (insW 2 f _) ?_
  refine rnst ?_
  (any_goals refine go tU 0 ?_)
  all_goals (try simp only [go_sem])
  all_goals (first | rfl | (repeat' (first | rfl | refine And.intro ?_ ?_)))
 have d28 : decide (op = 28) = false := by simpa using o28
 by_cases o29 : op = 29
 ·subst o29
  have hF : bW f n W = W := by unfold bW; simp only [t1, e1, e2]; simp
  rw [hF]
  refine iU [jL, dG] [(3, 2)] Tryz.func161 rfl Tryz.ntmps161 (by simp) Tryz.results161 rfl (insW 2 f _) ?_
  refine rnst ?_
  (any_goals refine go tU 0 ?_)
  all_goals (try simp only [go_sem])
  all_goals (first | rfl | (repeat' (first | rfl | refine And.intro ?_ ?_)))
 have d29 : decide (op = 29) = false := by simpa using o29
 by_cases o13 : op = 13
 ·subst o13
  have hF : bW f n W = aZ f a l W := by unfold bW; simp only [t1, e1, e2]; simp
  rw [hF]
  have ha : 0 ≤ a := hA (by simp)
  refine iU [jL, dG] [(3, 2)] Tryz.func161 rfl Tryz.ntmps161 (by simp) Tryz.results161 rfl (insW 2 f _) ?_
  refine rnst ?_
  (any_goals refine go tU 0 ?_)
  all_goals (try simp only [go_sem])
  all_goals (first | rfl | (repeat' (first | rfl | refine And.intro ?_ ?_)))
 have d13 : decide (op = 13) = false := by simpa using o13
 by_cases o14 : op = 14
 ·subst o14
  have hF : bW f n W = aZ f a l W := by unfold bW; simp only [t1, e1, e2]; simp
  rw [hF]
  have ha : 0 ≤ a := hA (by simp)
  refine iU [jL, dG] [(3, 2)] Tryz.func161 rfl Tryz.ntmps161 (by simp) Tryz.results161 rfl (insW 2 f _) ?_
  refine rnst ?_
  (any_goals refine go tU 0 ?_)
  all_goals (try simp only [go_sem])
  all_goals (first | rfl | (repeat' (first | rfl | refine And.intro ?_ ?_)))
 have d14 : decide (op = 14) = false := by simpa using o14
 by_cases o15 : op = 15
 ·subst o15
  have hF : bW f n W = aZ f (n + 1) l (aZ f b l W) := by unfold bW; simp only [t1, e1, e2]; simp
  rw [hF]
  have hb : 0 ≤ b := hB (by simp)
  have hw2 : Wok f (aZ f b l W) := Ql hw (by omega)
  refine iU [jL, dG] [(3, 2)] Tryz.func161 rfl Tryz.ntmps161 (by simp) Tryz.results161 rfl (insW 2 f _) ?_
  refine rnst ?_
  (any_goals refine go tU 0 ?_)
  all_goals (try simp only [go_sem])
  all_goals (first | rfl | (repeat' (first | rfl | refine And.intro ?_ ?_)))
 have d15 : decide (op = 15) = false := by simpa using o15
 by_cases o30 : op = 30
 ·subst o30
  have hF : bW f n W = aZ f (n + 1) (l ++ [(a, b)]) (aZ f b l W) := by unfold bW; simp only [t1, e1, e2]; simp
  rw [hF]
  have hb : 0 ≤ b := hB (by simp)
  have hw2 : Wok f (aZ f b l W) := Ql hw (by omega)
  have hm : (l.map tryC) ++ [[Iv a, Iv b]] = (l ++ [(a, b)]).map tryC := by simp
  have l6 : ((l ++ [(a, b)]).map tryR).length = l.length + 1 := by simp
  refine iU [jL, dG] [(3, 2)] Tryz.func161 rfl Tryz.ntmps161 (by simp) Tryz.results161 rfl (insW 2 f _) ?_
  refine rnst ?_
  (any_goals refine go (eM 16 tU) 0 ?_)
  (apply gU 49 ((l ++ [(a, b)]).map tryR); (exact rfl); (exact (Hu _).symm); (exact rfl); (intro K0; (try simp only [go_sem]); exact ⟨id⟩))
  (any_goals refine go tU 0 ?_)
  all_goals (try simp only [go_sem])
  all_goals (first | rfl | (repeat' (first | rfl | refine And.intro ?_ ?_)))
 have d30 : decide (op = 30) = false := by simpa using o30
 by_cases o31 : op = 31
 ·subst o31
  by_cases hl0 : l = []
  ·have hF : bW f n W = { W with bad := true } := by unfold bW; simp only [t1, e1, e2]; simp [hl0]
   rw [hF]
   subst hl0
   refine iU [jL, dG] [(3, 2)] Tryz.func161 rfl Tryz.ntmps161 (by simp) Tryz.results161 rfl (insW 2 f _) ?_
   refine rnst ?_
   (any_goals refine go tU 0 ?_)
   all_goals (try simp only [go_sem])
   all_goals (first | rfl | (repeat' (first | rfl | refine And.intro ?_ ?_)))
  ·have hF : bW f n W = aZ f (n + 1) (l.take (l.length - 1)) W := by unfold bW; simp only [t1, e1, e2]; simp [hl0]
   rw [hF]
   have hl1 : 0 < l.length := List.length_pos_iff.2 hl0
   have d0 : decide ((l.length : Int) = 0) = false := by rw [decide_eq_false_iff_not]; omega
   have w2 : IntKind.i64.wrap ((l.length : Int) - 1) = ((l.length - 1 : Nat) : Int) := by rw [aN] <;> omega
   have t2 : Int.toNat ((l.length - 1 : Nat) : Int) = l.length - 1 := by omega
   have k1 : List.drop 0 (List.take (l.length - 1) (l.map tryR)) = (l.take (l.length - 1)).map tryR := by rw [List.map_take]; rfl
   have l7 : ((l.take (l.length - 1)).map tryR).length = l.length - 1 := by simp
   refine iU [jL, dG] [(3, 2)] Tryz.func161 rfl Tryz.ntmps161 (by simp) Tryz.results161 rfl (insW 2 f _) ?_
   refine rnst ?_
   (any_goals refine go tU 0 ?_)
   all_goals (try simp only [go_sem])
   all_goals (first | rfl | (repeat' (first | rfl | refine And.intro ?_ ?_)))
 have d31 : decide (op = 31) = false := by simpa using o31
 have hF : bW f n W = aZ f (n + 1) l W := by unfold bW; simp only [t1, e1, e2]; simp [o13, o14, o15, o28, o29, o30, o31]
 rw [hF]
 refine iU [jL, dG] [(3, 2)] Tryz.func161 rfl Tryz.ntmps161 (by simp) Tryz.results161 rfl (insW 2 f _) ?_
 refine rnst ?_
 (any_goals refine go tU 0 ?_)
 all_goals (try simp only [go_sem])
 all_goals (first | rfl | (repeat' (first | rfl | refine And.intro ?_ ?_)))
def cntF : List Bool → Nat
 | [] => 0
 | b :: l => (if b = true then 0 else 1) + cntF l
theorem Iw : ∀ {l : List Bool} {k : Nat}, l[k]? = some false → cntF (l.set k true) + 1 = cntF l
 | b :: l, 0, h => by simp at h; subst h; simp [cntF]; omega
 | b :: l, k + 1, h => by
  have := Iw (l := l) (k := k) (by simpa using h)
  simp only [List.set_cons_succ, cntF]; omega
theorem Cp : ∀ n : Nat, cntF (List.replicate n false) = n
 | 0 => rfl
 | n + 1 => by simp only [List.replicate_succ, cntF, Cp n]; simp; omega
def muW (W : WT) : Nat := 2 * cntF W.seen + W.todo.length
structure Cok (f : FnT) : Prop where
 len : f.code.length ≤ 600
 a : ∀ i ∈ f.code, i.op = 13 ∨ i.op = 14 → 0 ≤ i.a
 b : ∀ i ∈ f.code, i.op = 15 ∨ i.op = 30 → 0 ≤ i.b
structure Wiv (f : FnT) (W : WT) : Prop where
 seen : W.seen.length = f.code.length
 out : W.out.length = f.code.length
 todo : W.todo.length + cntF W.seen ≤ f.code.length
 inr : ∀ t ∈ W.todo, 0 ≤ t ∧ t < f.code.length
 outs : ∀ x ∈ W.out, x.length ≤ 20
theorem Wiv.ok {f : FnT} {W : WT} (h : Wiv f W) (hc : f.code.length ≤ 600) : Wok f W := ⟨hc, h.seen, h.out, by have := h.todo; omega, fun x hx => by have := h.outs x hx; omega⟩
theorem cO {f : FnT} {n : Int} {l : List (Int × Int)} {W : WT} (h : Wiv f W) (hn : 0 ≤ n) : Wiv f (aZ f n l W) ∧ muW (aZ f n l W) ≤ muW W := by
 obtain ⟨h1, h2, h3, h4, h5⟩ := h
 unfold aZ
 split
 ·exact ⟨⟨h1, h2, h3, h4, h5⟩, Nat.le_refl _⟩
 ·rename_i hb
  split
  ·rename_i hs
   have hk : n.toNat < W.seen.length := by omega
   have hs' : W.seen[n.toNat]? = some false := by
    rw [List.getElem?_eq_getElem hk]
    have : W.seen.getD n.toNat false = W.seen[n.toNat] := by simp [List.getD, List.getElem?_eq_getElem hk]
    rw [← this, hs]
   have hc := Iw hs'
   refine ⟨⟨by simpa using h1, by simpa using h2, ?_, ?_, ?_⟩, ?_⟩
   ·simp only [List.length_append, List.length_singleton]; omega
   ·intro t ht
    rcases List.mem_append.1 ht with ht | ht
    ·exact h4 t ht
    ·simp at ht; subst ht; omega
   ·intro x hx
    rcases List.mem_or_eq_of_mem_set hx with hx | rfl
    ·exact h5 x hx
    ·omega
   ·simp only [muW, List.length_append, List.length_singleton]; omega
  ·split
   ·exact ⟨⟨h1, h2, h3, h4, h5⟩, Nat.le_refl _⟩
   ·exact ⟨⟨h1, h2, h3, h4, h5⟩, Nat.le_refl _⟩
theorem Is {f : FnT} {n : Int} {W : WT} (h : Wiv f W) (hc : Cok f) (hn : 0 ≤ n) : Wiv f (bW f n W) ∧ muW (bW f n W) ≤ muW W := by
 have hi : f.code.getD n.toNat ins0 = ins0 ∨ f.code.getD n.toNat ins0 ∈ f.code := by
  cases hg : f.code[n.toNat]? with
  | none => left; simp [List.getD, hg]
  | some i => right; simp only [List.getD, hg, Option.getD_some]; exact List.mem_of_getElem? hg
 unfold bW
 generalize f.code.getD n.toNat ins0 = i at hi
 generalize W.out.getD n.toNat [] = l
 have hA : i.op = 13 ∨ i.op = 14 → 0 ≤ i.a := fun ho => hi.elim (fun h => by rw [h] at ho; rcases ho with ho | ho <;> cases ho) (fun h => hc.a i h ho)
 have hB : i.op = 15 ∨ i.op = 30 → 0 ≤ i.b := fun ho => hi.elim (fun h => by rw [h] at ho; rcases ho with ho | ho <;> cases ho) (fun h => hc.b i h ho)
 dsimp only
 split
 ·exact ⟨h, Nat.le_refl _⟩
 ·split
  ·rename_i ho; exact cO h (hA ho)
  ·split
   ·rename_i ho
    obtain ⟨q1, q2⟩ := cO (n := i.b) (l := l) h (hB (.inl ho))
    obtain ⟨q3, q4⟩ := cO (n := n + 1) (l := l) q1 (by omega)
    exact ⟨q3, by omega⟩
   ·split
    ·rename_i ho
     obtain ⟨q1, q2⟩ := cO (n := i.b) (l := l) h (hB (.inr ho))
     obtain ⟨q3, q4⟩ := cO (n := n + 1) (l := l ++ [(i.a, i.b)]) q1 (by omega)
     exact ⟨q3, by omega⟩
    ·split
     ·split
      ·exact ⟨⟨h.seen, h.out, h.todo, h.inr, h.outs⟩, Nat.le_refl _⟩
      ·exact cO h (by omega)
     ·exact cO h (by omega)
def jP (W : WT) : Int := W.todo.getD (W.todo.length - 1) 0
def popW (W : WT) : WT := { W with todo := W.todo.take (W.todo.length - 1) }
def dT (f : FnT) (W : WT) : WT := bW f (jP W) (popW W)
def cP (W : WT) : Bool := decide (0 < W.todo.length) && !W.bad
def runW (f : FnT) : Nat → WT → WT
 | 0, W => W
 | k + 1, W => if cP W = true then runW f k (dT f W) else W
def W0 (f : FnT) : WT := ⟨List.replicate f.code.length false, List.replicate f.code.length [], [], false⟩
def bN (f : FnT) : WT := runW f (2 * f.code.length) (aZ f 0 [] (W0 f))
theorem qK {f : FnT} {W : WT} (h : Wiv f W) (h0 : 0 < W.todo.length) : Wiv f (popW W) ∧ muW (popW W) + 1 = muW W ∧ 0 ≤ jP W ∧ jP W < f.code.length := by
 have hm : jP W ∈ W.todo := by
  unfold jP
  have hlt : W.todo.length - 1 < W.todo.length := by omega
  simp only [List.getD, List.getElem?_eq_getElem hlt, Option.getD_some]
  exact List.getElem_mem hlt
 refine ⟨⟨h.seen, h.out, ?_, fun t ht => h.inr t (List.mem_of_mem_take ht), h.outs⟩, ?_, (h.inr _ hm).1, (h.inr _ hm).2⟩
 ·have := h.todo
  simp only [popW, List.length_take]; omega
 ·simp only [popW, muW, List.length_take]; omega
theorem jJ {f : FnT} {W : WT} (h : Wiv f W) (hc : Cok f) (hg : cP W = true) : Wiv f (dT f W) ∧ muW (dT f W) < muW W := by
 have h0 : 0 < W.todo.length := by simp [cP] at hg; exact hg.1
 obtain ⟨q1, q2, q3, q4⟩ := qK h h0
 obtain ⟨q5, q6⟩ := Is (n := jP W) q1 hc q3
 exact ⟨q5, by unfold dT; omega⟩
theorem Fl {f : FnT} (hc : Cok f) : ∀ (k : Nat) (W : WT), Wiv f W → muW W ≤ k → runW f (k + 1) W = runW f k W
 | 0, W, _, hm => by
  have : cP W = false := by
   have : W.todo.length = 0 := by unfold muW at hm; omega
   simp [cP, this]
  simp [runW, this]
 | k + 1, W, hi, hm => by
  by_cases hg : cP W = true
  ·obtain ⟨q1, q2⟩ := jJ hi hc hg
   have := Fl hc k (dT f W) q1 (by omega)
   show (if cP W = true then runW f (k + 1) (dT f W) else W) = if cP W = true then runW f k (dT f W) else W
   rw [if_pos hg, if_pos hg, this]
  ·show (if cP W = true then runW f (k + 1) (dT f W) else W) = if cP W = true then runW f k (dT f W) else W
   rw [if_neg hg, if_neg hg]
theorem Bf {f : FnT} (hc : Cok f) {W : WT} (hi : Wiv f W) : ∀ (j : Nat), runW f (muW W + j) W = runW f (muW W) W
 | 0 => rfl
 | j + 1 => by rw [← Bf hc hi j]; exact Fl hc _ W hi (Nat.le_add_right _ _)
theorem Qt {f : FnT} (hc : Cok f) {W : WT} (hi : Wiv f W) {k : Nat} (h : muW W ≤ k) : runW f k W = runW f (muW W) W := by
 have := Bf hc hi (k - muW W)
 rwa [show muW W + (k - muW W) = k by omega] at this
theorem jR (f : FnT) : Wiv f (W0 f) ∧ muW (W0 f) = 2 * f.code.length := by
 refine ⟨⟨by simp [W0], by simp [W0], by simp [W0, Cp], fun t ht => by simp [W0] at ht, fun x hx => ?_⟩, by simp [muW, W0, Cp]⟩
 have := List.eq_of_mem_replicate hx
 subst this; simp
theorem kY {f : FnT} (hc : Cok f) : Wiv f (aZ f 0 [] (W0 f)) ∧ runW f (muW (aZ f 0 [] (W0 f))) (aZ f 0 [] (W0 f)) = bN f := by
 obtain ⟨q1, q2⟩ := cO (n := 0) (l := []) (jR f).1 (Int.le_refl 0)
 refine ⟨q1, ?_⟩
 have := (jR f).2
 exact (Qt hc q1 (by omega)).symm
theorem Tu {f : FnT} (hc : Cok f) {W : WT} (hi : Wiv f W) (hg : cP W = true) (h : runW f (muW W) W = bN f) : runW f (muW (dT f W)) (dT f W) = bN f := by
 obtain ⟨q1, q2⟩ := jJ hi hc hg
 rw [← h]
 have : runW f (muW W) W = runW f (muW W - 1 + 1) W := by rw [show muW W - 1 + 1 = muW W by omega]
 rw [this]
 show _ = if cP W = true then runW f (muW W - 1) (dT f W) else W
 rw [if_pos hg]
 exact (Qt hc q1 (by omega)).symm
theorem Ly {f : FnT} {W : WT} (hg : cP W = false) (h : runW f (muW W) W = bN f) : W = bN f := by
 rw [← h]
 cases muW W with
 | zero => rfl
 | succ k => show W = if cP W = true then _ else W; rw [if_neg (by rw [hg]; simp)]
structure Wpre (f : FnT) (n : Int) (W : WT) : Prop where
 lo : 0 ≤ n
 hi : n < f.code.length
 code : Cok f
 iv : Wiv f W
def wH (st : St) (_ : Nat) (args : List AV) (K : AV → List Loc → List (Loc × Cont) → Prop) : Prop := match args with
 | [a, .r (.v (.int .i64 n))] => spW (fun F W => Wpre F n W) (fun F W => bW F n W) 2 st a (K (.tup []))
 | _ => False
theorem Oo (st : St) (d : Nat) (args : List AV) (K : AV → List Loc → List (Loc × Cont) → Prop) (h : wH st d args K) : ∃ r ls outs, dI Cx 161 st args r ls outs ∧ K r ls outs := by
 unfold wH at h
 split at h
 ·rename_i a n
  obtain ⟨ls, outs, h1, h2⟩ := Pg (f := 161) (args := [Iv n]) (fun F W hp => by
   obtain ⟨p1, p2, p3, p4⟩ := hp
   obtain ⟨k, rfl⟩ : ∃ k : Nat, n = k := ⟨n.toNat, by omega⟩
   have hi : F.code[k]? = some (F.code[k]'(by omega)) := List.getElem?_eq_getElem (by omega)
   have hm := List.mem_of_getElem? hi
   have := p4.todo
   have := p3.len
   refine aKh F k W (p4.ok p3.len) (by omega) _ hi (p3.a _ hm) (p3.b _ hm) ?_
   cases ho : W.out[k]? with
   | none => simp [List.getD, ho]
   | some x => simp only [List.getD, ho, Option.getD_some]; exact p4.outs x (List.mem_of_getElem? ho)) rfl h
  exact ⟨_, ls, outs, h1, h2⟩
 ·exact h.elim
noncomputable def Hn : Ct Cx := .res 161 wH aVh Oo
@[go_sem] theorem aPr : Hn.g = 161 := rfl
@[go_sem] theorem aH4 (c : Call) (fop : Operand) (caps : List AV) (o : Oper) (st : St) (K : List Loc → List (Loc × Cont) → Prop) : Hn.run c fop caps o st K = kO wH c fop caps o st K := rfl
attribute [go_sem] wH
theorem SR.tellS {C : Ctx} {e : Env} {st : St} {g : Gh} {a : Act} {w : World} (h : SR C e st g a w) {k ver el sz : Nat} {rows rows' : List (List AV)} (hk : aB k st.rs = (ver, .sl el sz rows)) (hl : rows'.length = rows.length) (hr : ∀ row ∈ rows', (row.length, noNd row) = (sz, true))
  (hv : ∀ (i j : Nat) (row row' : List AV) (x x' : AV), rows[i]? = some row → rows'[i]? = some row' → row[j]? = some x → row'[j]? = some x' → ∀ cur g w N v, AR cur g w N x v → AR cur g w N x' v) :
  ∃ g', SR C e { st with rs := putR k (ver, .sl el sz rows') st.rs } g' a w := by
 generalize hst : ({ st with rs := putR k (ver, .sl el sz rows') st.rs } : St) = st'
 have hlook : ∀ i, aB i st'.rs = if i = k then (ver, .sl el sz rows') else aB i st.rs := fun i => by rw [← hst]; exact cX i k _ _
 let g' : Gh := ⟨g.v, fun i => if i = k then [] else g.f i⟩
 have hb : ∀ i b, blk st' g' i b → blk st g i b := fun i b hb => by
  by_cases hi : i = k
  ·subst hi
   refine ⟨by rw [hk]; simp, hb.2.imp id fun h2 => ?_⟩
   have : g'.f i = [] := if_pos rfl
   rw [this] at h2; cases h2
  ·have h3 := hb.2
   rw [show g'.f i = g.f i from if_neg hi] at h3
   exact ⟨by have := hb.1; rwa [hlook, if_neg hi] at this, h3⟩
 refine ⟨g', h.turn2 (by rw [← hst]) (by rw [← hst]) (fun b ⟨i, hi⟩ => ⟨i, hb i b hi⟩) (fun i => .inr ⟨?_, rfl⟩) (fun i i' b hi hi' => h.uniq i i' b (hb i b hi) (hb i' b hi')) fun hlift hN i => ?_⟩
 ·simp only [St.cur, hlook]
  by_cases hi : i = k
  ·subst hi; rw [if_pos rfl, hk]
  ·rw [if_neg hi]
 ·rw [hlook]
  by_cases hi : i = k
  ·subst hi
   rw [if_pos rfl]
   have hres := h.res i
   rw [hk] at hres
   obtain ⟨xs, q1, q2, q3, _⟩ := hres
   have hr1 : ∀ row ∈ rows', row.length = sz := fun row hrow => congrArg Prod.fst (hr row hrow)
   refine ⟨xs, by rw [hl]; exact q1, hr1, fun i' j' row' x' y h1 h2 h3 => ?_, ?_⟩
   ·have hlt := (List.getElem?_eq_some_iff.1 h1).1
    have hr0 : rows[i']? = some (rows[i']'(by omega)) := List.getElem?_eq_getElem (by omega)
    have hj : j' < sz := by rw [← hr1 row' (List.mem_of_getElem? h1)]; exact (List.getElem?_eq_some_iff.1 h2).1
    have hx0 : (rows[i']'(by omega))[j']? = some ((rows[i']'(by omega))[j']'(by rw [q2 _ (List.mem_of_getElem? hr0)]; exact hj)) := List.getElem?_eq_getElem _
    exact hv i' j' _ row' _ x' hr0 h1 hx0 h2 _ _ _ _ _ (hlift _ _ (q3 i' j' _ _ y hr0 hx0 h3))
   ·rw [show g'.f i = [] from if_pos rfl, lK (zW fun row hrow => sH (congrArg Prod.snd (hr row hrow)))]; exact .none
  ·rw [if_neg hi]; exact (h.res i).mono2 hlift hN rfl (if_neg hi)
theorem Mp {C : Ctx} {T : List (Ct C)} {r : List It} {st st' : St} {K : Exit → St → Prop} (k : Nat) {ver el sz : Nat} {rows : List (List AV)} (rows' : List (List AV)) (hk : aB k st.rs = (ver, .sl el sz rows)) (hl : rows'.length = rows.length) (hr : ∀ row ∈ rows', (row.length, noNd row) = (sz, true))
  (hv : ∀ (i j : Nat) (row row' : List AV) (x x' : AV), rows[i]? = some row → rows'[i]? = some row' → row[j]? = some x → row'[j]? = some x' → ∀ cur g w N v, AR cur g w N x v → AR cur g w N x' v) (hc : hasC r = true)
  (hst : ∀ K0 : St → Prop, Imp (K0 st') (K0 { st with rs := putR k (ver, .sl el sz rows') st.rs })) (hk2 : Rn C T r st' K) : Rn C T r st K := by
 have hk' := (hst fun s => Rn C T r s K).run hk2
 exact tY hc (fun e a w ⟨ho, g, hs⟩ => ⟨ho, hs.tellS hk hl hr hv⟩) hk'
abbrev rsT (W : WT) : List (Nat × Nat × Res) := [(11, 1, .sl 4 1 (W.seen.map boolC)), (15, 1, .sl 59 1 (W.out.map trsC))]
theorem insT (W : WT) (k : Nat) : bP (domR (rsT W)) (aB k (rsT W)).2 := by
 have e : aB k (rsT W) = if k = 11 then (1, .sl 4 1 (W.seen.map boolC)) else if k = 15 then (1, .sl 59 1 (W.out.map trsC)) else (0, .gone) := rfl
 rw [e]
 split
 ·exact fun row h => cA (sQ _ row h)
 ·split
  ·exact fun row h => cA (wY _ row h)
  ·trivial
theorem aG6 (f : FnT) (hc : Cok f) : FC Cx 107 [fnA f] [] (.tup [.os 15 1, .os 11 1, Bv (!(bN f).bad)]) (rsT (bN f)) := by
 have hlen := hc.len
 have l0 : (f.code.map insR).length = f.code.length := List.length_map ..
 obtain ⟨iv0, run0⟩ := kY hc
 have ok0 : Wok f (W0 f) := (jR f).1.ok hlen
 have ok0' : Wok f ⟨(W0 f).seen, (W0 f).out, (W0 f).todo, false⟩ := ok0
 have e0 : aZ f 0 [] ⟨(W0 f).seen, (W0 f).out, (W0 f).todo, false⟩ = aZ f 0 [] (W0 f) := rfl
 have tn : Int.toNat (f.code.length : Int) = f.code.length := by omega
 have s1 : List.replicate f.code.length [Bv false] = (W0 f).seen.map boolC := by simp [W0]
 have s3 : ([] : List (List AV)) = (W0 f).todo.map intC := rfl
 have hmap : ∀ {α : Type} (g : α → List AV) (l : List α), (l.map g).length = l.length := fun g l => List.length_map ..
 refine iZ [jL, Hn]  Tryz.func107 rfl Tryz.ntmps107 (by simp) Tryz.results107 rfl (insT _) ?_
 refine rnst ?_
 refine goR ?_
 refine fzB 1 ?_
 (any_goals refine go (eM 2 Ml) 0 ?_)
 (apply Mp 15 ((W0 f).out.map trsC); (exact rfl); (simp [W0]); (intro row hr; obtain ⟨x, _, rfl⟩ := List.mem_map.1 hr; rfl); (intro i j row row' x x' h1 h2 h3 h4 cur g w N v hv; have e1 := List.eq_of_mem_replicate (List.mem_of_getElem? h1); subst e1; simp only [W0, List.map_replicate] at h2; have e2 := List.eq_of_mem_replicate (List.mem_of_getElem? h2); subst e2; match j with | 0 => (simp at h3 h4; subst h3; subst h4; exact Nj 2 hv) | j + 1 => simp at h3); (exact rfl); (intro K0; (try simp only [go_sem, tn, s1]); exact ⟨id⟩))
 (apply Pa 17 7 100 3 1; (exact rfl); (decide); (exact rfl); (exact rfl); (intro K0; (try simp only [go_sem, s3, List.set_cons_zero, List.set_cons_succ]); exact ⟨id⟩))
 (any_goals refine go Ml 0 ?_)
 refine jD [5] (fun x : WT × Nat => Wiv f x.1 ∧ runW f (muW x.1) x.1 = bN f)
  (fun x => ⟨75, [(5, .os 17 1)], [(1, 2, .gone), (11, 1, .sl 4 1 (x.1.seen.map boolC)), (15, 1, .sl 59 1 (x.1.out.map trsC)), (17, 1, .bx [Iv f.params, Iv f.regs, Bv f.gen, dF f.caught, nQ f.code, .os 11 1, .os 15 1, .os 100 x.2, Bv x.1.bad]), (100, x.2, .sl 3 1 (x.1.todo.map intC))]⟩) (fun x => muW x.1) (aZ f 0 [] (W0 f), 2) rfl rfl ⟨rfl, .inl ⟨rfl, rfl⟩, rfl, .inl ⟨rfl, rfl⟩, rfl, .inl ⟨rfl, rfl⟩, rfl, .inl ⟨rfl, rfl⟩, rfl, .inl ⟨rfl, rfl⟩, trivial⟩ ⟨iv0, run0⟩ ?_
 rintro ⟨W, v⟩ ⟨iv, run⟩
 dsimp only at iv run
 cases hb : W.bad with
 | true =>
  (any_goals refine go Ml 0 ?_)
  all_goals (try simp only [go_sem])
  have he := Ly (f := f) (W := W) (by simp [cP, hb]) run
  rw [← he, hb]
  exact ⟨rfl, rfl, rfl⟩
 | false =>
  by_cases h0 : 0 < W.todo.length
  ·have d0 : decide ((0 : Int) < (W.todo.length : Int)) = true := by rw [decide_eq_true_eq]; omega
   have hlast : W.todo[W.todo.length - 1]? = some (jP W) := by
    have hlt : W.todo.length - 1 < W.todo.length := by omega
    unfold jP
    simp [List.getD, List.getElem?_eq_getElem hlt]
   have gl := aE intC hlast ([] : List AV)
   have ht := iv.todo
   have w1 : IntKind.i64.wrap ((W.todo.length : Int) - 1) = ((W.todo.length - 1 : Nat) : Int) := by rw [aN] <;> omega
   have t1 : Int.toNat ((W.todo.length - 1 : Nat) : Int) = W.todo.length - 1 := by omega
   have hg : cP W = true := by simp [cP, hb, h0]
   obtain ⟨q1, q2, q3, q4⟩ := qK iv h0
   obtain ⟨q5, q6⟩ := jJ iv hc hg
   have hpre : Wpre f (jP W) ⟨W.seen, W.out, W.todo.take (W.todo.length - 1), false⟩ := ⟨q3, q4, hc, by have := q1; unfold popW at this; rwa [hb] at this⟩
   have hst : bW f (jP W) ⟨W.seen, W.out, W.todo.take (W.todo.length - 1), false⟩ = dT f W := by unfold dT popW; rw [hb]
   have htk : List.take (W.todo.length - 1) (W.todo.map intC) = (W.todo.take (W.todo.length - 1)).map intC := by rw [List.map_take]
   (any_goals refine go Ml 0 ?_)
   all_goals (try simp only [go_sem])
   exact ⟨(dT f W, 2 + (v + 1)), ⟨q5, Tu hc iv hg run⟩, q6, gP [5] rfl rfl ⟨rfl, .inl ⟨rfl, rfl⟩, rfl, .inl ⟨rfl, rfl⟩, rfl, .inl ⟨rfl, rfl⟩, rfl, .inl ⟨rfl, rfl⟩, rfl, .inl ⟨rfl, rfl⟩, trivial⟩⟩
  ·have d0 : decide ((0 : Int) < (W.todo.length : Int)) = false := by rw [decide_eq_false_iff_not]; omega
   (any_goals refine go Ml 0 ?_)
   all_goals (try simp only [go_sem])
   have he := Ly (f := f) (W := W) (by simp [cP, h0]) run
   rw [← he, hb]
   exact ⟨rfl, rfl, rfl⟩
theorem FC.freezeT {C : Ctx} {f : Nat} {args : List AV} {rs0 rs1 : List (Nat × Nat × Res)} {xs ys : List AV} (hf : FC C f args rs0 (.tup xs) rs1) {l : List Loc} (hn : ys.length = xs.length) (hd : ∀ x ∈ xs, isNd x = false) (hb : ∀ (j : Nat) (x y : AV), xs[j]? = some x → ys[j]? = some y → Bor l (stR rs1) x y) : FC C f args rs0 (.tup ys) [] := by
 refine ⟨fun e g w vs hok hs hvs => (hf.run e g w vs hok hs hvs).mono ?_⟩
 rintro x w' ⟨v, g', rfl, hs', hv, _⟩
 have hno : ∀ b, ¬ own (stR []) g' b := fun b ⟨k, hk⟩ => by simp [blk, aB] at hk
 obtain ⟨f1, _⟩ := hs'.final (rs1 := []) (fun k hk => by simp [domR, aB] at hk) (fun k => trivial)
 refine ⟨v, g', rfl, f1, ?_, fun k hk => by simp [domR, aB] at hk⟩
 cases hv with
 | tup _ vs' hs2 hvs' =>
  refine .tup _ vs' (by rw [hn]; exact hs2) fun j y u hy hu => ?_
  have hlt := (List.getElem?_eq_some_iff.1 hy).1
  have hx : xs[j]? = some (xs[j]'(by omega)) := List.getElem?_eq_getElem (by omega)
  exact wJ (hb j _ y hx hy) hs' (bU.1 (bU.2 fun _ _ => rfl)) (fun k b _ hk hN => hN.elim (hs'.low k b hk).2.2 (hno b)) (fun b hN => hN.elim .inl fun h => absurd h (hno b)) (hd _ (List.mem_of_getElem? hx)) (hvs' j _ u hx hu) _ _
abbrev trsR (l : List (Int × Int)) : List RV := [.rs 2 (l.map tryR)]
abbrev Rz (l : List (List (Int × Int))) : AV := .r (.rs 1 (l.map trsR))
theorem aMs (l : List (List (Int × Int))) : ((l.map trsR).map fun r => r.map AV.r) = l.map trsC := by rw [List.map_map]; rfl
theorem aEr (l : List Bool) : ((l.map Ew).map fun r => r.map AV.r) = l.map boolC := by rw [List.map_map]; rfl
theorem Bor.more {l l' : List Loc} {st : St} {x y : AV} (h : Bor l st x y) (hl : ∀ k, k ∈ l → k ∈ l') : Bor l' st x y := h.mono hl
theorem aAr (f : FnT) (hc : Cok f) : FC Cx 107 [fnA f] [] (.tup [Rz (bN f).out, Hw (bN f).seen, Bv (!(bN f).bad)]) [] := by
 refine (aG6 f hc).freezeT (l := [.R 15, .R 11]) rfl (sH rfl) fun j x y hx hy => ?_
 match j with
 | 0 =>
  simp at hx hy; subst hx; subst hy
  exact (Ht (rowsR := (bN f).out.map trsR) (by rw [aMs]; rfl)).more fun k hk => by simp at hk; simp [hk]
 | 1 =>
  simp at hx hy; subst hx; subst hy
  exact (Ht (rowsR := (bN f).seen.map Ew) (by rw [aEr]; rfl)).more fun k hk => by simp at hk; simp [hk]
 | 2 => simp at hx hy; subst hx; subst hy; exact .same _ rfl
 | j + 3 => simp at hx
theorem Tf (pa rg : Int) (ge : Bool) (us vs : List (List RV)) (h : (us = (aK us).map intR ∧ vs = (aS vs).map insR) ∧ Cok ⟨pa, rg, ge, aK us, aS vs⟩) : FC Cx 107 [.agg [Iv pa, Iv rg, Bv ge, .r (.rs 1 us), .r (.rs 5 vs)]] [] (.tup [Rz (bN ⟨pa, rg, ge, aK us, aS vs⟩).out, Hw (bN ⟨pa, rg, ge, aK us, aS vs⟩).seen, Bv (!(bN ⟨pa, rg, ge, aK us, aS vs⟩).bad)]) [] := by
 have := aAr ⟨pa, rg, ge, aK us, aS vs⟩ h.2
 rwa [Eg h.1] at this
def qL (args : List AV) (K : AV → Prop) : Prop := match args with
 | [.agg [.r (.v (.int .i64 pa)), .r (.v (.int .i64 rg)), .r (.v (.bool ge)), .r (.rs 1 us), .r (.rs 5 vs)]] => ((us = (aK us).map intR ∧ vs = (aS vs).map insR) ∧ Cok ⟨pa, rg, ge, aK us, aS vs⟩) ∧ K (.tup [Rz (bN ⟨pa, rg, ge, aK us, aS vs⟩).out, Hw (bN ⟨pa, rg, ge, aK us, aS vs⟩).seen, Bv (!(bN ⟨pa, rg, ge, aK us, aS vs⟩).bad)])
 | _ => False
noncomputable abbrev uZ : Ct Cx := .pure 107 qL fun args K h => by
 unfold qL at h; split at h; exact ⟨_, aA (Tf _ _ _ _ _ h.1) aQ8 rfl rfl, h.2⟩; exact h.elim
@[go_sem] theorem aDe : type_of% @qL.eq_def := @qL.eq_def
structure Pok (p : aI) : Prop where
 fns : p.fns.length ≤ 60
 consts : p.consts.length ≤ 200
 texts : p.texts.length ≤ 200
 bytes : ∀ s ∈ p.texts, s.size ≤ 200
 fn : ∀ f ∈ p.fns, f.code.length ≤ 600 ∧ f.regs ≤ 60 ∧ f.caught.length ≤ 9223372036854775807
theorem Pok.sz {p : aI} (h : Pok p) : Psz p := ⟨by have := h.fns; omega, by have := h.consts; omega, by have := h.texts; omega⟩
theorem Pok.cau {p : aI} (h : Pok p) : ∀ g ∈ p.fns, g.caught.length ≤ 9223372036854775807 := fun g hg => (h.fn g hg).2.2
def jM (p : aI) (f : FnT) : Bool := (List.range f.code.length).all fun k => fH p f k (f.code.getD k ins0)
def bQ (p : aI) (f : FnT) : Bool :=
 if f.params < 0 ∨ f.regs < 1 ∨ f.regs < f.params then false else if jM p f = false then false else !(bN f).bad
theorem Cf {p : aI} {f : FnT} (hl : f.code.length ≤ 600) (h : jM p f = true) : Cok f := by
 have key : ∀ i ∈ f.code, ∃ n : Int, fH p f n i = true := fun i hi => by
  obtain ⟨k, hk, rfl⟩ := List.getElem_of_mem hi
  refine ⟨k, ?_⟩
  have := List.all_eq_true.1 h k (List.mem_range.2 hk)
  simpa [List.getD, List.getElem?_eq_getElem hk] using this
 have ord : ∀ i ∈ f.code, kL p f i = true := fun i hi => by
  obtain ⟨n, hn⟩ := key i hi
  unfold fH at hn
  split at hn
  ·cases hn
  ·split at hn
   ·cases hn
   ·rename_i h; simpa using h
 refine ⟨hl, fun i hi ho => ?_, fun i hi ho => ?_⟩
 ·have := ord i hi
  simp only [kL, Bool.and_eq_true] at this
  have h1 := this.1.1.2
  have e : fB i.op 0 = 97 := by rcases ho with h | h <;> rw [h] <;> rfl
  rw [e] at h1
  have : wiF i.a 0 ((f.code.length : Int) - 1) = true := h1
  exact (oW.1 this).1
 ·have := ord i hi
  simp only [kL, Bool.and_eq_true] at this
  have h1 := this.1.2
  have e : fB i.op 1 = 97 := by rcases ho with h | h <;> rw [h] <;> rfl
  rw [e] at h1
  have : wiF i.b 0 ((f.code.length : Int) - 1) = true := h1
  exact (oW.1 this).1
theorem Pj (p : aI) (f : FnT) (hp : Pok p) (hf : f ∈ p.fns) : FC Cx 55 [bC p, fnA f] [] (Bv (bQ p f)) [] := by
 obtain ⟨hl, hr, hcau⟩ := hp.fn f hf
 have hps := hp.sz
 have hpc := hp.cau
 have l0 : (f.code.map insR).length = f.code.length := List.length_map ..
 unfold bQ
 by_cases hx : f.params < 0 ∨ f.regs < 1 ∨ f.regs < f.params
 ·rw [if_pos hx]
  have d0 : (decide (f.params < 0) || decide (f.regs < 1) || decide (f.regs < f.params)) = true := by simp; omega
  refine aD [Fd, uZ] Tryz.func55 Tryz.ntmps55 Tryz.results55 ?_
  refine goR ?_
  refine fzB 2 ?_
  refine fzB 3 ?_
  (any_goals refine go lv55 0 ?_)
  all_goals (try simp only [go_sem])
 ·rw [if_neg hx]
  have fok : Fok f := ⟨hcau, by omega, by omega, hr⟩
  have d1 : decide (f.params < 0) = false := by rw [decide_eq_false_iff_not]; omega
  have d2 : decide (f.regs < 1) = false := by rw [decide_eq_false_iff_not]; omega
  have d3 : decide (f.regs < f.params) = false := by rw [decide_eq_false_iff_not]; omega
  refine aD [Fd, uZ] Tryz.func55 Tryz.ntmps55 Tryz.results55 ?_
  refine goR ?_
  refine fzB 2 ?_
  refine fzB 3 ?_
  (any_goals refine go lv55 0 ?_)
  refine jD [3, 5, 30, 31, 32] (fun i : Nat => i ≤ f.code.length ∧ ∀ j, j < i → fH p f j (f.code.getD j ins0) = true)
   (fun i => ⟨50, [(3, .r (.rp (fnR f))), (5, .os 5 1), (30, nQ f.code), (31, Iv f.code.length), (32, Iv i)], [(2, 2, .gone), (3, 2, .gone), (5, 1, .bx [fnsV p.fns, aT p.consts, bZ p.texts, Iv f.params, Iv f.regs, Bv f.gen, dF f.caught, nQ f.code]), (7, i, .gone)]⟩) (fun i => f.code.length - i) 0 rfl rfl ⟨rfl, .inl ⟨rfl, rfl⟩, rfl, .inl ⟨rfl, rfl⟩, rfl, .inl ⟨rfl, rfl⟩, rfl, rfl, trivial⟩ ⟨Nat.zero_le _, fun j hj => by omega⟩ ?_
  rintro i ⟨hi, hno⟩
  have t1 : Int.toNat (i : Int) = i := by omega
  by_cases hlt : i < f.code.length
  ·have e1 : decide ((i : Int) < (f.code.length : Int)) = true := by rw [decide_eq_true_eq]; omega
   obtain ⟨x, hx'⟩ : ∃ x, f.code[i]? = some x := ⟨f.code[i], List.getElem?_eq_getElem hlt⟩
   have hg := aE insR hx' ([] : List RV)
   have hgd : f.code.getD i ins0 = x := by simp [List.getD, hx']
   have w1 : IntKind.i64.wrap ((i : Int) + 1) = ((i + 1 : Nat) : Int) := by rw [aN] <;> omega
   cases ho : fH p f i x with
   | true =>
    (any_goals refine go lv55 0 ?_)
    refine ⟨i + 1, ⟨by omega, fun j hj => ?_⟩, by omega, gP [3, 5, 30, 31, 32] rfl rfl ⟨rfl, .inl ⟨rfl, rfl⟩, rfl, .inl ⟨rfl, rfl⟩, rfl, .inl ⟨rfl, rfl⟩, rfl, .inr ⟨rfl, Nat.le_refl _⟩, trivial⟩⟩
    rcases Nat.lt_succ_iff_lt_or_eq.1 hj with h3 | h3
    ·exact hno j h3
    ·subst h3; rw [hgd]; exact ho
   | false =>
    have hF : jM p f = false := by
     rw [Bool.eq_false_iff]; intro hall
     have := List.all_eq_true.1 hall i (List.mem_range.2 hlt)
     rw [hgd, ho] at this; cases this
    (any_goals refine go lv55 0 ?_)
    all_goals (try simp only [go_sem])
    rw [if_pos hF]
  ·have e1 : decide ((i : Int) < (f.code.length : Int)) = false := by rw [decide_eq_false_iff_not]; omega
   have hT : jM p f = true := List.all_eq_true.2 fun j hj => hno j (by have := List.mem_range.1 hj; omega)
   have hcok := Cf hl hT
   (any_goals refine go lv55 0 ?_)
   all_goals (try simp only [go_sem])
   rw [if_neg (by rw [hT]; simp)]
theorem Mw (xs ys zs : List (List RV)) (pa rg : Int) (ge : Bool) (us vs : List (List RV)) (h : ((xs = (fnsOf xs).map fnR ∧ ys = (valsOf ys).map valR ∧ zs = (strsOf zs).map strR) ∧ us = (aK us).map intR ∧ vs = (aS vs).map insR) ∧ Pok ⟨fnsOf xs, valsOf ys, strsOf zs⟩ ∧ (⟨pa, rg, ge, aK us, aS vs⟩ : FnT) ∈ fnsOf xs) : FC Cx 55 [.agg [.r (.rs 5 xs), .r (.rs 2 ys), .r (.rs 1 zs)], .agg [Iv pa, Iv rg, Bv ge, .r (.rs 1 us), .r (.rs 5 vs)]] [] (Bv (bQ ⟨fnsOf xs, valsOf ys, strsOf zs⟩ ⟨pa, rg, ge, aK us, aS vs⟩)) [] := by
 have := Pj ⟨fnsOf xs, valsOf ys, strsOf zs⟩ ⟨pa, rg, ge, aK us, aS vs⟩ h.2.1 h.2.2
 rwa [kA h.1.1, Eg h.1.2] at this
def mH (args : List AV) (K : AV → Prop) : Prop := match args with
 | [.agg [.r (.rs 5 xs), .r (.rs 2 ys), .r (.rs 1 zs)], .agg [.r (.v (.int .i64 pa)), .r (.v (.int .i64 rg)), .r (.v (.bool ge)), .r (.rs 1 us), .r (.rs 5 vs)]] => (((xs = (fnsOf xs).map fnR ∧ ys = (valsOf ys).map valR ∧ zs = (strsOf zs).map strR) ∧ us = (aK us).map intR ∧ vs = (aS vs).map insR) ∧ Pok ⟨fnsOf xs, valsOf ys, strsOf zs⟩ ∧ (⟨pa, rg, ge, aK us, aS vs⟩ : FnT) ∈ fnsOf xs) ∧ K (Bv (bQ ⟨fnsOf xs, valsOf ys, strsOf zs⟩ ⟨pa, rg, ge, aK us, aS vs⟩))
 | _ => False
noncomputable abbrev Hq : Ct Cx := .pure 55 mH fun args K h => by
 unfold mH at h; split at h; exact ⟨_, aA (Mw _ _ _ _ _ _ _ _ h.1) en55 rfl rfl, h.2⟩; exact h.elim
@[go_sem] theorem Wa : type_of% @mH.eq_def := @mH.eq_def
theorem aA9 (n lo hi : Int) : FC Cx 153 [Iv n, Iv lo, Iv hi] [] (Bv (decide (lo ≤ n ∧ n ≤ hi))) [] := by
 refine aD [] Tryz.func153 Tryz.ntmps153 Tryz.results153 ?_
 (any_goals refine go aR6 0 ?_)
 all_goals (try simp only [go_sem])
 all_goals simp_all
 all_goals omega
def tN (args : List AV) (K : AV → Prop) : Prop := match args with
 | [.r (.v (.int .i64 n)), .r (.v (.int .i64 lo)), .r (.v (.int .i64 hi))] => K (Bv (decide (lo ≤ n ∧ n ≤ hi)))
 | _ => False
noncomputable abbrev Uk : Ct Cx := .pure 153 tN fun args K h => by
 unfold tN at h; split at h; exact ⟨_, aA (aA9 _ _ _) aRw rfl rfl, h⟩; exact h.elim
@[go_sem] theorem aGv : type_of% @tN.eq_def := @tN.eq_def
def fl (n : Int) : Nat := (IntKind.u64.wrap n).toNat
theorem Nb (b : Int) : aQ Cx 177 [.r (.v (.int .u64 b))] (Fv b.toNat) := by
 refine Dx (e := Extern.MathFloatBits.float64frombits) Tryz.func177 (by kernel_rfl) (by kernel_rfl) (by kernel_rfl) (by kernel_rfl) ?_
 intro cur g w av vs h
 obtain ⟨h1, h2⟩ := h
 have hv : vs = #[.int .u64 b] := by
  match vs, h1 with
  | ⟨[v]⟩, _ =>
   have h3 := h2 0 _ v rfl rfl
   cases h3 with | r h3 => cases h3; rfl
 subst hv
 exact ⟨_, rfl, fun _ _ => .r (.v _)⟩
def nX (args : List AV) (K : AV → Prop) : Prop := match args with
 | [.r (.v (.int .u64 b))] => K (Fv b.toNat)
 | _ => False
noncomputable abbrev zA : Ct Cx := .pure 177 nX fun args K h => by
 unfold nX at h; split at h; exact ⟨_, Nb _, h⟩; exact h.elim
@[go_sem] theorem Yr : type_of% @nX.eq_def := @nX.eq_def
theorem aFa (k n : Int) : FC Cx 154 [VV k n] [] (Fv (fl n)) [] := by
 refine aD [zA] Tryz.func154 Tryz.ntmps154 Tryz.results154 ?_
 (any_goals refine go aVu 0 ?_)
 all_goals (try simp only [go_sem])
 rfl
def wS (args : List AV) (K : AV → Prop) : Prop := match args with
 | [.agg [.r (.v (.int .i64 k)), .r (.v (.int .i64 n))]] => K (Fv (fl n))
 | _ => False
noncomputable abbrev aCh : Ct Cx := .pure 154 wS fun args K h => by
 unfold wS at h; split at h; exact ⟨_, aA (aFa _ _) aVc rfl rfl, h⟩; exact h.elim
@[go_sem] theorem aIy : type_of% @wS.eq_def := @wS.eq_def
def yQ (b : Nat) : Bool := FloatKind.f64.format.order b b == some .eq
def fV (k n : Int) : Bool :=
 if k = 0 then decide (n = 0) else if k = 1 then decide (0 ≤ n ∧ n ≤ 1) else if k = 2 then decide (-2147483648 ≤ n ∧ n ≤ 2147483647) else
 if k = 3 then yQ (fl n) || decide (n = 9221120237041090561) else if k = 4 ∨ k = 5 then decide (0 ≤ n) else if k = 6 then decide (0 ≤ n ∧ n ≤ 15) else false
theorem aHl (k n : Int) : FC Cx 104 [VV k n] [] (Bv (fV k n)) [] := by
 refine aD [Uk, aCh] Tryz.func104 Tryz.ntmps104 Tryz.results104 ?_
 (any_goals refine go aW0 0 ?_)
 repeat' (first | (refine Br.go (fun h h' => ?_) (fun h h' => ?_)) | (refine Br.mk (fun h => ?_) (fun h => ?_)))
 all_goals (try simp only [go_sem])
 all_goals (first | (simp_all [fV, yQ]; done) | ((try simp only [fV, yQ]); (repeat' split) <;> (first | (simp_all [fV, yQ]; done) | (simp_all [fV, yQ]; omega))))
def wV (args : List AV) (K : AV → Prop) : Prop := match args with
 | [.agg [.r (.v (.int .i64 k)), .r (.v (.int .i64 n))]] => K (Bv (fV k n))
 | _ => False
noncomputable abbrev pT : Ct Cx := .pure 104 wV fun args K h => by
 unfold wV at h; split at h; exact ⟨_, aA (aHl _ _) aSg rfl rfl, h⟩; exact h.elim
@[go_sem] theorem aJa : type_of% @wV.eq_def := @wV.eq_def
def isF : AV → Bool
 | .r (.v (.float .f64 _)) => true
 | .r .nan => true
 | _ => false
@[go_sem] theorem aY5 (b : Nat) : isF (Fv b) = true := rfl
end Go.Proofs.YtbhnmolmkembdaaGreatDoor
namespace Go.Proofs
open Go.Shelf
def Tryz.lays157_ren : Go.Shelf.Ren := ⟨fun | 157 => 150 | 229 => 180 | 199 => 181 | 261 => 190 | 311 => 193 | 312 => 194 | n => n, fun | 9 => 9 | 31 => 24 | 3 => 3 | 5 => 5 | 4 => 4 | 119 => 223 | 0 => 0 | 40 => 225 | 152 => 230 | 21 => 21 | 154 => 232 | 51 => 233 | 141 => 235 | 196 => 240 | 193 => 237 | 198 => 243 | 49 => 241 | 194 => 238 | 201 => 246 | 226 => 248 | 46 => 249 | 227 => 250 | n => n, fun | 0 => 1 | 6 => 2 | n => n⟩
theorem Tryz.lays157 : Go.Proofs.Lays.n157 Tryz.prog Tryz.lays157_ren := {
 mixed := by kernel_rfl
 f157 := Tryz.func150.trans (congrArg some (by kernel_rfl))
 f199 := Tryz.func181.trans (congrArg some (by kernel_rfl))
 f229 := Tryz.func180.trans (congrArg some (by kernel_rfl))
 f261 := Tryz.func190.trans (congrArg some (by kernel_rfl))
 f311 := Tryz.func193.trans (congrArg some (by kernel_rfl))
 f312 := Tryz.func194.trans (congrArg some (by kernel_rfl))
 t0 := Tryz.underlying0
 a0 := Tryz.isAgg0
 z0 := Tryz.sizeOf0
 v0 := Tryz.zeroValue0
 t3 := Tryz.underlying3
 a3 := Tryz.isAgg3
 z3 := Tryz.sizeOf3
 v3 := Tryz.zeroValue3
 t4 := Tryz.underlying4
 a4 := Tryz.isAgg4
 z4 := Tryz.sizeOf4
 v4 := Tryz.zeroValue4
 t5 := Tryz.underlying5
 a5 := Tryz.isAgg5
 z5 := Tryz.sizeOf5
 v5 := Tryz.zeroValue5
 t9 := Tryz.underlying9
 a9 := Tryz.isAgg9
 z9 := Tryz.sizeOf9
 v9 := Tryz.zeroValue9
 t21 := Tryz.underlying21
 a21 := Tryz.isAgg21
 z21 := Tryz.sizeOf21
 v21 := Tryz.zeroValue21
 t31 := Tryz.underlying24
 a31 := Tryz.isAgg24
 z31 := Tryz.sizeOf24
 v31 := Tryz.zeroValue24
 t40 := Tryz.underlying225
 a40 := Tryz.isAgg225
 z40 := Tryz.sizeOf225
 v40 := Tryz.zeroValue225
 t46 := Tryz.underlying249
 a46 := Tryz.isAgg249
 z46 := Tryz.sizeOf249
 v46 := Tryz.zeroValue249
 t49 := Tryz.underlying241
 a49 := Tryz.isAgg241
 z49 := Tryz.sizeOf241
 v49 := Tryz.zeroValue241
 t51 := Tryz.underlying233
 a51 := Tryz.isAgg233
 z51 := Tryz.sizeOf233
 v51 := Tryz.zeroValue233
 t119 := Tryz.underlying223
 a119 := Tryz.isAgg223
 z119 := Tryz.sizeOf223
 t141 := Tryz.underlying235
 a141 := Tryz.isAgg235
 z141 := Tryz.sizeOf235
 v141 := Tryz.zeroValue235
 t152 := Tryz.underlying230
 a152 := Tryz.isAgg230
 z152 := Tryz.sizeOf230
 v152 := Tryz.zeroValue230
 t154 := Tryz.underlying232
 a154 := Tryz.isAgg232
 z154 := Tryz.sizeOf232
 v154 := Tryz.zeroValue232
 t193 := Tryz.underlying237
 a193 := Tryz.isAgg237
 z193 := Tryz.sizeOf237
 v193 := Tryz.zeroValue237
 t194 := Tryz.underlying238
 a194 := Tryz.isAgg238
 z194 := Tryz.sizeOf238
 v194 := Tryz.zeroValue238
 t196 := Tryz.underlying240
 a196 := Tryz.isAgg240
 z196 := Tryz.sizeOf240
 v196 := Tryz.zeroValue240
 t198 := Tryz.underlying243
 a198 := Tryz.isAgg243
 z198 := Tryz.sizeOf243
 v198 := Tryz.zeroValue243
 t201 := Tryz.underlying246
 a201 := Tryz.isAgg246
 z201 := Tryz.sizeOf246
 v201 := Tryz.zeroValue246
 t226 := Tryz.underlying248
 a226 := Tryz.isAgg248
 z226 := Tryz.sizeOf248
 v226 := Tryz.zeroValue248
 t227 := Tryz.underlying250
 a227 := Tryz.isAgg250
 z227 := Tryz.sizeOf250
 v227 := Tryz.zeroValue250
 g0 := by kernel_rfl
 g6 := by kernel_rfl }
open Go.RowKit Go.Lib in
theorem Tryz.strings_Fields (s : ByteArray) (w : World) (hs : s.size < 4294967281) (hascii : ∀ (j : Nat) b, s.data.toList[j]? = some b → b.toNat < 128) (htab : Lib.TabIs Tryz.prog w "strings.asciiSpace" .u8 Lib.asciiSpaceTab) :
  Calls Tryz.prog 150 #[.string s] w fun e w' =>
   e = .returned (.slice (some ⟨w.heap.size, 0, none⟩) (Lib.fields s.data.toList).length (Lib.fields s.data.toList).length) ∧ w' = w.alloc (.cells ((Lib.fields s.data.toList).map fun l => Value.string ⟨l.toArray⟩).toArray 9) := Any.strings_Fields Tryz.lays157 (by kernel_rfl) (by kernel_rfl) s w hs hascii htab
end Go.Proofs
namespace Go.Proofs.YtbhnmolmkembdaaGreatDoor
set_option linter.unusedVariables false
set_option linter.unusedSimpArgs false
set_option maxHeartbeats 10000000
open Go
set_option maxRecDepth 10000
def Ym (s : ByteArray) : Bool := s.data.toList.all fun b => decide (b.toNat < 128)
def mQ (s : ByteArray) : List ByteArray := (Lib.fields s.data.toList).map fun l => ⟨l.toArray⟩
theorem Vr (w : World) (o : Obj) : Ext w (fun _ => False) (w.alloc o) (fun _ => False) := by
 refine ⟨rfl, rfl, rfl, by show _ ≤ (w.heap.push o).size; rw [Array.size_push]; exact Nat.le_succ _, fun b hb _ => ⟨?_, fun h => h⟩⟩
 rw [RowKit.Below.heap_alloc w o b hb]
theorem Xh (s : ByteArray) (h : Ym s = true ∧ s.size < 4294967281) : aQ Cx 150 [Sv s] (bZ (mQ s)) := by
 intro cur g w av vs hG hgs hav hvs
 obtain ⟨h1, h2⟩ := hvs
 match vs, h1 with
 | ⟨[v]⟩, _ =>
  have hv : v = .string s := cC (h2 0 _ v rfl rfl)
  subst hv
  refine .inr ⟨aQ1 _ w, (Tryz.strings_Fields s w h.2 (fun j b hb => ?_) hG).mono ?_⟩
  ·have := List.all_eq_true.1 h.1 b (List.mem_of_getElem? hb)
   simpa using this
  ·rintro e w' ⟨rfl, rfl⟩
   refine ⟨_, rfl, Vr _ _, fun cur' g' => .r ?_⟩
   have hn : (Lib.fields s.data.toList).length = ((mQ s).map strR).length := by simp [mQ]
   rw [hn]
   refine .rs 1 ((mQ s).map strR) ⟨w.heap.size, 0, none⟩ _ (fun i _ => .string ((mQ s).getD i ⟨#[]⟩)) (fun _ => ⟨by show _ < (w.heap.push _).size; rw [Array.size_push]; exact Nat.lt_succ_self _, fun hb => absurd (hav _ hb) (Nat.lt_irrefl _), rfl⟩) (Nat.le_refl _) (fun row hr => ?_) (fun i j hi hj => ?_) (fun i j row x hi hj => ?_)
   ·obtain ⟨x, _, rfl⟩ := List.mem_map.1 hr; rfl
   ·obtain rfl : j = 0 := by omega
    have hi' : i < (Lib.fields s.data.toList).length := by simpa [mQ] using hi
    have e0 : (⟨w.heap.size, 0 + (i * 1 + 0), none⟩ : Addr) = ⟨w.heap.size, i, none⟩ := by simp
    show (w.alloc _).cell? ⟨w.heap.size, 0 + (i * 1 + 0), none⟩ = _
    rw [e0, World.cell?_alloc_new]
    simp [mQ, List.getD, hi']
   ·rw [List.getElem?_map] at hi
    cases hx : (mQ s)[i]? with
    | none => simp [hx] at hi
    | some y =>
     simp [hx] at hi
     subst hi
     match j with
     | 0 =>
      simp at hj
      subst hj
      simp only [List.getD, hx, Option.getD_some]
      exact .v _
     | j + 1 => simp at hj
def sU (args : List AV) (K : AV → Prop) : Prop := match args with
 | [.r (.v (.string s))] => (Ym s = true ∧ s.size < 4294967281) ∧ K (bZ (mQ s))
 | _ => False
noncomputable abbrev xY : Ct Cx := .pure 150 sU fun args K h => by
 unfold sU at h; split at h; exact ⟨_, Xh _ h.1, h.2⟩; exact h.elim
@[go_sem] theorem aE1 : type_of% @sU.eq_def := @sU.eq_def
def cJ : List ByteArray := [⟨#[107, 105, 110, 100]⟩, ⟨#[114, 97, 110, 103, 101]⟩, ⟨#[122, 101, 114, 111]⟩, ⟨#[105, 110, 100, 101, 120]⟩, ⟨#[108, 97, 114, 103, 101]⟩, ⟨#[100, 101, 101, 112]⟩, ⟨#[115, 116, 97, 116, 101]⟩, ⟨#[99, 111, 117, 110, 116]⟩, ⟨#[110, 105, 108]⟩, ⟨#[98, 111, 111, 108]⟩, ⟨#[105, 110, 116]⟩, ⟨#[102, 108, 111, 97, 116]⟩, ⟨#[116, 101, 120, 116]⟩, ⟨#[111, 98, 106, 101, 99, 116]⟩, ⟨#[108, 105, 115, 116]⟩, ⟨#[102, 117, 110, 99, 116, 105, 111, 110]⟩, ⟨#[103, 101, 110, 101, 114, 97, 116, 111, 114]⟩, ⟨#[108, 111, 99, 107]⟩, ⟨#[119, 101, 97, 107]⟩]
@[go_sem] theorem aNv : (cJ.map strR).length = 19 := rfl
theorem aFf : FC Cx 98 [] [] (bZ cJ) [] := by
 refine fE [xY] Tryz.func98 rfl Tryz.ntmps98 (by simp) Tryz.results98 rfl ?_
 refine rnst ?_
 repeat' (first | (focus (intro K0; (try simp only [go_sem, *]); (first | exact ⟨id⟩ | (refine ⟨fun h => ?_⟩; (repeat' (first | exact h | refine And.intro ?_ ?_ | omega | rfl)); done)))) | (refine kK ?_) | (refine iE ?_) | (apply eL lv98; (exact rfl)) | (refine eV ?_) | (apply nD; (exact rfl)) | (refine iC ?_) | ((first | apply Rn_g | apply Rd_g); (exact rfl); (exact rfl); (focus (intro K0; (try simp only [bB, ev, Nat.reduceEqDiff, ↓reduceIte]); exact ⟨id⟩))) | (with_reducible (first | apply kE | apply jW)) | ((with_reducible (first | apply iG | apply gY | apply lV | apply iK | apply gW | apply lZ)); (exact rfl)) | ((first | apply gE | apply gD); (focus (intro K0; (try simp only [go_sem]); exact ⟨id⟩)); (exact rfl)) | ((first | apply iL | apply iI); (exact rfl); (focus (intro K0; (try simp only [go_sem]); exact ⟨id⟩)); (focus (first | (simp only [Nat.reduceLT]; done) | omega)); (focus (intro hw0; (try simp only [Bool.and_eq_true, Bool.not_eq_true', dK, dC] at hw0); (focus (intro K0; (try simp only [go_sem, *]); (first | exact ⟨id⟩ | (refine ⟨fun h => ?_⟩; (repeat' (first | exact h | refine And.intro ?_ ?_ | omega | rfl)); done))))))) | (apply Rn_c; (focus (intro K0; (try simp only [bB, ev, Nat.reduceEqDiff, ↓reduceIte]); exact ⟨id⟩))) | (with_reducible (first | refine rN ?_ | refine sJ ?_)) | (refine kF ?_) | (refine kB rfl ?_) | (refine Rn_b ?_) | (apply iA lv98; (exact rfl)) | (refine kH ?_) | (apply nH; (exact rfl)) | (refine nM (by kernel_rfl) ?_) | ((with_reducible (first | refine fW (fun h => ?_) (fun h => ?_) | refine fT (fun h => ?_) (fun h => ?_) | refine fK (fun h => ?_) (fun h => ?_))) <;> (have h' := h) <;> (try simp only [decide_eq_true_eq, decide_eq_false_iff_not, Bool.not_eq_true', Bool.not_eq_false', Bool.and_eq_true, Bool.or_eq_true, Bool.or_eq_false_iff, beq_iff_eq, bne_iff_ne, ne_eq, Bool.not_true, Bool.not_false, not_false_eq_true, reduceCtorEq, beq_eq_false_iff_ne, bne_eq_false_iff_eq] at h') <;> (first | apply pM | apply rW)) | (refine fR rfl rfl ?_) | (first | refine fY ?_ | refine lY ?_ | refine dP ?_) | (refine eE (T := [xY]) ?_) | (refine nT ?_))
 ·intro K0; (try simp only [go_sem]); exact ⟨fun h => ⟨⟨by kernel_rfl, by decide⟩, h⟩⟩
 all_goals repeat' (first | (focus (intro K0; (try simp only [go_sem, *]); (first | exact ⟨id⟩ | (refine ⟨fun h => ?_⟩; (repeat' (first | exact h | refine And.intro ?_ ?_ | omega | rfl)); done)))) | (refine kK ?_) | (refine iE ?_) | (apply eL lv98; (exact rfl)) | (refine eV ?_) | (apply nD; (exact rfl)) | (refine iC ?_) | ((first | apply Rn_g | apply Rd_g); (exact rfl); (exact rfl); (focus (intro K0; (try simp only [bB, ev, Nat.reduceEqDiff, ↓reduceIte]); exact ⟨id⟩))) | (with_reducible (first | apply kE | apply jW)) | ((with_reducible (first | apply iG | apply gY | apply lV | apply iK | apply gW | apply lZ)); (exact rfl)) | ((first | apply gE | apply gD); (focus (intro K0; (try simp only [go_sem]); exact ⟨id⟩)); (exact rfl)) | ((first | apply iL | apply iI); (exact rfl); (focus (intro K0; (try simp only [go_sem]); exact ⟨id⟩)); (focus (first | (simp only [Nat.reduceLT]; done) | omega)); (focus (intro hw0; (try simp only [Bool.and_eq_true, Bool.not_eq_true', dK, dC] at hw0); (focus (intro K0; (try simp only [go_sem, *]); (first | exact ⟨id⟩ | (refine ⟨fun h => ?_⟩; (repeat' (first | exact h | refine And.intro ?_ ?_ | omega | rfl)); done))))))) | (apply Rn_c; (focus (intro K0; (try simp only [bB, ev, Nat.reduceEqDiff, ↓reduceIte]); exact ⟨id⟩))) | (with_reducible (first | refine rN ?_ | refine sJ ?_)) | (refine kF ?_) | (refine kB rfl ?_) | (refine Rn_b ?_) | (apply iA lv98; (exact rfl)) | (refine kH ?_) | (apply nH; (exact rfl)) | (refine nM (by kernel_rfl) ?_) | ((with_reducible (first | refine fW (fun h => ?_) (fun h => ?_) | refine fT (fun h => ?_) (fun h => ?_) | refine fK (fun h => ?_) (fun h => ?_))) <;> (have h' := h) <;> (try simp only [decide_eq_true_eq, decide_eq_false_iff_not, Bool.not_eq_true', Bool.not_eq_false', Bool.and_eq_true, Bool.or_eq_true, Bool.or_eq_false_iff, beq_iff_eq, bne_iff_ne, ne_eq, Bool.not_true, Bool.not_false, not_false_eq_true, reduceCtorEq, beq_eq_false_iff_ne, bne_eq_false_iff_eq] at h') <;> (first | apply pM | apply rW)) | (refine fR rfl rfl ?_) | (first | refine fY ?_ | refine lY ?_ | refine dP ?_) | (refine eE (T := [xY]) ?_) | (refine nT ?_))
 all_goals (try simp only [go_sem])
 exact congrArg bZ (by kernel_rfl)
theorem My : FC Cx 72 [] [] (bZ cJ) [] := by
 refine fE [] Tryz.func72 rfl Tryz.ntmps72 (by simp) Tryz.results72 rfl ?_
 refine rnst ?_
 (any_goals refine go lv72 0 ?_)
 all_goals (try simp only [go_sem])
 all_goals rfl
def oJ (args : List AV) (K : AV → Prop) : Prop := match args with
 | [] => K (bZ cJ)
 | _ => False
noncomputable abbrev yV : Ct Cx := .pure 72 oJ fun args K h => by
 unfold oJ at h; split at h; exact ⟨_, aA (My) en72 rfl rfl, h⟩; exact h.elim
@[go_sem] theorem Xp : type_of% @oJ.eq_def := @oJ.eq_def
def wE (args : List AV) (K : AV → Prop) : Prop := match args with
 | [] => K (bZ cJ)
 | _ => False
noncomputable abbrev vR : Ct Cx := .pure 98 wE fun args K h => by
 unfold wE at h; split at h; exact ⟨_, aA (aFf) en98 rfl rfl, h⟩; exact h.elim
@[go_sem] theorem aH7 : type_of% @wE.eq_def := @wE.eq_def
theorem Yf (l : List FnT) (f : Nat) (caps : List RV) (dom : AV → Prop) (pv : AV → Bool) (h : ∀ y, dom y → aQ Cx f (y :: caps.map AV.r) (Bv (pv y))) (hd : ∀ x ∈ l, dom (fnA x)) (hl : l.length ≤ 9223372036854775807) :
  FC Cx 105 [fnsV l, .r (.fn f caps)] [] (Iv (fidx (fun x => pv (fnA x)) l)) [] := by
 have hlen : (l.map fnR).length = l.length := List.length_map ..
 refine aD [ctF f caps dom pv h] Tryz.func105 Tryz.ntmps105 Tryz.results105 ?_
 (any_goals refine go Rl 0 ?_)
 refine eB [0, 1, 7, 8] (fun i => i ≤ l.length ∧ ∀ j x, j < i → l[j]? = some x → pv (fnA x) = false) (fun (i : Nat) => ⟨19, [(0, fnsV l), (1, .r (.fn f caps)), (7, Iv l.length), (8, Iv i)], []⟩) (fun i => l.length - i) 0 rfl (by rw [← hlen]; rfl) rfl ⟨Nat.zero_le _, fun j x hj => by omega⟩ ?_
 rintro i ⟨hi, hno⟩
 by_cases hlt : i < l.length
 ·obtain ⟨x, hx⟩ : ∃ x, l[i]? = some x := ⟨l[i], List.getElem?_eq_getElem hlt⟩
  have hg := aE fnR hx ([] : List RV)
  have hdx := hd x (List.mem_of_getElem? hx)
  have hw : IntKind.i64.wrap ((i : Int) + 1) = ((i + 1 : Nat) : Int) := by rw [aN] <;> omega
  have h1 : decide ((i : Int) < (l.length : Int)) = true := by rw [decide_eq_true_eq]; omega
  have h2 : Int.toNat (i : Int) = i := by omega
  cases hp : pv (fnA x) with
  | true =>
   (any_goals refine go Rl 0 ?_)
   all_goals (try simp only [go_sem])
   rw [jH hx hp fun j y hj hy => hno j y hj hy]
  | false =>
   (any_goals refine go Rl 0 ?_)
   refine ⟨i + 1, ⟨by omega, fun j y hj hy => ?_⟩, by omega, fI [0, 1, 7, 8] rfl rfl rfl⟩
   rcases Nat.lt_succ_iff_lt_or_eq.1 hj with h3 | h3
   ·exact hno j y h3 hy
   ·subst h3; rw [hx] at hy; cases hy; exact hp
 ·have h1 : decide ((i : Int) < (l.length : Int)) = false := by rw [decide_eq_false_iff_not]; omega
  (any_goals refine go Rl 0 ?_)
  all_goals (try simp only [go_sem])
  rw [gR fun j y hy => hno j y (by have := (List.getElem?_eq_some_iff.1 hy).1; omega) hy]
theorem Rt (l : List FnT) (f : Nat) (caps : List RV) (dom : AV → Prop) (pv : AV → Bool) (h : ∀ y, dom y → aQ Cx f (y :: caps.map AV.r) (Bv (pv y))) (hd : ∀ x ∈ l, dom (fnA x)) (hl : l.length ≤ 9223372036854775807) :
  FC Cx 53 [fnsV l, .r (.fn f caps)] [] (Bv (l.any fun x => pv (fnA x))) [] := by
 have hA : ∀ y, y = [fnsV l, .r (.fn f caps)] → aQ Cx 105 y (Iv (fidx (fun x => pv (fnA x)) l)) := fun y hy => by
  subst hy; exact aA (Yf l f caps dom pv h hd hl) aVb rfl rfl
 refine aD [ctE 105 [fnsV l, .r (.fn f caps)] (Iv (fidx (fun x => pv (fnA x)) l)) hA] Tryz.func53 Tryz.ntmps53 Tryz.results53 ?_
 (any_goals refine go lv53 0 ?_)
 all_goals (try simp only [go_sem])
 all_goals (try rw [iN])
theorem Tk (l : List (Int × Int)) (f : Nat) (caps : List RV) (dom : AV → Prop) (pv : AV → Bool) (h : ∀ y, dom y → aQ Cx f (y :: caps.map AV.r) (Bv (pv y))) (hd : ∀ x ∈ l, dom (valA x)) (hl : l.length ≤ 9223372036854775807) :
  FC Cx 152 [aT l, .r (.fn f caps)] [] (Iv (fidx (fun x => pv (valA x)) l)) [] := by
 have hlen : (l.map valR).length = l.length := List.length_map ..
 refine aD [ctF f caps dom pv h] Tryz.func152 Tryz.ntmps152 Tryz.results152 ?_
 (any_goals refine go Qq 0 ?_)
 refine eB [0, 1, 7, 8] (fun i => i ≤ l.length ∧ ∀ j x, j < i → l[j]? = some x → pv (valA x) = false) (fun (i : Nat) => ⟨19, [(0, aT l), (1, .r (.fn f caps)), (7, Iv l.length), (8, Iv i)], []⟩) (fun i => l.length - i) 0 rfl (by rw [← hlen]; rfl) rfl ⟨Nat.zero_le _, fun j x hj => by omega⟩ ?_
 rintro i ⟨hi, hno⟩
 by_cases hlt : i < l.length
 ·obtain ⟨x, hx⟩ : ∃ x, l[i]? = some x := ⟨l[i], List.getElem?_eq_getElem hlt⟩
  have hg := aE valR hx ([] : List RV)
  have hdx := hd x (List.mem_of_getElem? hx)
  have hw : IntKind.i64.wrap ((i : Int) + 1) = ((i + 1 : Nat) : Int) := by rw [aN] <;> omega
  have h1 : decide ((i : Int) < (l.length : Int)) = true := by rw [decide_eq_true_eq]; omega
  have h2 : Int.toNat (i : Int) = i := by omega
  cases hp : pv (valA x) with
  | true =>
   (any_goals refine go Qq 0 ?_)
   all_goals (try simp only [go_sem])
   rw [jH hx hp fun j y hj hy => hno j y hj hy]
  | false =>
   (any_goals refine go Qq 0 ?_)
   refine ⟨i + 1, ⟨by omega, fun j y hj hy => ?_⟩, by omega, fI [0, 1, 7, 8] rfl rfl rfl⟩
   rcases Nat.lt_succ_iff_lt_or_eq.1 hj with h3 | h3
   ·exact hno j y h3 hy
   ·subst h3; rw [hx] at hy; cases hy; exact hp
 ·have h1 : decide ((i : Int) < (l.length : Int)) = false := by rw [decide_eq_false_iff_not]; omega
  (any_goals refine go Qq 0 ?_)
  all_goals (try simp only [go_sem])
  rw [gR fun j y hy => hno j y (by have := (List.getElem?_eq_some_iff.1 hy).1; omega) hy]
theorem rX (l : List (Int × Int)) (f : Nat) (caps : List RV) (dom : AV → Prop) (pv : AV → Bool) (h : ∀ y, dom y → aQ Cx f (y :: caps.map AV.r) (Bv (pv y))) (hd : ∀ x ∈ l, dom (valA x)) (hl : l.length ≤ 9223372036854775807) :
  FC Cx 102 [aT l, .r (.fn f caps)] [] (Bv (l.any fun x => pv (valA x))) [] := by
 have hA : ∀ y, y = [aT l, .r (.fn f caps)] → aQ Cx 152 y (Iv (fidx (fun x => pv (valA x)) l)) := fun y hy => by
  subst hy; exact aA (Tk l f caps dom pv h hd hl) aRt rfl rfl
 refine aD [ctE 152 [aT l, .r (.fn f caps)] (Iv (fidx (fun x => pv (valA x)) l)) hA] Tryz.func102 Tryz.ntmps102 Tryz.results102 ?_
 (any_goals refine go aWv 0 ?_)
 all_goals (try simp only [go_sem])
 all_goals (try rw [iN])
def bigS (s : ByteArray) : Bool := decide ((200 : Int) < (s.size : Int))
def bigF (f : FnT) : Bool := decide ((600 : Int) < (f.code.length : Int)) || decide (60 < f.regs)
theorem Xs (s : ByteArray) : FC Cx 100 [Sv s] [] (Bv (bigS s)) [] := by
 refine aD [] Tryz.func100 Tryz.ntmps100 Tryz.results100 ?_
 (any_goals refine go aXy 0 ?_)
 all_goals (try simp only [go_sem])
 all_goals rfl
theorem Wu (f : FnT) : FC Cx 101 [fnA f] [] (Bv (bigF f)) [] := by
 have l0 : (f.code.map insR).length = f.code.length := List.length_map ..
 refine aD [] Tryz.func101 Tryz.ntmps101 Tryz.results101 ?_
 refine goR ?_
 refine fzB 1 ?_
 (any_goals refine go aXm 0 ?_)
 all_goals (try simp only [go_sem])
 all_goals rfl
def strV : AV → ByteArray
 | .r (.v (.string s)) => s
 | _ => ⟨#[]⟩
def fnV : AV → FnT
 | .agg [.r (.v (.int _ p)), .r (.v (.int _ g)), .r (.v (.bool b)), .r (.rs _ cs), .r (.rs _ is)] => ⟨p, g, b, aK cs, aS is⟩
 | _ => fn0
def valV : AV → Int × Int
 | .agg [.r (.v (.int _ k)), .r (.v (.int _ n))] => (k, n)
 | _ => (0, 0)
theorem Ih (f : FnT) : fnV (fnA f) = f := by
 show (⟨f.params, f.regs, f.gen, aK (f.caught.map intR), aS (f.code.map insR)⟩ : FnT) = f
 rw [uM, Bn]
def nB (p : aI) : Bool := decide ((60 : Int) < (p.fns.length : Int)) || decide ((200 : Int) < (p.consts.length : Int)) || decide ((200 : Int) < (p.texts.length : Int)) || p.texts.any bigS || p.fns.any bigF
theorem aF6 (p : aI) (hp : Psz p) : FC Cx 51 [bC p] [] (Bv (nB p)) [] := by
 have l1 : (p.fns.map fnR).length = p.fns.length := List.length_map ..
 have l2 : (p.consts.map valR).length = p.consts.length := List.length_map ..
 have l3 : (p.texts.map strR).length = p.texts.length := List.length_map ..
 have hA : ∀ y, y = [bZ p.texts, .r (.fn 100 [])] → aQ Cx 99 y (Bv (p.texts.any bigS)) := fun y hy => by
  subst hy
  refine aA (Ji p.texts _ [] (fun y => ∃ s, y = strA s) (fun y => bigS (strV y)) ?_ (fun x _ => ⟨x, rfl⟩) hp.texts) en99 rfl rfl
  rintro _ ⟨s, rfl⟩
  exact aA (Xs s) aXq rfl rfl
 have hB : ∀ y, y = [fnsV p.fns, .r (.fn 101 [])] → aQ Cx 53 y (Bv (p.fns.any bigF)) := fun y hy => by
  subst hy
  have := aA (Rt p.fns 101 [] (fun y => ∃ s, y = fnA s) (fun y => bigF (fnV y)) (by
   rintro _ ⟨s, rfl⟩
   rw [Ih]
   exact aA (Wu s) aSu rfl rfl) (fun x _ => ⟨x, rfl⟩) hp.fns) en53 rfl rfl
  simpa only [Ih] using this
 refine aD [ctE 99 [bZ p.texts, .r (.fn 100 [])] (Bv (p.texts.any bigS)) hA, ctE 53 [fnsV p.fns, .r (.fn 101 [])] (Bv (p.fns.any bigF)) hB] Tryz.func51 Tryz.ntmps51 Tryz.results51 ?_
 refine goR ?_
 refine fzB 1 ?_
 (any_goals refine go lv51 0 ?_)
 all_goals (try simp only [go_sem])
 all_goals (first | rfl | trace_state)
theorem aBr (xs ys zs : List (List RV)) (h : (xs = (fnsOf xs).map fnR ∧ ys = (valsOf ys).map valR ∧ zs = (strsOf zs).map strR) ∧ Psz ⟨fnsOf xs, valsOf ys, strsOf zs⟩) : FC Cx 51 [.agg [.r (.rs 5 xs), .r (.rs 2 ys), .r (.rs 1 zs)]] [] (Bv (nB ⟨fnsOf xs, valsOf ys, strsOf zs⟩)) [] := by
 have := aF6 ⟨fnsOf xs, valsOf ys, strsOf zs⟩ h.2
 rwa [kA h.1] at this
def tD (args : List AV) (K : AV → Prop) : Prop := match args with
 | [.agg [.r (.rs 5 xs), .r (.rs 2 ys), .r (.rs 1 zs)]] => ((xs = (fnsOf xs).map fnR ∧ ys = (valsOf ys).map valR ∧ zs = (strsOf zs).map strR) ∧ Psz ⟨fnsOf xs, valsOf ys, strsOf zs⟩) ∧ K (Bv (nB ⟨fnsOf xs, valsOf ys, strsOf zs⟩))
 | _ => False
noncomputable abbrev tB : Ct Cx := .pure 51 tD fun args K h => by
 unfold tD at h; split at h; exact ⟨_, aA (aBr _ _ _ h.1) en51 rfl rfl, h.2⟩; exact h.elim
@[go_sem] theorem aF5 : type_of% @tD.eq_def := @tD.eq_def
def badV (p : aI) (v : Int × Int) : Bool := !fV v.1 v.2 || decide (v.1 = 5) || (decide (v.1 = 4) && decide ((p.texts.length : Int) ≤ v.2))
theorem Ve (p : aI) (v : Int × Int) : FC Cx 103 [valA v, .r (.rp (cQ p))] [] (Bv (badV p v)) [] := by
 have l3 : (p.texts.map strR).length = p.texts.length := List.length_map ..
 refine aD [pT] Tryz.func103 Tryz.ntmps103 Tryz.results103 ?_
 refine goR ?_
 refine fzB 2 ?_
 (any_goals refine go aXs 0 ?_)
 repeat' (first | (refine Br.go (fun h h' => ?_) (fun h h' => ?_)) | (refine Br.mk (fun h => ?_) (fun h => ?_)))
 all_goals (try simp only [go_sem])
 all_goals (simp [badV, h'])
open Classical in
noncomputable def gM (S : List ByteArray) (k : Value) : Option Value := if ∃ s ∈ S, k = .string s then some (.int .i64 1) else none
theorem Jv {S : List ByteArray} {s : ByteArray} (h : s ∉ S) : gM S (.string s) = none := by
 unfold gM
 rw [if_neg]
 rintro ⟨q, hq, he⟩
 cases he
 exact h hq
theorem Ft {S : List ByteArray} {s : ByteArray} (h : s ∈ S) : gM S (.string s) = some (.int .i64 1) := by
 unfold gM
 rw [if_pos ⟨s, h, rfl⟩]
theorem Ez (S : List ByteArray) (s : ByteArray) : updF (gM S) (.string s) (.int .i64 1) = gM (s :: S) := by
 funext k
 unfold updF gM
 by_cases h : k = .string s
 ·rw [if_pos h, if_pos ⟨s, List.mem_cons_self .., h⟩]
 ·rw [if_neg h]
  by_cases h2 : ∃ q ∈ S, k = .string q
  ·obtain ⟨q, hq, he⟩ := h2
   rw [if_pos ⟨q, hq, he⟩, if_pos ⟨q, List.mem_cons_of_mem _ hq, he⟩]
  ·rw [if_neg h2, if_neg]
   rintro ⟨q, hq, he⟩
   rcases List.mem_cons.1 hq with rfl | hq
   ·exact h he
   ·exact h2 ⟨q, hq, he⟩
theorem El : gM [] = fun _ => none := by
 funext k; unfold gM; rw [if_neg]; simp
theorem Ju {S : List ByteArray} (hS : ∀ s ∈ S, s.size ≤ 200) {s : ByteArray} (hs : s.size ≤ 200) : rI Tryz.prog 154 (gM S) (.string s) := by
 have hk : ∀ s : ByteArray, s.size ≤ 200 → ∃ l, keyOf Tryz.prog 9 (.string s) = some l := fun s hs => ⟨_, WideMaps.keyOf_string_mk Tryz.underlying9 (Nat.le_trans hs (by decide))⟩
 refine ⟨⟨_, _, Tryz.underlying154, .of (WideMaps.string_law Tryz.underlying9), hk s hs, fun k' v' h => ?_⟩⟩
 unfold gM at h
 split at h
 ·rename_i hq
  obtain ⟨q, hq, rfl⟩ := hq
  exact hk q (hS q hq)
 ·cases h
theorem Bi {S S' : List ByteArray} (h : ∀ s, s ∈ S ↔ s ∈ S') : gM S = gM S' := by
 funext k
 unfold gM
 have : (∃ s ∈ S, k = .string s) ↔ ∃ s ∈ S', k = .string s := ⟨fun ⟨s, h1, h2⟩ => ⟨s, (h s).1 h1, h2⟩, fun ⟨s, h1, h2⟩ => ⟨s, (h s).2 h1, h2⟩⟩
 by_cases hx : ∃ s ∈ S, k = .string s
 ·rw [if_pos hx, if_pos (this.1 hx)]
 ·rw [if_neg hx, if_neg fun h => hx (this.2 h)]
theorem qQ {l : List ByteArray} : ∀ (k : Nat), k ≤ l.length → (∀ j s, j < k → l[j]? = some s → s ∉ l.take j) → (l.take k).Nodup
 | 0, _, _ => by simp
 | k + 1, hk, h => by
  have hx : l[k]? = some (l[k]'(by omega)) := List.getElem?_eq_getElem (by omega)
  have ih := qQ k (by omega) fun j s hj hs => h j s (by omega) hs
  rw [List.take_add_one, hx]
  simp only [Option.toList_some]
  refine List.nodup_append.2 ⟨ih, by simp, fun a ha b hb => ?_⟩
  simp at hb; subst hb
  exact fun e => h k _ (by omega) hx (e ▸ ha)
theorem yA {l : List ByteArray} {k : Nat} {s : ByteArray} (hs : l[k]? = some s) (h : s ∈ l.take k) : ¬ l.Nodup := fun hn => by
 obtain ⟨j, hj⟩ := List.mem_iff_getElem?.1 h
 rw [List.getElem?_take] at hj
 split at hj
 ·rename_i hjk
  have h1 := (List.getElem?_eq_some_iff.1 hs).1
  have := (List.getElem?_inj h1 hn).1 (hs.trans hj.symm)
  omega
 ·cases hj
def dV (p : aI) : Bool := decide (19 ≤ p.texts.length) && decide (p.texts.take 19 = cJ) && decide (p.texts.Nodup) && !(p.consts.any (badV p))
theorem aAd (p : aI) (hp : Pok p) : FC Cx 52 [bC p] [] (Bv (dV p)) [] := by
 have l2 : (p.consts.map valR).length = p.consts.length := List.length_map ..
 have l3 : (p.texts.map strR).length = p.texts.length := List.length_map ..
 have ht := hp.texts
 have hA : ∀ y, y = [aT p.consts, .r (.fn 103 [.rp (cQ p)])] → aQ Cx 102 y (Bv (p.consts.any (badV p))) := fun y hy => by
  subst hy
  refine aA (rX p.consts _ [.rp (cQ p)] (fun y => ∃ v, y = valA v) (fun y => badV p (valV y)) ?_ (fun x _ => ⟨x, rfl⟩) (by have := hp.consts; omega)) Lw rfl rfl
  rintro _ ⟨v, rfl⟩
  exact aA (Ve p v) aXb rfl rfl
 by_cases h19 : p.texts.length < 19
 ·have d0 : decide ((p.texts.length : Int) < 19) = true := by rw [decide_eq_true_eq]; omega
  have hF : dV p = false := by unfold dV; rw [decide_eq_false (by omega)]; rfl
  rw [hF]
  refine aD [vR, pR] Tryz.func52 Tryz.ntmps52 Tryz.results52 ?_
  refine goR ?_
  refine fzB 1 ?_
  (any_goals refine go lv52 0 ?_)
  all_goals (try simp only [go_sem])
 have d0 : decide ((p.texts.length : Int) < 19) = false := by rw [decide_eq_false_iff_not]; omega
 have b19 : (19 : Int) ≤ (p.texts.length : Int) := by omega
 have k1 : List.drop 0 (List.take 19 (p.texts.map strR)) = (p.texts.take 19).map strR := by rw [List.map_take]; rfl
 have l4 : ((p.texts.take 19).map strR).length = 19 := by simp; omega
 have l5 : (p.texts.take 19).length = 19 := by simp; omega
 by_cases hw : p.texts.take 19 = cJ
 ·have d1 : decide (p.texts.take 19 = cJ) = true := by simpa using hw
  refine aD [vR, pR, ctE 102 [aT p.consts, .r (.fn 103 [.rp (cQ p)])] (Bv (p.consts.any (badV p))) hA] Tryz.func52 Tryz.ntmps52 Tryz.results52 ?_
  refine goR ?_
  refine fzB 1 ?_
  (any_goals refine go lv52 0 ?_)
  refine jD [1, 4, 26, 27, 28] (fun x : Nat × Nat => x.1 ≤ p.texts.length ∧ ∀ j s, j < x.1 → p.texts[j]? = some s → s ∉ p.texts.take j)
   (fun x => ⟨44, [(1, .r (.rp (cQ p))), (4, .os 24 1), (26, bZ p.texts), (27, Iv p.texts.length), (28, Iv x.1)], [(1, 2, .gone), (24, 1, .mp (gM (p.texts.take x.1)) x.2)]⟩) (fun x => p.texts.length - x.1) (0, 0) rfl rfl ⟨rfl, .inl ⟨rfl, rfl⟩, rfl, .inl ⟨rfl, by simp [El]⟩, trivial⟩ ⟨Nat.zero_le _, fun j s hj => by omega⟩ ?_
  rintro ⟨k, n⟩ ⟨hk, hno⟩
  dsimp only at hk hno
  have t1 : Int.toNat (k : Int) = k := by omega
  clear k1 l4 l5 d0 b19
  by_cases hlt : k < p.texts.length
  ·have e1 : decide ((k : Int) < (p.texts.length : Int)) = true := by rw [decide_eq_true_eq]; omega
   obtain ⟨s, hs⟩ : ∃ s, p.texts[k]? = some s := ⟨p.texts[k], List.getElem?_eq_getElem hlt⟩
   have hg := aE strR hs ([] : List RV)
   have w1 : IntKind.i64.wrap ((k : Int) + 1) = ((k + 1 : Nat) : Int) := by rw [aN] <;> omega
   have hM : rI Tryz.prog 154 (gM (p.texts.take k)) (.string s) := Ju (fun q hq => hp.bytes q (List.mem_of_mem_take hq)) (hp.bytes s (List.mem_of_getElem? hs))
   by_cases hin : s ∈ p.texts.take k
   ·have d5 : gM (p.texts.take k) (.string s) = some (.int .i64 1) := Ft hin
    have hF : dV p = false := by unfold dV; rw [decide_eq_false (yA hs hin)]; simp
    (any_goals refine go lv52 0 ?_)
    all_goals (try simp only [go_sem])
    rw [hF]
   ·have d5 : gM (p.texts.take k) (.string s) = none := Jv hin
    (any_goals refine go lv52 0 ?_)
    all_goals (try simp only [go_sem])
    refine ⟨(k + 1, updN (gM (p.texts.take k)) (.string s) n), ⟨by show k + 1 ≤ _; omega, fun j q hj hq => ?_⟩, by show p.texts.length - (k + 1) < _; omega, gP [1, 4, 26, 27, 28] rfl rfl ⟨rfl, .inl ⟨rfl, rfl⟩, rfl, .inl ⟨rfl, ?_⟩, trivial⟩⟩
    ·rcases Nat.lt_succ_iff_lt_or_eq.1 hj with h3 | h3
     ·exact hno j q h3 hq
     ·subst h3
      rw [hs] at hq; cases hq; exact hin
    ·refine congrArg (fun f => Res.mp f _) ?_
     rw [Ez]
     refine Bi fun q => ?_
     rw [List.take_add_one, hs]
     simp [or_comm]
  ·have e1 : decide ((k : Int) < (p.texts.length : Int)) = false := by rw [decide_eq_false_iff_not]; omega
   have hnd : p.texts.Nodup := by
    have := qQ p.texts.length (Nat.le_refl _) fun j s hj hs => hno j s (by omega) hs
    rwa [List.take_length] at this
   have hF : dV p = !(p.consts.any (badV p)) := by unfold dV; rw [d1, decide_eq_true hnd, decide_eq_true (by omega)]; simp
   (any_goals refine go lv52 0 ?_)
   all_goals (try simp only [go_sem])
   rw [hF]
 ·have d1 : decide (p.texts.take 19 = cJ) = false := by simpa using hw
  have hF : dV p = false := by unfold dV; rw [d1]; simp
  rw [hF]
  refine aD [vR, pR] Tryz.func52 Tryz.ntmps52 Tryz.results52 ?_
  refine goR ?_
  refine fzB 1 ?_
  (any_goals refine go lv52 0 ?_)
  all_goals (try simp only [go_sem])
theorem Ud (xs ys zs : List (List RV)) (h : (xs = (fnsOf xs).map fnR ∧ ys = (valsOf ys).map valR ∧ zs = (strsOf zs).map strR) ∧ Pok ⟨fnsOf xs, valsOf ys, strsOf zs⟩) : FC Cx 52 [.agg [.r (.rs 5 xs), .r (.rs 2 ys), .r (.rs 1 zs)]] [] (Bv (dV ⟨fnsOf xs, valsOf ys, strsOf zs⟩)) [] := by
 have := aAd ⟨fnsOf xs, valsOf ys, strsOf zs⟩ h.2
 rwa [kA h.1] at this
def qO (args : List AV) (K : AV → Prop) : Prop := match args with
 | [.agg [.r (.rs 5 xs), .r (.rs 2 ys), .r (.rs 1 zs)]] => ((xs = (fnsOf xs).map fnR ∧ ys = (valsOf ys).map valR ∧ zs = (strsOf zs).map strR) ∧ Pok ⟨fnsOf xs, valsOf ys, strsOf zs⟩) ∧ K (Bv (dV ⟨fnsOf xs, valsOf ys, strsOf zs⟩))
 | _ => False
noncomputable abbrev uR : Ct Cx := .pure 52 qO fun args K h => by
 unfold qO at h; split at h; exact ⟨_, aA (Ud _ _ _ h.1) en52 rfl rfl, h.2⟩; exact h.elim
@[go_sem] theorem aCw : type_of% @qO.eq_def := @qO.eq_def
structure Pwf (p : aI) : Prop where
 sz : Psz p
 fn : ∀ f ∈ p.fns, f.code.length ≤ 9223372036854775807 ∧ f.caught.length ≤ 9223372036854775807
theorem vC {p : aI} (hw : Pwf p) (h : nB p = false) : Pok p := by
 simp only [nB, Bool.or_eq_false_iff, decide_eq_false_iff_not] at h
 obtain ⟨⟨⟨⟨h1, h2⟩, h3⟩, h4⟩, h5⟩ := h
 refine ⟨by omega, by omega, by omega, fun s hs => ?_, fun f hf => ?_⟩
 ·have := List.any_eq_false.1 h4 s hs
  simp [bigS] at this; omega
 ·have := List.any_eq_false.1 h5 f hf
  simp [bigF] at this
  exact ⟨by omega, by omega, (hw.fn f hf).2⟩
def eJ (p : aI) : Bool := match p.fns with
 | [] => false
 | f :: _ => decide (f.params = 0) && !decide ((0 : Int) < (f.caught.length : Int)) && !f.gen
def checkF (p : aI) : Int :=
 if nB p = true then 2 else if dV p = false then 3 else if eJ p = false then 3 else if (p.fns.any fun f => !bQ p f) = true then 3 else 0
theorem aA5 (p : aI) (f : FnT) (hp : Pok p) (hf : f ∈ p.fns) : FC Cx 54 [fnA f, .r (.rp (cQ p))] [] (Bv (!bQ p f)) [] := by
 refine aD [Hq] Tryz.func54 Tryz.ntmps54 Tryz.results54 ?_
 refine goR ?_
 refine fzB 2 ?_
 (any_goals refine go lv54 0 ?_)
 all_goals (try simp only [go_sem])
theorem Ij (p : aI) (hw : Pwf p) : FC Cx 16 [bC p] [] (Iv (checkF p)) [] := by
 have hsz := hw.sz
 have l1 : (p.fns.map fnR).length = p.fns.length := List.length_map ..
 unfold checkF
 cases hL : nB p with
 | true =>
  rw [if_pos rfl]
  refine aD [tB] Tryz.func16 Tryz.ntmps16 Tryz.results16 ?_
  refine goR ?_
  refine fzB 1 ?_
  (any_goals refine go lv16 0 ?_)
  all_goals (try simp only [go_sem])
 | false =>
  rw [if_neg (by simp)]
  have hp := vC hw hL
  cases hT : dV p with
  | false =>
   rw [if_pos rfl]
   refine aD [tB, uR] Tryz.func16 Tryz.ntmps16 Tryz.results16 ?_
   refine goR ?_
   refine fzB 1 ?_
   (any_goals refine go lv16 0 ?_)
   all_goals (try simp only [go_sem])
  | true =>
   rw [if_neg (by simp)]
   cases hfs : p.fns with
   | nil =>
    have hF : eJ p = false := by unfold eJ; rw [hfs]
    rw [if_pos hF]
    have hl : p.fns.length = 0 := by rw [hfs]; rfl
    have d0 : decide ((p.fns.length : Int) = 0) = true := by rw [hl]; rfl
    clear hfs
    refine aD [tB, uR] Tryz.func16 Tryz.ntmps16 Tryz.results16 ?_
    refine goR ?_
    refine fzB 1 ?_
    (any_goals refine go lv16 0 ?_)
    all_goals (try simp only [go_sem])
   | cons f0 rest =>
    have hi : p.fns[0]? = some f0 := by rw [hfs]; rfl
    rw [← hfs]
    have hl : 0 < p.fns.length := by rw [hfs]; exact Nat.succ_pos _
    have hF : eJ p = (decide (f0.params = 0) && !decide ((0 : Int) < (f0.caught.length : Int)) && !f0.gen) := by unfold eJ; rw [hfs]
    clear hfs
    have b0 : (0 : Int) < (p.fns.length : Int) := by omega
    have d0 : decide ((p.fns.length : Int) = 0) = false := by rw [decide_eq_false_iff_not]; omega
    have g0 := aE fnR hi ([] : List RV)
    have l2 : (f0.caught.map intR).length = f0.caught.length := List.length_map ..
    have hA : ∀ y, y = [fnsV p.fns, .r (.fn 54 [.rp (cQ p)])] → aQ Cx 53 y (Bv (p.fns.any fun f => !bQ p f)) := fun y hy => by
     subst hy
     have := aA (Rt p.fns 54 [.rp (cQ p)] (fun y => ∃ f ∈ p.fns, y = fnA f) (fun y => !bQ p (fnV y)) (by
      rintro _ ⟨f, hf, rfl⟩
      rw [Ih]
      exact aA (aA5 p f hp hf) en54 rfl rfl) (fun x hx => ⟨x, hx, rfl⟩) hsz.fns) en53 rfl rfl
     simpa only [Ih] using this
    rw [hF]
    refine aD [tB, uR, ctE 53 [fnsV p.fns, .r (.fn 54 [.rp (cQ p)])] (Bv (p.fns.any fun f => !bQ p f)) hA] Tryz.func16 Tryz.ntmps16 Tryz.results16 ?_
    refine goR ?_
    refine fzB 1 ?_
    (any_goals refine go lv16 0 ?_)
    repeat' (first | (refine Br.go (fun h h' => ?_) (fun h h' => ?_)) | (refine Br.mk (fun h => ?_) (fun h => ?_)))
    all_goals (try simp only [go_sem])
    ·rw [if_pos (by simp [h'])]
    ·rw [if_pos (by rcases h' with h' | h'; (rw [decide_eq_true h']; simp); (rw [h']; simp))]
    ·rename_i h1 _ h2
     rw [if_neg (by rw [decide_eq_false h2.1, h2.2, decide_eq_true h1]; decide), if_pos h']
    ·rename_i h1 _ h2
     rw [if_neg (by rw [decide_eq_false h2.1, h2.2, decide_eq_true h1]; decide), if_neg (by rw [h']; simp)]
theorem Aq (xs ys zs : List (List RV)) (h : (xs = (fnsOf xs).map fnR ∧ ys = (valsOf ys).map valR ∧ zs = (strsOf zs).map strR) ∧ Pwf ⟨fnsOf xs, valsOf ys, strsOf zs⟩) : FC Cx 16 [.agg [.r (.rs 5 xs), .r (.rs 2 ys), .r (.rs 1 zs)]] [] (Iv (checkF ⟨fnsOf xs, valsOf ys, strsOf zs⟩)) [] := by
 have := Ij ⟨fnsOf xs, valsOf ys, strsOf zs⟩ h.2
 rwa [kA h.1] at this
def iQ (args : List AV) (K : AV → Prop) : Prop := match args with
 | [.agg [.r (.rs 5 xs), .r (.rs 2 ys), .r (.rs 1 zs)]] => ((xs = (fnsOf xs).map fnR ∧ ys = (valsOf ys).map valR ∧ zs = (strsOf zs).map strR) ∧ Pwf ⟨fnsOf xs, valsOf ys, strsOf zs⟩) ∧ K (Iv (checkF ⟨fnsOf xs, valsOf ys, strsOf zs⟩))
 | _ => False
noncomputable abbrev ct_check' : Ct Cx := .pure 16 iQ fun args K h => by
 unfold iQ at h; split at h; exact ⟨_, aA (Aq _ _ _ h.1) en16 rfl rfl, h.2⟩; exact h.elim
@[go_sem] theorem Gn : type_of% @iQ.eq_def := @iQ.eq_def
end Go.Proofs.YtbhnmolmkembdaaGreatDoor
namespace Go.Proofs.YtbhnmolmkembdaaGreatDoor
set_option linter.unusedVariables false
set_option linter.unusedSimpArgs false
set_option maxHeartbeats 10000000
open Go Go.ChangeShapes Go.WideShapes Go.ChangeAt Go.RowKit
theorem aGb {P : Program} {t : Nat} {row : List RV} (h : Ro P t row) (ht : P.underlying t = some .bool) : ∃ b, row = [.v (.bool b)] := by
 cases h with
 | int _ k' n h1 h2 => rw [ht] at h1; cases h1
 | bool _ b h1 => exact ⟨b, rfl⟩
 | string _ _ h1 => rw [ht] at h1; cases h1
 | struct _ _ _ h1 => rw [ht] at h1; cases h1
 | slice _ _ _ h1 => rw [ht] at h1; cases h1
theorem aB2 {P : Program} {t : Nat} {row : List RV} (h : Ro P t row) (ht : P.underlying t = some .string) : ∃ s : ByteArray, row = [.v (.string s)] ∧ s.size ≤ maxLen := by
 cases h with
 | int _ k' n h1 h2 => rw [ht] at h1; cases h1
 | bool _ b h1 => rw [ht] at h1; cases h1
 | string _ s h1 h2 => exact ⟨s, rfl, h2⟩
 | struct _ _ _ h1 => rw [ht] at h1; cases h1
 | slice _ _ _ h1 => rw [ht] at h1; cases h1
theorem aV4 : Tryz.prog.cellsOf 3 = 1 := by kernel_rfl
theorem aI6 : Tryz.prog.cellsOf 9 = 1 := by kernel_rfl
theorem Kl : Tryz.prog.cellsOf 50 = 2 := by kernel_rfl
theorem aVk : Tryz.prog.cellsOf 84 = 5 := by kernel_rfl
theorem c_fn : Tryz.prog.cellsOf 87 = 5 := by kernel_rfl
theorem sX : maxLen ≤ 9223372036854775807 := by decide
theorem aGr {row : List RV} (h : Ro Tryz.prog 38 row) : ∃ l : List Int, row = [.rs 1 (l.map intR)] ∧ l.length ≤ 9223372036854775807 := by
 obtain ⟨rows, rfl, hm, h2⟩ := pO h Tryz.underlying38
 obtain ⟨l, rfl, _⟩ := nU (f := intR) (p := fun _ => True) fun r hr => by
  obtain ⟨n, h1, hn⟩ := cS (h2 r hr) Tryz.underlying3
  exact ⟨n, h1, trivial⟩
 refine ⟨l, by rw [aV4], ?_⟩
 have := sX
 simp at hm; omega
theorem aN2 {row : List RV} (h : Ro Tryz.prog 84 row) : ∃ i : InsT, row = insR i := by
 obtain ⟨rows, rfl, h1, h2⟩ := dY h Tryz.underlying84
 match rows, h1 with
 | [a, b, c, d, e], _ =>
  obtain ⟨x1, rfl, _⟩ := cS (h2 0 _ a rfl rfl) Tryz.underlying3
  obtain ⟨x2, rfl, _⟩ := cS (h2 1 _ b rfl rfl) Tryz.underlying3
  obtain ⟨x3, rfl, _⟩ := cS (h2 2 _ c rfl rfl) Tryz.underlying3
  obtain ⟨x4, rfl, _⟩ := cS (h2 3 _ d rfl rfl) Tryz.underlying3
  obtain ⟨x5, rfl, _⟩ := cS (h2 4 _ e rfl rfl) Tryz.underlying3
  exact ⟨⟨x1, x2, x3, x4, x5⟩, rfl⟩
theorem aRz {row : List RV} (h : Ro Tryz.prog 87 row) : ∃ f : FnT, row = fnR f ∧ f.code.length ≤ 9223372036854775807 ∧ f.caught.length ≤ 9223372036854775807 := by
 obtain ⟨rows, rfl, h1, h2⟩ := dY h Tryz.underlying87
 match rows, h1 with
 | [a, b, c, d, e], _ =>
  obtain ⟨x1, rfl, _⟩ := cS (h2 0 _ a rfl rfl) Tryz.underlying3
  obtain ⟨x2, rfl, _⟩ := cS (h2 1 _ b rfl rfl) Tryz.underlying3
  obtain ⟨x3, rfl⟩ := aGb (h2 2 _ c rfl rfl) Tryz.underlying4
  obtain ⟨x4, rfl, h4⟩ := aGr (h2 3 _ d rfl rfl)
  obtain ⟨rs, rfl, hm, h5⟩ := pO (h2 4 _ e rfl rfl) Tryz.underlying85
  obtain ⟨x5, rfl, _⟩ := nU (f := insR) (p := fun _ => True) fun r hr => by
   obtain ⟨i, hi⟩ := aN2 (h5 r hr)
   exact ⟨i, hi, trivial⟩
  refine ⟨⟨x1, x2, x3, x4, x5⟩, by rw [aVk]; rfl, ?_, h4⟩
  have := sX
  simp at hm; show x5.length ≤ _; omega
theorem aG4 {row : List RV} (h : Ro Tryz.prog 26 row) : ∃ p : aI, row = cQ p ∧ Pwf p := by
 obtain ⟨rows, rfl, h1, h2⟩ := dY h Tryz.underlying26
 match rows, h1 with
 | [a, b, c], _ =>
  obtain ⟨r1, rfl, m1, h3⟩ := pO (h2 0 _ a rfl rfl) Tryz.underlying22
  obtain ⟨r2, rfl, m2, h4⟩ := pO (h2 1 _ b rfl rfl) Tryz.underlying23
  obtain ⟨r3, rfl, m3, h5⟩ := pO (h2 2 _ c rfl rfl) Tryz.underlying24
  obtain ⟨x1, rfl, q1⟩ := nU (f := fnR) (p := fun f => f.code.length ≤ 9223372036854775807 ∧ f.caught.length ≤ 9223372036854775807) fun r hr => aRz (h3 r hr)
  obtain ⟨x2, rfl, _⟩ := nU (f := valR) (p := fun _ => True) fun r hr => by
   obtain ⟨k, n, hv⟩ := Pr (h4 r hr)
   exact ⟨(k, n), hv, trivial⟩
  obtain ⟨x3, rfl, _⟩ := nU (f := strR) (p := fun _ => True) fun r hr => by
   obtain ⟨s, hs, _⟩ := aB2 (h5 r hr) Tryz.underlying9
   exact ⟨s, hs, trivial⟩
  have := sX
  simp at m1 m2 m3
  refine ⟨⟨x1, x2, x3⟩, by rw [c_fn, Kl, aI6]; rfl, ⟨⟨?_, ?_, ?_⟩, q1⟩⟩
  ·show x1.length ≤ _; omega
  ·show x2.length ≤ _; omega
  ·show x3.length ≤ _; omega
end Go.Proofs.YtbhnmolmkembdaaGreatDoor
namespace Go.Proofs.YtbhnmolmkembdaaGreatDoor
set_option linter.unusedVariables false
set_option linter.unusedSimpArgs false
set_option maxHeartbeats 10000000
open Go
set_option maxRecDepth 10000
def Yg (st : St) (d : Nat) (args : List AV) (K : AV → List Loc → List (Loc × Cont) → Prop) : Prop := match args with
  | [.agg [.r (.v (.int .i64 pa)), .r (.v (.int .i64 rg)), .r (.v (.bool ge)), .r (.rs 1 us), .r (.rs 5 vs)]] =>
    ((us = (aK us).map intR ∧ vs = (aS vs).map insR) ∧ Cok ⟨pa, rg, ge, aK us, aS vs⟩) ∧ K (.tup [.os d (1 + st.cur d), .os (d + 1000) (1 + st.cur (d + 1000)), Bv (!(bN ⟨pa, rg, ge, aK us, aS vs⟩).bad)]) [.R d, .R (d + 1000)]
      [(.R d, .s (1 + st.cur d) (.sl 59 1 ((bN ⟨pa, rg, ge, aK us, aS vs⟩).out.map trsC))), (.R (d + 1000), .s (1 + st.cur (d + 1000)) (.sl 4 1 ((bN ⟨pa, rg, ge, aK us, aS vs⟩).seen.map boolC)))]
  | _ => False
attribute [go_sem] Yg
theorem vI {p : aI} (hw : Pwf p) (h : checkF p = 0) {f : FnT} (hf : f ∈ p.fns) : Pok p ∧ bQ p f = true ∧ Cok f ∧ (bN f).bad = false := by
 unfold checkF at h
 split at h
 ·cases h
 ·rename_i hL
  have hp := vC hw (by simpa using hL)
  split at h
  ·cases h
  ·split at h
   ·cases h
   ·split at h
    ·cases h
    ·rename_i hA
     have h1 := List.any_eq_false.1 (by simpa using hA : (p.fns.any fun f => !bQ p f) = false) f hf
     have h2 : bQ p f = true := by simpa using h1
     refine ⟨hp, h2, ?_⟩
     unfold bQ at h2
     split at h2
     ·cases h2
     ·split at h2
      ·cases h2
      ·rename_i ho
       exact ⟨Cf (hp.fn f hf).1 (by simpa using ho), by simpa using h2⟩
theorem Wr {f : FnT} (hc : Cok f) : ∀ (k : Nat) (W : WT), Wiv f W → Wiv f (runW f k W)
 | 0, W, h => h
 | k + 1, W, h => by
  show Wiv f (if cP W = true then runW f k (dT f W) else W)
  split
  ·rename_i hg; exact Wr hc k _ (jJ h hc hg).1
  ·exact h
theorem zS {f : FnT} (hc : Cok f) : Wiv f (bN f) := Wr hc _ _ (kY hc).1
theorem Wj {α : Type} {l : List α} {i : Nat} {x : α} (h : l[i]? = some x) : l.set i x = l := by
 refine List.ext_getElem? fun j => ?_
 rw [List.getElem?_set]
 by_cases hj : i = j
 ·subst hj; rw [if_pos rfl, if_pos (List.getElem?_eq_some_iff.1 h).1, h]
 ·rw [if_neg hj]
end Go.Proofs.YtbhnmolmkembdaaGreatDoor
namespace Go.Proofs.YtbhnmolmkembdaaGreatDoor.Sh
set_option linter.unusedVariables false
set_option linter.unusedSimpArgs false
set_option maxHeartbeats 10000000
open Go
set_option maxRecDepth 10000
abbrev intR (n : Int) : List RV := [.v (.int .i64 n)]
abbrev dF (l : List Int) : AV := .r (.rs 1 (l.map intR))
abbrev cB (p : Int × Int) : List RV := [.v (.int .i64 p.1), .v (.int .i64 p.2)]
abbrev dA (l : List (Int × Int)) : AV := .r (.rs 2 (l.map cB))
def aK (xs : List (List RV)) : List Int := xs.map fun r => match r with | [.v (.int _ n)] => n | _ => 0
def shapesOf (xs : List (List RV)) : List (Int × Int) := xs.map fun r => match r with | [.v (.int _ n), .v (.int _ m)] => (n, m) | _ => (0, 0)
@[go_sem] theorem uM (l : List Int) : aK (l.map intR) = l := by
 unfold aK; rw [List.map_map]; conv => rhs; rw [← List.map_id l]
 exact List.map_congr_left fun x _ => rfl
@[go_sem] theorem aF7 (l : List (Int × Int)) : shapesOf (l.map cB) = l := by
 unfold shapesOf; rw [List.map_map]; conv => rhs; rw [← List.map_id l]
 exact List.map_congr_left fun x _ => rfl
theorem Rv {xs : List (List RV)} (h : xs = (aK xs).map intR) : dF (aK xs) = .r (.rs 1 xs) := congrArg (fun z => AV.r (RV.rs 1 z)) h.symm
theorem mU {xs : List (List RV)} (h : xs = (shapesOf xs).map cB) : dA (shapesOf xs) = .r (.rs 2 xs) := congrArg (fun z => AV.r (RV.rs 2 z)) h.symm
def idxF {α : Type} [DecidableEq α] : List α → α → Int
 | [], _ => -1
 | y :: l, x => if x = y then 0 else if idxF l x < 0 then -1 else idxF l x + 1
theorem Qh {α : Type} [DecidableEq α] {x : α} : ∀ {l : List α} {i : Nat}, l[i]? = some x → (∀ j, j < i → l[j]? ≠ some x) → idxF l x = i
 | [], i, h, _ => by simp at h
 | y :: l, 0, h, _ => by simp at h; simp [idxF, h]
 | y :: l, i + 1, h, h2 => by
  have h3 := Qh (l := l) (i := i) (by simpa using h) (fun j hj => by have := h2 (j + 1) (by omega); simpa using this)
  have h4 : x ≠ y := fun he => h2 0 (by omega) (by simp [he])
  simp only [idxF, if_neg h4, h3]
  rw [if_neg (by omega)]; omega
theorem Ko {α : Type} [DecidableEq α] {x : α} : ∀ {l : List α}, (∀ j, j < l.length → l[j]? ≠ some x) → idxF l x = -1
 | [], _ => rfl
 | y :: l, h => by
  have h4 : x ≠ y := fun he => h 0 (by simp) (by simp [he])
  have h3 := Ko (l := l) (fun j hj => by have := h (j + 1) (by simpa using hj); simpa using this)
  simp only [idxF, if_neg h4, h3]; rfl
theorem aE {α β : Type} (f : α → β) {l : List α} {i : Nat} {x : α} (h : l[i]? = some x) (d : β) : (l.map f).getD i d = f x := by simp [List.getD, h]
theorem aJ3 (l : List Int) (n : Int) (hl : l.length ≤ 1000000000) : FC Cx 97 [dF l, Iv n] [] (Iv (idxF l n)) [] := by
 have hlen : (l.map intR).length = l.length := List.length_map ..
 refine aD [] Tryz.func97 Tryz.ntmps97 Tryz.results97 ?_
 (any_goals refine go lv97 0 ?_)
 refine eB [0, 1, 7, 8] (fun i => i ≤ l.length ∧ ∀ j, j < i → l[j]? ≠ some n) (fun (i : Nat) => ⟨19, [(0, dF l), (1, Iv n), (7, Iv l.length), (8, Iv i)], []⟩) (fun i => l.length - i) 0 rfl rfl rfl ⟨Nat.zero_le _, fun j hj => by omega⟩ ?_
 rintro i ⟨hi, hno⟩
 by_cases hlt : i < l.length
 ·obtain ⟨x, hx⟩ : ∃ x, l[i]? = some x := ⟨l[i], List.getElem?_eq_getElem hlt⟩
  have hg := aE intR hx ([] : List RV)
  have hw : IntKind.i64.wrap ((i : Int) + 1) = ((i + 1 : Nat) : Int) := by rw [aN] <;> omega
  have h1 : decide ((i : Int) < (l.length : Int)) = true := by simpa using hlt
  have h2 : Int.toNat (i : Int) = i := by omega
  (any_goals refine go lv97 0 ?_)
  repeat' (first | (refine Br.go (fun h h' => ?_) (fun h h' => ?_)) | (refine Br.mk (fun h => ?_) (fun h => ?_)))
  all_goals (try simp only [go_sem])
  ·rw [Qh (by rw [hx, h']) hno]
  ·refine ⟨i + 1, ⟨by omega, fun j hj => ?_⟩, by omega, fI [0, 1, 7, 8] rfl rfl rfl⟩
   rcases Nat.lt_succ_iff_lt_or_eq.1 hj with h3 | h3
   ·exact hno j h3
   ·rw [h3, hx]; exact fun h4 => h' (Option.some.inj h4).symm
 ·have h1 : decide ((i : Int) < (l.length : Int)) = false := by simpa using hlt
  (any_goals refine go lv97 0 ?_)
  all_goals (try simp only [go_sem])
  rw [Ko fun j hj => hno j (by omega)]
theorem aEb (xs : List (List RV)) (n : Int) (h : xs = (aK xs).map intR ∧ xs.length ≤ 1000000000) : FC Cx 97 [.r (.rs 1 xs), Iv n] [] (Iv (idxF (aK xs) n)) [] := by
 have := aJ3 (aK xs) n (by simpa [aK] using h.2)
 rwa [Rv h.1] at this
def vN (args : List AV) (K : AV → Prop) : Prop := match args with
 | [.r (.rs 1 xs), .r (.v (.int .i64 n))] => (xs = (aK xs).map intR ∧ xs.length ≤ 1000000000) ∧ K (Iv (idxF (aK xs) n))
 | _ => False
noncomputable abbrev Xt : Ct Cx := .pure 97 vN fun args K h => by
 unfold vN at h; split at h; exact ⟨_, aA (aEb _ _ h.1) en97 rfl rfl, h.2⟩; exact h.elim
@[go_sem] theorem aIz : type_of% @vN.eq_def := @vN.eq_def
theorem aHs (xs : List (List RV)) (n : Int) (h : xs = (aK xs).map intR ∧ xs.length ≤ 1000000000) : FC Cx 48 [.r (.rs 1 xs), Iv n] [] (Bv (decide (0 ≤ idxF (aK xs) n))) [] := by
 obtain ⟨h0, hb⟩ := h
 have h1 := h0.symm
 clear h0
 refine aD [Xt] Tryz.func48 Tryz.ntmps48 Tryz.results48 ?_
 (any_goals refine go lv48 0 ?_)
 all_goals (try simp only [go_sem])
def vL (args : List AV) (K : AV → Prop) : Prop := match args with
 | [.r (.rs 1 xs), .r (.v (.int .i64 n))] => (xs = (aK xs).map intR ∧ xs.length ≤ 1000000000) ∧ K (Bv (decide (0 ≤ idxF (aK xs) n)))
 | _ => False
noncomputable abbrev Be : Ct Cx := .pure 48 vL fun args K h => by
 unfold vL at h; split at h; exact ⟨_, aA (aHs _ _ h.1) en48 rfl rfl, h.2⟩; exact h.elim
@[go_sem] theorem aIj : type_of% @vL.eq_def := @vL.eq_def
end Go.Proofs.YtbhnmolmkembdaaGreatDoor.Sh
namespace Go.Proofs.YtbhnmolmkembdaaGreatDoor.Sh
set_option linter.unusedVariables false
set_option linter.unusedSimpArgs false
set_option maxHeartbeats 10000000
open Go
set_option maxRecDepth 10000
abbrev intA (n : Int) : List AV := [Iv n]
theorem rJ (l : List Int) : ∀ row ∈ l.map intA, aX bR row = true := fun row h => by
 obtain ⟨x, _, rfl⟩ := List.mem_map.1 h; rfl
@[go_sem] theorem roI (l : List Int) : ((l.map intR).map fun r => r.map AV.r) = l.map intA := by rw [List.map_map]; rfl
theorem xB {α β : Type} (f : α → β) (l : List α) (i : Nat) (x : α) : (l.map f).set i (f x) = (l.set i x).map f := by rw [List.map_set]
theorem aUm (l : List Int) (hl : l.length ≤ 1000000000) : FC Cx 186 [.os 0 0] [(0, 0, .sl 3 1 (l.map intA))] (.tup []) [(0, 0, .sl 3 1 (l.reverse.map intA))] := by
 have hlen : ∀ l : List Int, (l.map intA).length = l.length := fun l => List.length_map ..
 have hw0 : IntKind.i64.wrap ((l.length : Int) - 1) = (l.length : Int) - 1 := by rw [aN] <;> omega
 refine iZ []  Tryz.func186 rfl Tryz.ntmps186 (by simp) Tryz.results186 rfl (aCa (rJ _)) ?_
 refine rnst ?_
 (any_goals refine go Yv 0 ?_)
 refine jD [0, 2, 3] (fun x : Nat × List Int => x.2.length = l.length ∧ 2 * x.1 ≤ l.length + 1 ∧ ∀ k, k < l.length → x.2[k]? = if k < x.1 ∨ l.length ≤ k + x.1 then l[l.length - 1 - k]? else l[k]?)
  (fun x => ⟨28, [(0, .os 0 0), (2, Iv x.1), (3, Iv ((l.length : Int) - 1 - x.1))], [(0, 0, .sl 3 1 (x.2.map intA))]⟩) (fun x => l.length - x.1) (0, l) rfl ?_ ⟨rfl, .inl ⟨rfl, rfl⟩, trivial⟩ ⟨rfl, by omega, fun k hk => by rw [if_neg (by omega)]⟩ ?_
 ·show cG _ _ = _
  simp [cG, memN]
 rintro ⟨i, c⟩ ⟨hc, hi, hk⟩
 dsimp only at hc hi hk
 by_cases hlt : (i : Int) < (l.length : Int) - 1 - i
 ·have h1 : decide ((i : Int) < (l.length : Int) - 1 - i) = true := by simpa using hlt
  obtain ⟨j, hj⟩ : ∃ j : Nat, (l.length : Int) - 1 - i = j := ⟨l.length - 1 - i, by omega⟩
  obtain ⟨x, hx⟩ : ∃ x, c[i]? = some x := ⟨c[i], List.getElem?_eq_getElem (by omega)⟩
  obtain ⟨y, hy⟩ : ∃ y, c[j]? = some y := ⟨c[j], List.getElem?_eq_getElem (by omega)⟩
  have g1 := aE intA hx ([] : List AV)
  have g2 := aE intA hy ([] : List AV)
  have g3 := aE intA (show (c.set i y)[j]? = some y by rw [List.getElem?_set_ne (by omega)]; exact hy) ([] : List AV)
  have s1 : (c.map intA).set i [Iv y] = (c.set i y).map intA := xB intA c i y
  have s2 : ((c.set i y).map intA).set j [Iv x] = ((c.set i y).set j x).map intA := xB intA _ j x
  have t1 : Int.toNat (i : Int) = i := by omega
  have t2 : Int.toNat (j : Int) = j := by omega
  have l2 : (c.set i y).length = l.length := by simp [hc]
  have w1 : IntKind.i64.wrap ((i : Int) + 1) = ((i + 1 : Nat) : Int) := by rw [aN] <;> omega
  have w2 : IntKind.i64.wrap ((j : Int) - 1) = (l.length : Int) - 1 - ((i + 1 : Nat) : Int) := by rw [aN] <;> omega
  have hj' : decide ((i : Int) < (j : Int)) = true := by rw [hj] at h1; exact h1
  (any_goals refine go Yv 0 ?_)
  all_goals (try simp only [go_sem])
  have xl : l[i]? = some x := by rw [← hx, hk i (by omega), if_neg (by omega)]
  have yl : l[j]? = some y := by rw [← hy, hk j (by omega), if_neg (by omega)]
  refine ⟨(i + 1, (c.set i y).set j x), ⟨by simp [hc], by show 2 * (i + 1) ≤ _; omega, fun k hkl => ?_⟩, by show l.length - (i + 1) < _; omega, gP [0, 2, 3] rfl (by simp [cG, memN]) ⟨rfl, .inl ⟨rfl, rfl⟩, trivial⟩⟩
  show ((c.set i y).set j x)[k]? = _
  rw [List.getElem?_set, List.getElem?_set]
  by_cases e1 : j = k
  ·subst e1
   rw [if_pos rfl, if_pos (by omega), if_pos (by omega), show l.length - 1 - j = i by omega, xl]
  ·rw [if_neg e1]
   by_cases e2 : i = k
   ·subst e2
    rw [if_pos rfl, if_pos (by omega), if_pos (by omega), show l.length - 1 - i = j by omega, yl]
   ·rw [if_neg e2, hk k hkl]
    by_cases e3 : k < i ∨ l.length ≤ k + i
    ·rw [if_pos e3, if_pos (by omega)]
    ·rw [if_neg e3, if_neg (by omega)]
 ·have h1 : decide ((i : Int) < (l.length : Int) - 1 - i) = false := by simpa using hlt
  (any_goals refine go Yv 0 ?_)
  all_goals (try simp only [go_sem])
  have : c = l.reverse := List.ext_getElem? fun k => by
   by_cases hkl : k < l.length
   ·rw [hk k hkl, List.getElem?_reverse hkl]
    by_cases e3 : k < i ∨ l.length ≤ k + i
    ·rw [if_pos e3]
    ·rw [if_neg e3, show l.length - 1 - k = k by omega]
   ·rw [List.getElem?_eq_none (by omega), List.getElem?_eq_none (by simp; omega)]
  rw [this]
def oK (xs : List (List AV)) : List Int := xs.map fun r => match r with | [.r (.v (.int _ n))] => n | _ => 0
@[go_sem] theorem aH0 (l : List Int) : oK (l.map intA) = l := by
 unfold oK; rw [List.map_map]; conv => rhs; rw [← List.map_id l]
 exact List.map_congr_left fun x _ => rfl
def Bq (st : St) (_ : Nat) (args : List AV) (K : AV → List Loc → List (Loc × Cont) → Prop) : Prop := match args with
 | [.os k ver] => match aB k st.rs with
  | (v, .sl e 1 rows) => (ver = v ∧ e = 3 ∧ rows = (oK rows).map intA ∧ rows.length ≤ 1000000000) ∧ K (.tup []) [.R k] [(.R k, .s ver (.sl 3 1 ((oK rows).reverse.map intA)))]
  | _ => False
 | _ => False
theorem Uj (st : St) (d : Nat) (args : List AV) (K : AV → List Loc → List (Loc × Cont) → Prop) (h : Bq st d args K) : ∃ r ls outs, dI Cx 186 st args r ls outs ∧ K r ls outs := by
 unfold Bq at h
 split at h
 ·rename_i k ver
  split at h
  ·rename_i v e rows hk
   obtain ⟨⟨rfl, rfl, h1, h2⟩, h3⟩ := h
   refine ⟨_, _, _, ?_, h3⟩
   have hc := aUm (oK rows) (by simpa [oK] using h2)
   rw [← h1] at hc
   have := dI.turn hc hk rfl (h1 ▸ rJ _) (rJ _) rfl
   simpa only [renL, ren, Nat.zero_add] using this
  ·exact h.elim
 ·exact h.elim
noncomputable def Om : Ct Cx := .res 186 Bq aSw Uj
@[go_sem] theorem aVw : Om.g = 186 := rfl
@[go_sem] theorem aLh (c : Call) (fop : Operand) (caps : List AV) (o : Oper) (st : St) (K : List Loc → List (Loc × Cont) → Prop) : Om.run c fop caps o st K = kO Bq c fop caps o st K := rfl
@[go_sem] theorem aPx (st : St) (d : Nat) (args : List AV) (K : AV → List Loc → List (Loc × Cont) → Prop) : Bq st d args K = (match args with
  | [.os k ver] => match aB k st.rs with
   | (v, .sl e 1 rows) => (ver = v ∧ e = 3 ∧ rows = (oK rows).map intA ∧ rows.length ≤ 1000000000) ∧ K (.tup []) [.R k] [(.R k, .s ver (.sl 3 1 ((oK rows).reverse.map intA)))]
   | _ => False
  | _ => False) := rfl
end Go.Proofs.YtbhnmolmkembdaaGreatDoor.Sh
namespace Go.Proofs.YtbhnmolmkembdaaGreatDoor.Sh
set_option linter.unusedVariables false
set_option linter.unusedSimpArgs false
set_option maxHeartbeats 10000000
open Go
set_option maxRecDepth 10000
def Ups (l : List (Int × Int)) (s : Int) : Prop := ∀ (k : Nat) (p : Int × Int), l[k]? = some p → 0 < k → (k : Int) ≤ s → p.1 < k
def fJ (l : List (Int × Int)) : Nat → Int → List Int
 | 0, _ => []
 | n + 1, s => if 0 < s then match l[s.toNat]? with | some p => p.2 :: fJ l n p.1 | none => [] else []
theorem uI (l : List (Int × Int)) : ∀ (n : Nat) (s : Int), (fJ l n s).length ≤ n
 | 0, _ => Nat.le_refl _
 | n + 1, s => by
  unfold fJ
  split
  ·split
   ·simp only [List.length_cons]; have := uI l n; exact Nat.succ_le_succ (this _)
   ·exact Nat.zero_le _
  ·exact Nat.zero_le _
theorem Ke (l : List (Int × Int)) (s : Int) (hl : l.length ≤ 1000) (hu : Ups l s) (hs : s < l.length) : FC Cx 164 [dA l, Iv s] [] (.os 0 1) [(0, 1, .sl 3 1 ((fJ l l.length s).reverse.map intA))] := by
 have hlen : (l.map cB).length = l.length := List.length_map ..
 refine iH [Om] (i := 0) [.os 0 1] Tryz.func164 rfl Tryz.ntmps164 (by simp) Tryz.results164 (rJ _) ?_
 refine rnst ?_
 (any_goals refine go Zq 0 ?_)
 refine kR 5 20 3 1 rfl rfl (by intro K0; (try simp only [go_sem]); exact ⟨id⟩) ?_
 refine jD [0, 1, 5] (fun x : Nat × Int × List Int => x.2.1 ≤ s ∧ x.2.1 < l.length ∧ x.2.2.length ≤ l.length ∧ ∃ f, x.2.1.toNat ≤ f ∧ x.2.2 ++ fJ l f x.2.1 = fJ l l.length s)
  (fun x => ⟨24, [(0, dA l), (1, Iv x.2.1), (5, .os 20 (x.1 + 1))], [(20, x.1 + 1, .sl 3 1 (x.2.2.map intA)), (19, x.1, .gone)]⟩) (fun x => x.2.1.toNat) (0, s, []) rfl ?_ ⟨rfl, .inl ⟨rfl, rfl⟩, rfl, rfl, trivial⟩ ⟨Int.le_refl _, hs, Nat.zero_le _, l.length, by show s.toNat ≤ _; omega, rfl⟩ ?_
 ·show cG _ _ = _
  simp [cG, memN]
 rintro ⟨k, z, acc⟩ ⟨hzs, hz, hacc, f, hf, he⟩
 dsimp only at hzs hz hacc hf he
 have hlenA : ∀ l : List Int, (l.map intA).length = l.length := fun l => List.length_map ..
 have hcat : ∀ (l : List Int) (n : Int), l.map intA ++ [[Iv n]] = (l ++ [n]).map intA := fun l n => by rw [List.map_append]; rfl
 by_cases hlt : 0 < z
 ·have h1 : decide (0 < z) = true := by simpa using hlt
  obtain ⟨p, hp⟩ : ∃ p, l[z.toNat]? = some p := ⟨l[z.toNat]'(by omega), List.getElem?_eq_getElem (by omega)⟩
  have hg := aE cB hp ([] : List RV)
  (any_goals refine go Zq 0 ?_)
  all_goals (try simp only [go_sem])
  have hup := hu _ _ hp (by omega) (by omega)
  have e2 : (acc ++ [p.2]) ++ fJ l (f - 1) p.1 = fJ l l.length s := by
   obtain ⟨f', rfl⟩ : ∃ f', f = f' + 1 := ⟨f - 1, by omega⟩
   rw [← he, List.append_assoc]
   congr 1
   show _ = if 0 < z then _ else _
   rw [if_pos hlt, hp]; rfl
  have e3 : (acc ++ [p.2]).length ≤ l.length := by
   have h4 := congrArg List.length e2
   have h5 := uI l l.length s
   rw [List.length_append] at h4
   omega
  exact ⟨(k + 1, p.1, acc ++ [p.2]), ⟨by show p.1 ≤ _; omega, by show p.1 < _; omega, e3, f - 1, by show p.1.toNat ≤ _; omega, e2⟩, by show p.1.toNat < _; omega, gP [0, 1, 5] rfl (by simp [cG, memN]) ⟨rfl, .inl ⟨rfl, rfl⟩, rfl, .inr ⟨rfl, Nat.le_refl _⟩, trivial⟩⟩
 ·have h1 : decide (0 < z) = false := by simpa using hlt
  (any_goals refine go Zq 0 ?_)
  all_goals (try simp only [go_sem])
  have : fJ l f z = [] := by cases f with
   | zero => rfl
   | succ f => unfold fJ; rw [if_neg hlt]
  rw [this, List.append_nil] at he
  rw [he]
def namesL (l : List (Int × Int)) (s : Int) : List Int := (fJ l l.length s).reverse
theorem vB (l : List (Int × Int)) (s : Int) : (namesL l s).length ≤ l.length := by
 unfold namesL; rw [List.length_reverse]; exact uI l _ s
theorem Hy (xs : List (List RV)) (s : Int) (h : xs = (shapesOf xs).map cB ∧ xs.length ≤ 1000 ∧ Ups (shapesOf xs) s ∧ s < xs.length) : FC Cx 164 [.r (.rs 2 xs), Iv s] [] (dF (namesL (shapesOf xs) s)) [] := by
 have hl : (shapesOf xs).length = xs.length := by simp [shapesOf]
 have := Ke (shapesOf xs) s (by omega) h.2.2.1 (by omega)
 rw [mU h.1] at this
 exact this.freeze1 (roI _).symm
def wC (args : List AV) (K : AV → Prop) : Prop := match args with
 | [.r (.rs 2 xs), .r (.v (.int .i64 s))] => (xs = (shapesOf xs).map cB ∧ xs.length ≤ 1000 ∧ Ups (shapesOf xs) s ∧ s < xs.length) ∧ K (dF (namesL (shapesOf xs) s))
 | _ => False
noncomputable abbrev Cd : Ct Cx := .pure 164 wC fun args K h => by
 unfold wC at h; split at h; exact ⟨_, aA (Hy _ _ h.1) aIh rfl rfl, h.2⟩; exact h.elim
@[go_sem] theorem aJu : type_of% @wC.eq_def := @wC.eq_def
end Go.Proofs.YtbhnmolmkembdaaGreatDoor.Sh
namespace Go.Proofs.YtbhnmolmkembdaaGreatDoor.Sh
set_option linter.unusedVariables false
set_option linter.unusedSimpArgs false
set_option maxHeartbeats 10000000
open Go
set_option maxRecDepth 10000
abbrev kvS (p : Int × Int) : Value := .agg [.int .i64 p.1, .int .i64 p.2].toArray
def WfI (n : Int) : Prop := (Lit.int .i64 n).wf = true
def WfS (p : Int × Int) : Prop := WfI p.1 ∧ WfI p.2
def Wf (l : List (Int × Int)) : Prop := ∀ p ∈ l, WfS p
theorem aMe : laidOutB Tryz.prog = true := by kernel_rfl
theorem keyS (p : Int × Int) (h : WfS p) : ∃ l, keyOf Tryz.prog 97 (kvS p) = some l := by
 have hk : Tryz.prog.keyType 97 = true := by kernel_rfl
 have c2 : Tryz.prog.cellsOf 97 = 2 := by kernel_rfl
 have c1 : Tryz.prog.cellsOf 3 = 1 := by kernel_rfl
 have hf : (kvS p).formed Tryz.prog 97 = true := by
  simp [Value.formed, Tryz.underlying97, c2]
 obtain ⟨m, hm⟩ : ∃ m, Tryz.prog.types.size = m + 1 := ⟨Tryz.prog.types.size - 1, by kernel_rfl⟩
 obtain ⟨h1, h2⟩ := h
 unfold WfI at h1 h2
 unfold keyOf
 rw [Tryz.underlying97]
 simp only [hk, hf, hm]
 simp [Program.keyLits, Tryz.underlying97, Tryz.underlying3, c1, c2, Value.cells, h1, h2]
open Classical in
noncomputable def kP (S : List (Int × Int)) (k : Value) : Option Value := if ∃ p ∈ S, k = kvS p then some (.int .i64 1) else none
theorem aHd {p q : Int × Int} (h : kvS p = kvS q) : p = q := by
 simp at h
 exact Prod.ext h.1 h.2
theorem aD8 {S : List (Int × Int)} {p : Int × Int} (h : p ∉ S) : kP S (kvS p) = none := by
 unfold kP
 rw [if_neg]
 rintro ⟨q, hq, he⟩
 exact h (aHd he ▸ hq)
theorem Xc {S : List (Int × Int)} {p : Int × Int} (h : p ∈ S) : kP S (kvS p) = some (.int .i64 1) := by
 unfold kP
 rw [if_pos ⟨p, h, rfl⟩]
theorem Zr (S : List (Int × Int)) (p : Int × Int) : updF (kP S) (kvS p) (.int .i64 1) = kP (p :: S) := by
 funext k
 unfold updF kP
 by_cases h : k = kvS p
 ·rw [if_pos h, if_pos ⟨p, List.mem_cons_self .., h⟩]
 ·rw [if_neg h]
  by_cases h2 : ∃ q ∈ S, k = kvS q
  ·obtain ⟨q, hq, he⟩ := h2
   rw [if_pos ⟨q, hq, he⟩, if_pos ⟨q, List.mem_cons_of_mem _ hq, he⟩]
  ·rw [if_neg h2, if_neg]
   rintro ⟨q, hq, he⟩
   rcases List.mem_cons.1 hq with rfl | hq
   ·exact h he
   ·exact h2 ⟨q, hq, he⟩
theorem aAy : kP [] = fun _ => none := by
 funext k; unfold kP; rw [if_neg]; simp
theorem aGf {S : List (Int × Int)} (hS : Wf S) {p : Int × Int} (hp : WfS p) : rI Tryz.prog 209 (kP S) (kvS p) := by
 refine ⟨⟨_, _, Tryz.underlying209, .of (deep_law_gate aMe (of_decide_eq_true (by kernel_rfl)) (of_decide_eq_true (by kernel_rfl)) (by kernel_rfl) (by rw [Tryz.underlying97])), keyS p hp, fun k' v' h => ?_⟩⟩
 unfold kP at h
 split at h
 ·rename_i hq
  obtain ⟨q, hq, rfl⟩ := hq
  exact keyS q (hS q hq)
 ·cases h
theorem Ho {α : Type} [DecidableEq α] {x : α} : ∀ {l : List α}, 0 ≤ idxF l x ↔ x ∈ l
 | [] => by simp [idxF]
 | y :: l => by
  unfold idxF
  by_cases h : x = y
  ·simp [h]
  ·rw [if_neg h, List.mem_cons, ← Ho (l := l)]
   by_cases h2 : idxF l x < 0
   ·rw [if_pos h2]; constructor
    ·intro h3; omega
    ·rintro (h3 | h3); exact absurd h3 h; omega
   ·rw [if_neg h2]; constructor
    ·intro _; right; omega
    ·intro _; omega
def okAt (l : List (Int × Int)) (k : Nat) (p : Int × Int) : Prop := 0 ≤ p.1 ∧ p.1 ≤ k ∧ 0 ≤ p.2 ∧ p ∉ (l.drop 1).take k ∧ p.2 ∉ namesL l p.1
def good (l : List (Int × Int)) : Prop := ∀ k p, l[k + 1]? = some p → okAt l k p
open Classical in
noncomputable def checkF (l : List (Int × Int)) : Int := if 100 < l.length then 2 else if l[0]? = some (-1, -1) ∧ good l then 0 else 3
theorem Js (l : List (Int × Int)) (h100 : 100 < l.length) : FC Cx 109 [dA l] [] (Iv 2) [] := by
 have hlen : (l.map cB).length = l.length := List.length_map ..
 have d0 : decide ((100 : Int) < (l.length : Int)) = true := by rw [decide_eq_true_eq]; omega
 refine aD [Cd, Be] Tryz.func109 Tryz.ntmps109 Tryz.results109 ?_
 (any_goals refine go tW 0 ?_)
 all_goals (try simp only [go_sem])
theorem Uc : FC Cx 109 [dA []] [] (Iv 3) [] := by
 refine aD [Cd, Be] Tryz.func109 Tryz.ntmps109 Tryz.results109 ?_
 (any_goals refine go tW 0 ?_)
 all_goals (try simp only [go_sem])
theorem uL (l : List (Int × Int)) (hw : Wf l) (h100 : ¬ 100 < l.length) (r : Int × Int) (hr : l[0]? = some r) : FC Cx 109 [dA l] [] (Iv (checkF l)) [] := by
 have hlen : (l.map cB).length = l.length := List.length_map ..
 have hpos : 0 < l.length := (List.getElem?_eq_some_iff.1 hr).1
 have d0 : decide ((100 : Int) < (l.length : Int)) = false := by rw [decide_eq_false_iff_not]; omega
 have d1 : decide ((l.length : Int) = 0) = false := by rw [decide_eq_false_iff_not]; omega
 have hg := aE cB hr ([] : List RV)
 have t0 : Int.toNat (l.length : Int) = l.length := by omega
 have hcut : List.drop 1 (List.take l.length (l.map cB)) = (l.drop 1).map cB := by rw [List.take_of_length_le (by rw [hlen]; exact Nat.le_refl _), List.map_drop]
 have hlen1 : ((l.drop 1).map cB).length = l.length - 1 := by simp
 refine aD [Cd, Be] Tryz.func109 Tryz.ntmps109 Tryz.results109 ?_
 (any_goals refine go tW 0 ?_)
 repeat' (first | (refine Br.go (fun h h' => ?_) (fun h h' => ?_)) | (refine Br.mk (fun h => ?_) (fun h => ?_)))
 ·simp only [go_sem]
  rw [checkF, if_neg h100, if_neg]
  rintro ⟨h2, _⟩
  rw [hr] at h2
  have := Option.some.inj h2
  subst this
  simp at h
 have hroot : l[0]? = some (-1, -1) := by rw [hr]; exact congrArg some (Prod.ext h'.1 h'.2)
 have hlenI : ∀ l : List Int, (l.map intR).length = l.length := fun l => List.length_map ..
 refine jD [0, 3, 21, 22, 23] (fun x : Nat × Nat => x.1 ≤ l.length - 1 ∧ ∀ j p, j < x.1 → l[j + 1]? = some p → okAt l j p)
  (fun x => ⟨60, [(0, dA l), (3, .os 19 1), (21, .r (.rs 2 ((l.drop 1).map cB))), (22, Iv (l.length - 1 : Nat)), (23, Iv x.1)], [(19, 1, .mp (kP ((l.drop 1).take x.1).reverse) x.2), (5, x.1, .gone)]⟩) (fun x => l.length - 1 - x.1) (0, 0) rfl rfl ⟨rfl, .inl ⟨rfl, by simp [aAy]⟩, rfl, rfl, trivial⟩ ⟨Nat.zero_le _, fun j p hj => by omega⟩ ?_
 rintro ⟨k, n⟩ ⟨hk, hok⟩
 dsimp only at hk hok
 have t1 : Int.toNat (k : Int) = k := by omega
 by_cases hlt : k < l.length - 1
 ·have e1 : decide ((k : Int) < ((l.length - 1 : Nat) : Int)) = true := by rw [decide_eq_true_eq]; omega
  obtain ⟨p, hp⟩ : ∃ p, l[k + 1]? = some p := ⟨l[k + 1]'(by omega), List.getElem?_eq_getElem (by omega)⟩
  have hp1 : (l.drop 1)[k]? = some p := by rw [List.getElem?_drop, Nat.add_comm]; exact hp
  have hg1 := aE cB hp1 ([] : List RV)
  have hwp : WfS p := hw p (List.mem_of_getElem? hp)
  have hwS : Wf ((l.drop 1).take k).reverse := fun q hq => hw q (List.mem_of_mem_drop (List.mem_of_mem_take (List.mem_reverse.1 hq)))
  have hM : rI Tryz.prog 209 (kP ((l.drop 1).take k).reverse) (.agg [.int .i64 p.1, .int .i64 p.2].toArray) := aGf hwS hwp
  have w1 : IntKind.i64.wrap ((k : Int) + 1) = ((k + 1 : Nat) : Int) := by rw [aN] <;> omega
  have bad : ¬ okAt l k p → checkF l = 3 := fun hb => by rw [checkF, if_neg h100, if_neg]; exact fun hg => hb (hg.2 k p hp)
  have htake : (List.take (k + 1) (l.drop 1)).reverse = p :: (List.take k (l.drop 1)).reverse := by rw [List.take_add_one, hp1]; simp
  clear hcut hp1
  by_cases c1 : p.1 < 0
  ·have d2 : decide (p.1 < 0) = true := by simpa using c1
   have hF := bad fun h => by have := h.1; omega
   (any_goals refine go tW 0 ?_)
   all_goals (try simp only [go_sem])
   rw [hF]
  have d2 : decide (p.1 < 0) = false := by simpa using c1
  by_cases c2 : (k : Int) < p.1
  ·have d3 : decide ((k : Int) < p.1) = true := by simpa using c2
   have hF := bad fun h => by have := h.2.1; omega
   (any_goals refine go tW 0 ?_)
   all_goals (try simp only [go_sem])
   rw [hF]
  have d3 : decide ((k : Int) < p.1) = false := by simpa using c2
  by_cases c3 : p.2 < 0
  ·have d4 : decide (p.2 < 0) = true := by simpa using c3
   have hF := bad fun h => by have := h.2.2.1; omega
   (any_goals refine go tW 0 ?_)
   all_goals (try simp only [go_sem])
   rw [hF]
  have d4 : decide (p.2 < 0) = false := by simpa using c3
  by_cases c4 : p ∈ (l.drop 1).take k
  ·have d5 : kP ((l.drop 1).take k).reverse (.agg [.int .i64 p.1, .int .i64 p.2].toArray) = some (.int .i64 1) := Xc (List.mem_reverse.2 c4)
   have hF := bad fun h => h.2.2.2.1 c4
   (any_goals refine go tW 0 ?_)
   all_goals (try simp only [go_sem])
   rw [hF]
  have d5 : kP ((l.drop 1).take k).reverse (.agg [.int .i64 p.1, .int .i64 p.2].toArray) = none := aD8 fun h => c4 (List.mem_reverse.1 h)
  have hU : Ups l p.1 := fun i q hq h0 hi => by
   obtain ⟨j, rfl⟩ : ∃ j, i = j + 1 := ⟨i - 1, by omega⟩
   have := (hok j q (by omega) hq).2.1
   omega
  have hn := vB l p.1
  by_cases c5 : p.2 ∈ namesL l p.1
  ·have d6 : decide (0 ≤ idxF (namesL l p.1) p.2) = true := by rw [decide_eq_true_eq]; exact Ho.2 c5
   have hF := bad fun h => h.2.2.2.2 c5
   (any_goals refine go tW 0 ?_)
   all_goals (try simp only [go_sem])
   rw [hF]
  have d6 : decide (0 ≤ idxF (namesL l p.1) p.2) = false := by rw [decide_eq_false_iff_not]; exact fun h => c5 (Ho.1 h)
  (any_goals refine go tW 0 ?_)
  all_goals (try simp only [go_sem])
  refine ⟨(k + 1, updN (kP ((l.drop 1).take k).reverse) (.agg [.int .i64 p.1, .int .i64 p.2].toArray) n), ⟨by show k + 1 ≤ _; omega, fun j q hj hq => ?_⟩, by show l.length - 1 - (k + 1) < _; omega, gP [0, 3, 21, 22, 23] rfl rfl ⟨rfl, .inl ⟨rfl, ?_⟩, rfl, .inr ⟨rfl, ?_⟩, trivial⟩⟩
  ·rcases Nat.lt_succ_iff_lt_or_eq.1 hj with h3 | h3
   ·exact hok j q h3 hq
   ·subst h3
    rw [hp] at hq
    obtain rfl := Option.some.inj hq
    exact ⟨by omega, by omega, by omega, c4, c5⟩
  ·refine congrArg (fun f => Res.mp f _) ?_
   show updF (kP _) (kvS p) _ = kP (List.take (k + 1) (l.drop 1)).reverse
   rw [htake, Zr]
  ·exact Nat.le_refl _
 ·have e1 : decide ((k : Int) < ((l.length - 1 : Nat) : Int)) = false := by rw [decide_eq_false_iff_not]; omega
  (any_goals refine go tW 0 ?_)
  all_goals (try simp only [go_sem])
  rw [checkF, if_neg h100, if_pos]
  exact ⟨hroot, fun j q hq => hok j q (by have := (List.getElem?_eq_some_iff.1 hq).1; omega) hq⟩
theorem Ij (l : List (Int × Int)) (hw : Wf l) : FC Cx 109 [dA l] [] (Iv (checkF l)) [] := by
 by_cases h100 : 100 < l.length
 ·rw [checkF, if_pos h100]; exact Js l h100
 ·cases hr : l[0]? with
  | none =>
   obtain rfl : l = [] := by
    cases l with
    | nil => rfl
    | cons a b => simp at hr
   rw [checkF, if_neg h100, if_neg (by simp)]
   exact Uc
  | some r => exact uL l hw h100 r hr
theorem Aq (xs : List (List RV)) (h : xs = (shapesOf xs).map cB ∧ Wf (shapesOf xs)) : FC Cx 109 [.r (.rs 2 xs)] [] (Iv (checkF (shapesOf xs))) [] := by
 have := Ij (shapesOf xs) h.2
 rwa [mU h.1] at this
def iQ (args : List AV) (K : AV → Prop) : Prop := match args with
 | [.r (.rs 2 xs)] => (xs = (shapesOf xs).map cB ∧ Wf (shapesOf xs)) ∧ K (Iv (checkF (shapesOf xs)))
 | _ => False
noncomputable abbrev ct_check' : Ct Cx := .pure 109 iQ fun args K h => by
 unfold iQ at h; split at h; exact ⟨_, aA (Aq _ h.1) aU9 rfl rfl, h.2⟩; exact h.elim
@[go_sem] theorem Gn : type_of% @iQ.eq_def := @iQ.eq_def
end Go.Proofs.YtbhnmolmkembdaaGreatDoor.Sh
