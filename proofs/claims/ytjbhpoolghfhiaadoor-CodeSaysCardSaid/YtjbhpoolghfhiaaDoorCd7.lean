/- The walk through all orders that ways lead to: coming to one. No condition: contracts of the program's functions. -/
import Derived.Test.YtjbhpoolghfhiaaDoorCd6
namespace Go.Proofs.YtjbhpoolghfhiaaDoor
set_option linter.unusedVariables false
set_option linter.unusedSimpArgs false
set_option maxHeartbeats 10000000
open Go
set_option maxRecDepth 10000



structure WT where
  seen : List Bool
  out : List (List (Int × Int))
  todo : List Int
  bad : Bool

abbrev boolC (b : Bool) : List AV := [Bv b]
abbrev trsC (l : List (Int × Int)) : List AV := [triesV l]
abbrev intC (n : Int) : List AV := [Iv n]
/-- The walk's memory. -/
abbrev wbx (f : FnT) (v : Nat) (bad : Bool) : Res := .bx [Iv f.params, Iv f.regs, Bv f.gen, intsV f.caught, inssV f.code, .os 1 0, .os 2 0, .os 3 v, Bv bad]
abbrev rsW (v : Nat) (f : FnT) (W : WT) : List (Nat × Nat × Res) := [(0, 0, wbx f v W.bad), (1, 0, .sl 4 1 (W.seen.map boolC)), (2, 0, .sl 49 1 (W.out.map trsC)), (3, v, .sl 3 1 (W.todo.map intC))]

theorem flatBool (l : List Bool) : ∀ row ∈ l.map boolC, withinL none0 row = true := fun row h => by
  obtain ⟨x, _, rfl⟩ := List.mem_map.1 h; rfl
theorem flatTrs (l : List (List (Int × Int))) : ∀ row ∈ l.map trsC, withinL none0 row = true := fun row h => by
  obtain ⟨x, _, rfl⟩ := List.mem_map.1 h; rfl
theorem flatInt (l : List Int) : ∀ row ∈ l.map intC, withinL none0 row = true := fun row h => by
  obtain ⟨x, _, rfl⟩ := List.mem_map.1 h; rfl
@[go_sem] theorem okBoolC : ∀ l : List Bool, okRows (l.map boolC) = true
  | [] => rfl
  | x :: l => okBoolC l
@[go_sem] theorem okTrsC : ∀ l : List (List (Int × Int)), okRows (l.map trsC) = true
  | [] => rfl
  | x :: l => okTrsC l
@[go_sem] theorem okIntC : ∀ l : List Int, okRows (l.map intC) = true
  | [] => rfl
  | x :: l => okIntC l
theorem set_map {α β : Type} (f : α → β) (l : List α) (i : Nat) (x : α) : (l.map f).set i (f x) = (l.set i x).map f := by rw [List.map_set]

theorem insW (v : Nat) (f : FnT) (W : WT) (k : Nat) : withinRes (domR (rsW v f W)) (lookR k (rsW v f W)).2 := by
  have e : lookR k (rsW v f W) = if k = 0 then (0, wbx f v W.bad) else if k = 1 then (0, .sl 4 1 (W.seen.map boolC)) else if k = 2 then (0, .sl 49 1 (W.out.map trsC)) else if k = 3 then (v, .sl 3 1 (W.todo.map intC)) else (0, .gone) := rfl
  rw [e]
  split
  · rfl
  · split
    · exact fun row h => withinL_none (flatBool _ row h)
    · split
      · exact fun row h => withinL_none (flatTrs _ row h)
      · split
        · exact fun row h => withinL_none (flatInt _ row h)
        · trivial

def comeF (f : FnT) (n : Int) (l : List (Int × Int)) (W : WT) : WT :=
  if (f.code.length : Int) ≤ n ∨ 20 < l.length then { W with bad := true } else
  if W.seen.getD n.toNat false = false then ⟨W.seen.set n.toNat true, W.out.set n.toNat l, W.todo ++ [n], W.bad⟩ else
  if W.out.getD n.toNat [] = l then W else { W with bad := true }

structure Wok (f : FnT) (W : WT) : Prop where
  code : f.code.length ≤ 600
  seen : W.seen.length = f.code.length
  out : W.out.length = f.code.length
  todo : W.todo.length ≤ 1000
  outs : ∀ x ∈ W.out, x.length ≤ 1000

theorem come_c (f : FnT) (n : Int) (l : List (Int × Int)) (W : WT) (hn : 0 ≤ n) (hw : Wok f W) (hll : l.length ≤ 1000) :
    FC Cx 60 [.os 0 0, Iv n, triesV l] (rsW 0 f W) (.tup []) (rsW 1 f (comeF f n l W)) := by
  obtain ⟨hc, h1, h2, h3, h4⟩ := hw
  have l0 : (f.code.map insR).length = f.code.length := List.length_map ..
  have l1 : (W.seen.map boolC).length = f.code.length := by rw [List.length_map, h1]
  have l2 : (W.out.map trsC).length = f.code.length := by rw [List.length_map, h2]
  have l3 : (W.todo.map intC).length = W.todo.length := List.length_map ..
  have l4 : (l.map tryR).length = l.length := List.length_map ..
  unfold comeF
  by_cases hb : (f.code.length : Int) ≤ n ∨ 20 < l.length
  · rw [if_pos hb]
    have d1 : (decide ((f.code.length : Int) ≤ n) || decide ((20 : Int) < (l.length : Int))) = true := by
      rcases hb with hb | hb
      · simp [hb]
      · have : (20 : Int) < (l.length : Int) := by omega
        simp [this]
    refine FCmb_of [ct_eqTry'] [(3, 1)] Tryd.func60 rfl Tryd.ntmps60 (by simp) Tryd.results60 rfl (insW 1 f _) ?_
    apply Rn_st; (intro K0; simp only [go_sem]; exact ⟨id⟩)
    (any_goals refine go lv60 0 ?_)
    repeat' (first | (refine Br.go (fun h h' => ?_) (fun h h' => ?_)) | (refine Br.mk (fun h => ?_) (fun h => ?_)))
    all_goals (try simp only [go_sem])
    all_goals rfl
  · rw [if_neg hb]
    have hb1 : n < (f.code.length : Int) := by omega
    obtain ⟨k, rfl⟩ : ∃ k : Nat, n = k := ⟨n.toNat, by omega⟩
    have hk : k < f.code.length := by omega
    have t1 : Int.toNat (k : Int) = k := by omega
    have d1 : (decide ((f.code.length : Int) ≤ (k : Int)) || decide ((20 : Int) < (l.length : Int))) = false := by
      rw [Bool.eq_false_iff]; intro h; simp at h; omega
    obtain ⟨b, hsb⟩ : ∃ b, W.seen[k]? = some b := ⟨W.seen[k], List.getElem?_eq_getElem (by omega)⟩
    obtain ⟨o, hso⟩ : ∃ o, W.out[k]? = some o := ⟨W.out[k], List.getElem?_eq_getElem (by omega)⟩
    have g1 := getD_map boolC hsb ([] : List AV)
    have g2 := getD_map trsC hso ([] : List AV)
    have e1 : W.seen.getD k false = b := by simp [List.getD, hsb]
    have e2 : W.out.getD k [] = o := by simp [List.getD, hso]
    have ho := h4 o (List.mem_of_getElem? hso)
    have l5 : (o.map tryR).length = o.length := List.length_map ..
    rw [t1, e1, e2]
    cases b with
    | false =>
      rw [if_pos rfl]
      have s1 : (W.seen.map boolC).set k [Bv true] = (W.seen.set k true).map boolC := set_map boolC W.seen k true
      have s2 : (W.out.map trsC).set k [triesV l] = (W.out.set k l).map trsC := set_map trsC W.out k l
      have s3 : W.todo.map intC ++ [[Iv (k : Int)]] = (W.todo ++ [(k : Int)]).map intC := by simp
      refine FCmb_of [ct_eqTry'] [(3, 1)] Tryd.func60 rfl Tryd.ntmps60 (by simp) Tryd.results60 rfl (insW 1 f _) ?_
      apply Rn_st; (intro K0; simp only [go_sem]; exact ⟨id⟩)
      (any_goals refine go lv60 0 ?_)
      repeat' (first | (refine Br.go (fun h h' => ?_) (fun h h' => ?_)) | (refine Br.mk (fun h => ?_) (fun h => ?_)))
      all_goals (try simp only [go_sem])
      all_goals rfl
    | true =>
      rw [if_neg (by simp)]
      by_cases he : o = l
      · rw [if_pos he]
        have d2 : decide (o = l) = true := by simpa using he
        refine FCmb_of [ct_eqTry'] [(3, 1)] Tryd.func60 rfl Tryd.ntmps60 (by simp) Tryd.results60 rfl (insW 1 f _) ?_
        apply Rn_st; (intro K0; simp only [go_sem]; exact ⟨id⟩)
        (any_goals refine go lv60 0 ?_)
        repeat' (first | (refine Br.go (fun h h' => ?_) (fun h h' => ?_)) | (refine Br.mk (fun h => ?_) (fun h => ?_)))
        all_goals (try simp only [go_sem])
        all_goals rfl
      · rw [if_neg he]
        have d2 : decide (o = l) = false := by simpa using he
        refine FCmb_of [ct_eqTry'] [(3, 1)] Tryd.func60 rfl Tryd.ntmps60 (by simp) Tryd.results60 rfl (insW 1 f _) ?_
        apply Rn_st; (intro K0; simp only [go_sem]; exact ⟨id⟩)
        (any_goals refine go lv60 0 ?_)
        repeat' (first | (refine Br.go (fun h h' => ?_) (fun h h' => ?_)) | (refine Br.mk (fun h => ?_) (fun h => ?_)))
        all_goals (try simp only [go_sem])
        all_goals rfl

end Go.Proofs.YtjbhpoolghfhiaaDoor
