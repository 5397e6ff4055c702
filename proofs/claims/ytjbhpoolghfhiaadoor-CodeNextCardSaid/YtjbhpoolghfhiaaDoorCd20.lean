/- CodeNext, whatever is handed in. No condition: the contract of the law's function. -/
import Derived.Test.YtjbhpoolghfhiaaDoorCd19
namespace Go.Proofs.YtjbhpoolghfhiaaDoor
set_option linter.unusedVariables false
set_option linter.unusedSimpArgs false
set_option maxHeartbeats 10000000
open Go
set_option maxRecDepth 10000

theorem next_c (p : ProgT) (n a : Int) (hw : Pwf p) : FC Cx 4 [progV p, Iv n, Iv a] [] (Bv true) [] := by
  by_cases hc : checkF p ≠ 0
  · exact next_no p n a hw (checkF p) (by unfold TriesF; rw [if_pos hc]) (by simpa using hc)
  by_cases hn : n < 0 ∨ (p.fns.length : Int) ≤ n
  · exact next_no p n a hw 1 (by unfold TriesF; rw [if_neg hc, if_pos hn]) rfl
  obtain ⟨m, rfl⟩ : ∃ m : Nat, n = m := ⟨n.toNat, by omega⟩
  have hm : p.fns[m]? = some (p.fns[m]'(by omega)) := List.getElem?_eq_getElem (by omega)
  generalize p.fns[m]'(by omega) = f at hm
  have hT : TriesF p m = ((walkF f).out, (walkF f).seen, 0) := by
    unfold TriesF
    rw [if_neg hc, if_neg hn]
    have : p.fns.getD (Int.toNat (m : Int)) fn0 = f := by simp [List.getD, hm]
    rw [this]
  obtain ⟨hp, _, hcok, hbad⟩ := check_fn hw (by simpa using hc) (List.mem_of_getElem? hm)
  have iv := walk_iv hcok
  by_cases ha : a < 0 ∨ ((walkF f).seen.length : Int) ≤ a
  · exact next_out p m a hw _ hT ha
  obtain ⟨k, rfl⟩ : ∃ k : Nat, a = k := ⟨a.toNat, by omega⟩
  have hk : k < (walkF f).seen.length := by omega
  cases hs : (walkF f).seen.getD k false with
  | false => exact next_dead p m k hw _ hT hk hs
  | true =>
    have hcl := walk_closed hcok hbad hs
    have me := seen_to iv hs
    have h1 := iv.seen
    have hi : f.code[k]? = some (f.code[k]'(by omega)) := List.getElem?_eq_getElem (by omega)
    generalize f.code[k]'(by omega) = i at hi
    generalize (walkF f).out.getD k [] = l at hcl me
    have nx : Nx p m k f (walkF f) l i := ⟨hw, hm, hcok.len, iv, hT, hi, me⟩
    have hgi : f.code.getD (Int.toNat (k : Int)) ins0 = i := by simp [List.getD, hi]
    unfold closed at hcl
    rw [hgi] at hcl
    obtain ⟨op, x, y, z, line⟩ := i
    dsimp only at hcl
    by_cases o1 : op = 28
    · subst o1; exact next28 p m k f _ l x y z line nx
    by_cases o2 : op = 29
    · subst o2; exact next29 p m k f _ l x y z line nx
    rw [if_neg (by omega)] at hcl
    by_cases o3 : op = 13
    · subst o3; rw [if_pos (.inl rfl)] at hcl; exact next13 p m k f _ l x y z line nx hcl
    by_cases o4 : op = 14
    · subst o4; rw [if_pos (.inr rfl)] at hcl; exact next14 p m k f _ l x y z line nx hcl
    rw [if_neg (by omega)] at hcl
    by_cases o5 : op = 15
    · subst o5; rw [if_pos rfl] at hcl; exact next15 p m k f _ l x y z line nx hcl.1 hcl.2
    rw [if_neg o5] at hcl
    by_cases o6 : op = 30
    · subst o6; rw [if_pos rfl] at hcl; exact next30 p m k f _ l x y z line nx hcl.1 hcl.2
    rw [if_neg o6] at hcl
    by_cases o7 : op = 31
    · subst o7; rw [if_pos rfl] at hcl; exact next31 p m k f _ l x y z line nx hcl.1 hcl.2
    rw [if_neg o7] at hcl
    exact nextx p m k f _ l op x y z line nx (by simpa using o1) (by simpa using o2) (by simpa using o3) (by simpa using o4) (by simpa using o5) (by simpa using o6) (by simpa using o7) hcl

end Go.Proofs.YtjbhpoolghfhiaaDoor
