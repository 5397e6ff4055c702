/- Orders, in their place. No condition: contracts of the program's functions. -/
import Derived.Test.YtjbhpoolghfhiaaDoorCd4
namespace Go.Proofs.YtjbhpoolghfhiaaDoor
set_option linter.unusedVariables false
set_option linter.unusedSimpArgs false
set_option maxHeartbeats 10000000
open Go
set_option maxRecDepth 10000



def fB (op : Int) (j : Nat) : Int := ((formF op).data.toList.getD j 0).toNat
def orderN (p : ProgT) (f : FnT) (i : InsT) : Bool := wiF i.line 0 2000 && namesF p f (fB i.op 0) i.a && namesF p f (fB i.op 1) i.b && namesF p f (fB i.op 2) i.c
def fn0 : FnT := ⟨0, 0, false, [], []⟩
def orderF (p : ProgT) (f : FnT) (at' : Int) (i : InsT) : Bool :=
  if i.op < 1 ∨ 39 ≤ i.op then false else if orderN p f i = false then false else if i.op = 14 then decide (i.a ≤ at') else if i.op = 19 then decide (i.b + i.c ≤ f.regs) else
  if i.op = 27 then wiF (i.b + i.c) 0 (f.regs - 1) else if i.op = 26 then caughtF f (p.fns.getD i.b.toNat fn0) else if i.op = 32 then f.gen else true

theorem wiF_iff {n lo hi : Int} : wiF n lo hi = true ↔ lo ≤ n ∧ n ≤ hi := by simp [wiF]

theorem ord0_c (p : ProgT) (f : FnT) (n op a b c line : Int) (hf : Fok f) (hp : Psz p) (hE : decide (formF op = ⟨#[]⟩) = true) : FC Cx 69 [lookA p f, Iv n, insA ⟨op, a, b, c, line⟩] [] (Bv false) [] := by
  refine FCp_of [ct_cwithin, ct_form, ct_names', ct_reg'] Tryd.func69 rfl Tryd.ntmps69 (by simp) Tryd.results69 rfl ?_
  apply Rn_st; (intro K0; simp only [go_sem]; exact ⟨id⟩)
  refine goR (L := []) (n := 0) ?_
  (apply Rn_frzB 3; (exact rfl); (exact rfl); (exact rfl); (intro K0; (try simp only [go_sem]); exact ⟨id⟩))
  (apply Rn_frzB 5; (exact rfl); (exact rfl); (exact rfl); (intro K0; (try simp only [go_sem]); exact ⟨id⟩))
  (any_goals refine go lv69 0 ?_)
  repeat' (first | (refine Br.go (fun h h' => ?_) (fun h h' => ?_)) | (refine Br.mk (fun h => ?_) (fun h => ?_)))
  all_goals (try simp only [go_sem])
  all_goals (first | rfl | (simp_all; done) | trace_state)

theorem ordN0_c (p : ProgT) (f : FnT) (n op a b c line : Int) (hf : Fok f) (hp : Psz p) (hE : decide (formF op = ⟨#[]⟩) = false) (hs : (formF op).size = 3) (e0 : wiF line 0 2000 = false) : FC Cx 69 [lookA p f, Iv n, insA ⟨op, a, b, c, line⟩] [] (Bv false) [] := by
  have s0 : (0 : Int) < ((formF op).size : Int) := by rw [hs]; omega
  have s1 : (1 : Int) < ((formF op).size : Int) := by rw [hs]; omega
  have s2 : (2 : Int) < ((formF op).size : Int) := by rw [hs]; omega
  refine FCp_of [ct_cwithin, ct_form, ct_names', ct_reg'] Tryd.func69 rfl Tryd.ntmps69 (by simp) Tryd.results69 rfl ?_
  apply Rn_st; (intro K0; simp only [go_sem]; exact ⟨id⟩)
  refine goR (L := []) (n := 0) ?_
  (apply Rn_frzB 3; (exact rfl); (exact rfl); (exact rfl); (intro K0; (try simp only [go_sem]); exact ⟨id⟩))
  (apply Rn_frzB 5; (exact rfl); (exact rfl); (exact rfl); (intro K0; (try simp only [go_sem]); exact ⟨id⟩))
  (any_goals refine go lv69 0 ?_)
  repeat' (first | (refine Br.go (fun h h' => ?_) (fun h h' => ?_)) | (refine Br.mk (fun h => ?_) (fun h => ?_)))
  all_goals (try simp only [go_sem])
  all_goals (first | rfl | (simp_all; done) | trace_state)

theorem ordN1_c (p : ProgT) (f : FnT) (n op a b c line : Int) (hf : Fok f) (hp : Psz p) (hE : decide (formF op = ⟨#[]⟩) = false) (hs : (formF op).size = 3) (e0 : wiF line 0 2000 = true) (e1 : namesF p f ((formF op).data.toList.getD 0 0).toNat a = false) : FC Cx 69 [lookA p f, Iv n, insA ⟨op, a, b, c, line⟩] [] (Bv false) [] := by
  have s0 : (0 : Int) < ((formF op).size : Int) := by rw [hs]; omega
  have s1 : (1 : Int) < ((formF op).size : Int) := by rw [hs]; omega
  have s2 : (2 : Int) < ((formF op).size : Int) := by rw [hs]; omega
  refine FCp_of [ct_cwithin, ct_form, ct_names', ct_reg'] Tryd.func69 rfl Tryd.ntmps69 (by simp) Tryd.results69 rfl ?_
  apply Rn_st; (intro K0; simp only [go_sem]; exact ⟨id⟩)
  refine goR (L := []) (n := 0) ?_
  (apply Rn_frzB 3; (exact rfl); (exact rfl); (exact rfl); (intro K0; (try simp only [go_sem]); exact ⟨id⟩))
  (apply Rn_frzB 5; (exact rfl); (exact rfl); (exact rfl); (intro K0; (try simp only [go_sem]); exact ⟨id⟩))
  (any_goals refine go lv69 0 ?_)
  repeat' (first | (refine Br.go (fun h h' => ?_) (fun h h' => ?_)) | (refine Br.mk (fun h => ?_) (fun h => ?_)))
  all_goals (try simp only [go_sem])
  all_goals (first | rfl | (simp_all; done) | trace_state)

theorem ordN2_c (p : ProgT) (f : FnT) (n op a b c line : Int) (hf : Fok f) (hp : Psz p) (hE : decide (formF op = ⟨#[]⟩) = false) (hs : (formF op).size = 3) (e0 : wiF line 0 2000 = true) (e1 : namesF p f ((formF op).data.toList.getD 0 0).toNat a = true) (e2 : namesF p f ((formF op).data.toList.getD 1 0).toNat b = false) : FC Cx 69 [lookA p f, Iv n, insA ⟨op, a, b, c, line⟩] [] (Bv false) [] := by
  have s0 : (0 : Int) < ((formF op).size : Int) := by rw [hs]; omega
  have s1 : (1 : Int) < ((formF op).size : Int) := by rw [hs]; omega
  have s2 : (2 : Int) < ((formF op).size : Int) := by rw [hs]; omega
  refine FCp_of [ct_cwithin, ct_form, ct_names', ct_reg'] Tryd.func69 rfl Tryd.ntmps69 (by simp) Tryd.results69 rfl ?_
  apply Rn_st; (intro K0; simp only [go_sem]; exact ⟨id⟩)
  refine goR (L := []) (n := 0) ?_
  (apply Rn_frzB 3; (exact rfl); (exact rfl); (exact rfl); (intro K0; (try simp only [go_sem]); exact ⟨id⟩))
  (apply Rn_frzB 5; (exact rfl); (exact rfl); (exact rfl); (intro K0; (try simp only [go_sem]); exact ⟨id⟩))
  (any_goals refine go lv69 0 ?_)
  repeat' (first | (refine Br.go (fun h h' => ?_) (fun h h' => ?_)) | (refine Br.mk (fun h => ?_) (fun h => ?_)))
  all_goals (try simp only [go_sem])
  all_goals (first | rfl | (simp_all; done) | trace_state)

theorem ordN3_c (p : ProgT) (f : FnT) (n op a b c line : Int) (hf : Fok f) (hp : Psz p) (hE : decide (formF op = ⟨#[]⟩) = false) (hs : (formF op).size = 3) (e0 : wiF line 0 2000 = true) (e1 : namesF p f ((formF op).data.toList.getD 0 0).toNat a = true) (e2 : namesF p f ((formF op).data.toList.getD 1 0).toNat b = true) (e3 : namesF p f ((formF op).data.toList.getD 2 0).toNat c = false) : FC Cx 69 [lookA p f, Iv n, insA ⟨op, a, b, c, line⟩] [] (Bv false) [] := by
  have s0 : (0 : Int) < ((formF op).size : Int) := by rw [hs]; omega
  have s1 : (1 : Int) < ((formF op).size : Int) := by rw [hs]; omega
  have s2 : (2 : Int) < ((formF op).size : Int) := by rw [hs]; omega
  refine FCp_of [ct_cwithin, ct_form, ct_names', ct_reg'] Tryd.func69 rfl Tryd.ntmps69 (by simp) Tryd.results69 rfl ?_
  apply Rn_st; (intro K0; simp only [go_sem]; exact ⟨id⟩)
  refine goR (L := []) (n := 0) ?_
  (apply Rn_frzB 3; (exact rfl); (exact rfl); (exact rfl); (intro K0; (try simp only [go_sem]); exact ⟨id⟩))
  (apply Rn_frzB 5; (exact rfl); (exact rfl); (exact rfl); (intro K0; (try simp only [go_sem]); exact ⟨id⟩))
  (any_goals refine go lv69 0 ?_)
  repeat' (first | (refine Br.go (fun h h' => ?_) (fun h h' => ?_)) | (refine Br.mk (fun h => ?_) (fun h => ?_)))
  all_goals (try simp only [go_sem])
  all_goals (first | rfl | (simp_all; done) | trace_state)

theorem ord14_c (p : ProgT) (f : FnT) (n a b c line : Int) (hf : Fok f) (hp : Psz p) (hE : decide (formF 14 = ⟨#[]⟩) = false) (hs : (formF 14).size = 3) (e0 : wiF line 0 2000 = true) (e1 : namesF p f ((formF 14).data.toList.getD 0 0).toNat a = true) (e2 : namesF p f ((formF 14).data.toList.getD 1 0).toNat b = true) (e3 : namesF p f ((formF 14).data.toList.getD 2 0).toNat c = true) : FC Cx 69 [lookA p f, Iv n, insA ⟨14, a, b, c, line⟩] [] (Bv (decide (a ≤ n))) [] := by
  have s0 : (0 : Int) < ((formF 14).size : Int) := by rw [hs]; omega
  have s1 : (1 : Int) < ((formF 14).size : Int) := by rw [hs]; omega
  have s2 : (2 : Int) < ((formF 14).size : Int) := by rw [hs]; omega
  refine FCp_of [ct_cwithin, ct_form, ct_names', ct_reg'] Tryd.func69 rfl Tryd.ntmps69 (by simp) Tryd.results69 rfl ?_
  apply Rn_st; (intro K0; simp only [go_sem]; exact ⟨id⟩)
  refine goR (L := []) (n := 0) ?_
  (apply Rn_frzB 3; (exact rfl); (exact rfl); (exact rfl); (intro K0; (try simp only [go_sem]); exact ⟨id⟩))
  (apply Rn_frzB 5; (exact rfl); (exact rfl); (exact rfl); (intro K0; (try simp only [go_sem]); exact ⟨id⟩))
  (any_goals refine go lv69 0 ?_)
  repeat' (first | (refine Br.go (fun h h' => ?_) (fun h h' => ?_)) | (refine Br.mk (fun h => ?_) (fun h => ?_)))
  all_goals (try simp only [go_sem])
  all_goals (first | rfl | (simp_all; done) | trace_state)

theorem ord19_c (p : ProgT) (f : FnT) (n a b c line : Int) (hf : Fok f) (hp : Psz p) (hE : decide (formF 19 = ⟨#[]⟩) = false) (hs : (formF 19).size = 3) (e0 : wiF line 0 2000 = true) (e1 : namesF p f ((formF 19).data.toList.getD 0 0).toNat a = true) (e2 : namesF p f ((formF 19).data.toList.getD 1 0).toNat b = true) (e3 : namesF p f ((formF 19).data.toList.getD 2 0).toNat c = true) (hw : IntKind.i64.wrap (b + c) = b + c) : FC Cx 69 [lookA p f, Iv n, insA ⟨19, a, b, c, line⟩] [] (Bv (decide (b + c ≤ f.regs))) [] := by
  have s0 : (0 : Int) < ((formF 19).size : Int) := by rw [hs]; omega
  have s1 : (1 : Int) < ((formF 19).size : Int) := by rw [hs]; omega
  have s2 : (2 : Int) < ((formF 19).size : Int) := by rw [hs]; omega
  refine FCp_of [ct_cwithin, ct_form, ct_names', ct_reg'] Tryd.func69 rfl Tryd.ntmps69 (by simp) Tryd.results69 rfl ?_
  apply Rn_st; (intro K0; simp only [go_sem]; exact ⟨id⟩)
  refine goR (L := []) (n := 0) ?_
  (apply Rn_frzB 3; (exact rfl); (exact rfl); (exact rfl); (intro K0; (try simp only [go_sem]); exact ⟨id⟩))
  (apply Rn_frzB 5; (exact rfl); (exact rfl); (exact rfl); (intro K0; (try simp only [go_sem]); exact ⟨id⟩))
  (any_goals refine go lv69 0 ?_)
  repeat' (first | (refine Br.go (fun h h' => ?_) (fun h h' => ?_)) | (refine Br.mk (fun h => ?_) (fun h => ?_)))
  all_goals (try simp only [go_sem])
  all_goals (first | rfl | (simp_all; done) | trace_state)

theorem ord27_c (p : ProgT) (f : FnT) (n a b c line : Int) (hf : Fok f) (hp : Psz p) (hE : decide (formF 27 = ⟨#[]⟩) = false) (hs : (formF 27).size = 3) (e0 : wiF line 0 2000 = true) (e1 : namesF p f ((formF 27).data.toList.getD 0 0).toNat a = true) (e2 : namesF p f ((formF 27).data.toList.getD 1 0).toNat b = true) (e3 : namesF p f ((formF 27).data.toList.getD 2 0).toNat c = true) (hw : IntKind.i64.wrap (b + c) = b + c) : FC Cx 69 [lookA p f, Iv n, insA ⟨27, a, b, c, line⟩] [] (Bv (wiF (b + c) 0 (f.regs - 1))) [] := by
  have s0 : (0 : Int) < ((formF 27).size : Int) := by rw [hs]; omega
  have s1 : (1 : Int) < ((formF 27).size : Int) := by rw [hs]; omega
  have s2 : (2 : Int) < ((formF 27).size : Int) := by rw [hs]; omega
  refine FCp_of [ct_cwithin, ct_form, ct_names', ct_reg'] Tryd.func69 rfl Tryd.ntmps69 (by simp) Tryd.results69 rfl ?_
  apply Rn_st; (intro K0; simp only [go_sem]; exact ⟨id⟩)
  refine goR (L := []) (n := 0) ?_
  (apply Rn_frzB 3; (exact rfl); (exact rfl); (exact rfl); (intro K0; (try simp only [go_sem]); exact ⟨id⟩))
  (apply Rn_frzB 5; (exact rfl); (exact rfl); (exact rfl); (intro K0; (try simp only [go_sem]); exact ⟨id⟩))
  (any_goals refine go lv69 0 ?_)
  repeat' (first | (refine Br.go (fun h h' => ?_) (fun h h' => ?_)) | (refine Br.mk (fun h => ?_) (fun h => ?_)))
  all_goals (try simp only [go_sem])
  all_goals (first | rfl | (simp_all; done) | trace_state)

theorem ord26_c (p : ProgT) (f : FnT) (n a b c line : Int) (hf : Fok f) (hp : Psz p) (hE : decide (formF 26 = ⟨#[]⟩) = false) (hs : (formF 26).size = 3) (e0 : wiF line 0 2000 = true) (e1 : namesF p f ((formF 26).data.toList.getD 0 0).toNat a = true) (e2 : namesF p f ((formF 26).data.toList.getD 1 0).toNat b = true) (e3 : namesF p f ((formF 26).data.toList.getD 2 0).toNat c = true) (g : FnT) (hg : p.fns[b.toNat]? = some g) (hb : 0 ≤ b) (hgc : g.caught.length ≤ 9223372036854775807) : FC Cx 69 [lookA p f, Iv n, insA ⟨26, a, b, c, line⟩] [] (Bv (caughtF f g)) [] := by
  have s0 : (0 : Int) < ((formF 26).size : Int) := by rw [hs]; omega
  have s1 : (1 : Int) < ((formF 26).size : Int) := by rw [hs]; omega
  have s2 : (2 : Int) < ((formF 26).size : Int) := by rw [hs]; omega
  have hA : ∀ y, y = [lookA p f, fnA g] → CallOk Cx 79 y (Bv (caughtF f g)) := fun y hy => by
    subst hy; exact CallOk_of (caught_c p f g hf hgc) en79 rfl rfl
  have hl : (p.fns.map fnR).length = p.fns.length := List.length_map ..
  have hgd := getD_map fnR hg ([] : List RV)
  have hlt : b < (p.fns.length : Int) := by have := (List.getElem?_eq_some_iff.1 hg).1; omega
  refine FCp_of [ct_cwithin, ct_form, ct_names', ct_reg', ctE 79 [lookA p f, fnA g] (Bv (caughtF f g)) hA] Tryd.func69 rfl Tryd.ntmps69 (by simp) Tryd.results69 rfl ?_
  apply Rn_st; (intro K0; simp only [go_sem]; exact ⟨id⟩)
  refine goR (L := []) (n := 0) ?_
  (apply Rn_frzB 3; (exact rfl); (exact rfl); (exact rfl); (intro K0; (try simp only [go_sem]); exact ⟨id⟩))
  (apply Rn_frzB 5; (exact rfl); (exact rfl); (exact rfl); (intro K0; (try simp only [go_sem]); exact ⟨id⟩))
  (any_goals refine go lv69 0 ?_)
  repeat' (first | (refine Br.go (fun h h' => ?_) (fun h h' => ?_)) | (refine Br.mk (fun h => ?_) (fun h => ?_)))
  all_goals (try simp only [go_sem])
  all_goals (first | rfl | (simp_all; done) | trace_state)

theorem ord32_c (p : ProgT) (f : FnT) (n a b c line : Int) (hf : Fok f) (hp : Psz p) (hE : decide (formF 32 = ⟨#[]⟩) = false) (hs : (formF 32).size = 3) (e0 : wiF line 0 2000 = true) (e1 : namesF p f ((formF 32).data.toList.getD 0 0).toNat a = true) (e2 : namesF p f ((formF 32).data.toList.getD 1 0).toNat b = true) (e3 : namesF p f ((formF 32).data.toList.getD 2 0).toNat c = true) : FC Cx 69 [lookA p f, Iv n, insA ⟨32, a, b, c, line⟩] [] (Bv f.gen) [] := by
  have s0 : (0 : Int) < ((formF 32).size : Int) := by rw [hs]; omega
  have s1 : (1 : Int) < ((formF 32).size : Int) := by rw [hs]; omega
  have s2 : (2 : Int) < ((formF 32).size : Int) := by rw [hs]; omega
  refine FCp_of [ct_cwithin, ct_form, ct_names', ct_reg'] Tryd.func69 rfl Tryd.ntmps69 (by simp) Tryd.results69 rfl ?_
  apply Rn_st; (intro K0; simp only [go_sem]; exact ⟨id⟩)
  refine goR (L := []) (n := 0) ?_
  (apply Rn_frzB 3; (exact rfl); (exact rfl); (exact rfl); (intro K0; (try simp only [go_sem]); exact ⟨id⟩))
  (apply Rn_frzB 5; (exact rfl); (exact rfl); (exact rfl); (intro K0; (try simp only [go_sem]); exact ⟨id⟩))
  (any_goals refine go lv69 0 ?_)
  repeat' (first | (refine Br.go (fun h h' => ?_) (fun h h' => ?_)) | (refine Br.mk (fun h => ?_) (fun h => ?_)))
  all_goals (try simp only [go_sem])
  all_goals (first | rfl | (simp_all; done) | trace_state)

theorem ordx_c (p : ProgT) (f : FnT) (n op a b c line : Int) (hf : Fok f) (hp : Psz p) (hE : decide (formF op = ⟨#[]⟩) = false) (hs : (formF op).size = 3) (e0 : wiF line 0 2000 = true) (e1 : namesF p f ((formF op).data.toList.getD 0 0).toNat a = true) (e2 : namesF p f ((formF op).data.toList.getD 1 0).toNat b = true) (e3 : namesF p f ((formF op).data.toList.getD 2 0).toNat c = true) (n14 : decide (op = 14) = false) (n19 : decide (op = 19) = false) (n27 : decide (op = 27) = false) (n26 : decide (op = 26) = false) (n32 : decide (op = 32) = false) : FC Cx 69 [lookA p f, Iv n, insA ⟨op, a, b, c, line⟩] [] (Bv true) [] := by
  have s0 : (0 : Int) < ((formF op).size : Int) := by rw [hs]; omega
  have s1 : (1 : Int) < ((formF op).size : Int) := by rw [hs]; omega
  have s2 : (2 : Int) < ((formF op).size : Int) := by rw [hs]; omega
  refine FCp_of [ct_cwithin, ct_form, ct_names', ct_reg'] Tryd.func69 rfl Tryd.ntmps69 (by simp) Tryd.results69 rfl ?_
  apply Rn_st; (intro K0; simp only [go_sem]; exact ⟨id⟩)
  refine goR (L := []) (n := 0) ?_
  (apply Rn_frzB 3; (exact rfl); (exact rfl); (exact rfl); (intro K0; (try simp only [go_sem]); exact ⟨id⟩))
  (apply Rn_frzB 5; (exact rfl); (exact rfl); (exact rfl); (intro K0; (try simp only [go_sem]); exact ⟨id⟩))
  (any_goals refine go lv69 0 ?_)
  repeat' (first | (refine Br.go (fun h h' => ?_) (fun h h' => ?_)) | (refine Br.mk (fun h => ?_) (fun h => ?_)))
  all_goals (try simp only [go_sem])
  all_goals (first | rfl | (simp_all; done) | trace_state)

end Go.Proofs.YtjbhpoolghfhiaaDoor
