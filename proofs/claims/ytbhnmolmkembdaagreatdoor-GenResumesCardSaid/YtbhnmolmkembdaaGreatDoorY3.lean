/- Rules by which code is walked: guards told first, slots that nobody reads any more forgotten. No condition: plain lemmas. -/
import Derived.Test.YtbhnmolmkembdaaGreatDoorY2
import Derived.LoopN
import Derived.Test.YtbhnmolmkembdaaGreatDoorProg
import Derived.Lib.LaidTab
import Derived.Lib.Space
import Derived.Deep.Slices
import Derived.ChangeSame
import Derived.WideKeyArgs
import Derived.WideShapes
import Derived.Carry
import Derived.RowKit
namespace Go.Proofs.YtbhnmolmkembdaaGreatDoor
set_option linter.unusedVariables false
set_option linter.unusedSimpArgs false
set_option maxHeartbeats 10000000
open Go
set_option maxRecDepth 10000
def memN (k : Nat) : List Nat → Bool
 | [] => false
 | j :: l => if k = j then true else memN k l
def cG (keep : List Nat) : List (Nat × AV) → List (Nat × AV)
 | [] => []
 | (k, x) :: l => if memN k keep = true then (k, x) :: cG keep l else cG keep l
theorem qM (keep : List Nat) (d : Nat) : ∀ t : List (Nat × AV), bB d (cG keep t) = .any ∨ bB d (cG keep t) = bB d t
 | [] => .inl rfl
 | (k, x) :: l => by
  have ih := qM keep d l
  by_cases hd : d = k
  ·subst hd
   by_cases hm : memN d keep = true
   ·right; simp [cG, bB, hm]
   ·left
    have gone : ∀ t : List (Nat × AV), bB d (cG keep t) = .any := fun t => by
     induction t with
     | nil => rfl
     | cons p t ih =>
      obtain ⟨k, y⟩ := p
      by_cases h2 : d = k
      ·subst h2; simpa [cG, hm] using ih
      ·unfold cG; split
       ·simpa [bB, h2] using ih
       ·exact ih
    simpa [cG, hm] using gone l
  ·unfold cG; split
   ·simpa [bB, hd] using ih
   ·simpa [bB, hd] using ih
def Eh (id : Nat) : List (Nat × List Nat) → Option (List Nat)
 | [] => none
 | (k, x) :: l => if id = k then some x else Eh id l
section
variable {C : Ctx} {T : List (Ct C)} {r : List It} {st st' : St} {K : Exit → St → Prop}
theorem Rp {keep : List Nat} {i : It} (hi : hasC (i :: r) = true) (h : Rn C T (i :: r) { st with t := cG keep st.t } K) : Rn C T (i :: r) st K :=
 aSy (st' := { st with t := cG keep st.t }) hi ⟨rfl, fun d => qM keep d st.t, fun _ => .inl rfl⟩ h
theorem eL (L : List (Nat × List Nat)) {id : Nat} {l : List Oper} {keep : List Nat} (hL : Eh id L = some keep) (hst : ∀ K0 : St → Prop, Imp (K0 st') (K0 { st with t := cG keep st.t })) (h : Rn C T (.o 0 [] l :: r) st' K) : Rn C T (.c (.region id l.toArray false) :: r) st K :=
 Rp (keep := keep) rfl (eV ((hst fun s => Rn C T (.o 0 [] l :: r) s K).run h))
theorem iA (L : List (Nat × List Nat)) {id : Nat} {l : List Oper} {keep : List Nat} (hL : Eh id L = some keep) (hst : ∀ K0 : St → Prop, Imp (K0 st') (K0 { st with t := cG keep st.t })) (h : Rd C T 0 [] l st' [] (jN l) r K) : Rn C T (.c (.region id l.toArray true) :: r) st K :=
 Rp (keep := keep) rfl (kH ((hst fun s => Rd C T 0 [] l s [] (jN l) r K).run h))
variable {k k' : Nat} {done done' : List (Nat × Nat)} {o : Oper} {l : List Oper} {j d d' : Nat} {b w q : Bool} {x : AV}
theorem nD (hg : o.guard = none) (h : ∀ K0 : Nat → List (Nat × Nat) → St → Prop, Imp (K0 k' done' st') (opG C T o st fun _ outs => K0 (k + 1) (addN k o.dst done) (st.upd outs)))
  (hk : Rn C T (.o k' done' l :: r) st' K) : Rn C T (.o k done (o :: l) :: r) st K := by
 unfold Rn at hk ⊢
 refine rM (T := T) (K' := fun s => tZ C (k + 1) (addN k o.dst done) l s (ck C r K .normal)) ?_ fun s hs => hs
 unfold uT
 rw [hg]
 exact uP ((h fun k d s => tZ C k d l s (ck C r K .normal)).run hk)
def RnG (C : Ctx) (T : List (Ct C)) (k : Nat) (done : List (Nat × Nat)) (o : Oper) (l : List Oper) (r : List It) (st : St) (K : Exit → St → Prop) (d : Nat) (b : Bool) (x : AV) : Prop :=
 ∀ j, o.guard = some (j, b) → fZ j done = some d → bB d st.t = x → Rn C T (.o k done (o :: l) :: r) st K
theorem Rn_g (hg : o.guard = some (j, b)) (hd : fZ j done = some d) (hx : ∀ K0 : AV → Prop, Imp (K0 x) (K0 (bB d st.t))) (h : RnG C T k done o l r st K d b x) : Rn C T (.o k done (o :: l) :: r) st K :=
 h j hg hd ((hx fun y => y = x).run rfl)
theorem yJ (hg : o.guard = some (j, b)) (hd : fZ j done = some d) (hq : bB d st.t = .r (.v (.bool q)))
  (h1 : q = b → sI C o st fun _ outs => Rn C T (.o (k + 1) (addN k o.dst done) l :: r) (st.upd outs) K)
  (h2 : q = (!b) → dH o st.n = true ∧ Rn C T (.o (k + 1) (addN k o.dst done) l :: r) (bM o st) K) : Rn C T (.o k done (o :: l) :: r) st K := by
 unfold Rn at h1 h2 ⊢
 refine rM (T := T) (K' := fun s => tZ C (k + 1) (addN k o.dst done) l s (ck C r K .normal)) ?_ fun s hs => hs
 unfold uT
 rw [hg]
 simp only [hd, hq]
 exact ⟨fun hb => h1 (by simpa using hb), fun hb => h2 (by cases q <;> cases b <;> simp_all)⟩
theorem aNk {xs : Array Value} (hg : o.guard = some (j, b)) (hd : fZ j done = some d) (hq : bB d st.t = .r (.v (.tuple xs)))
  (h : dH o st.n = true) (hk : Rn C T (.o (k + 1) (addN k o.dst done) l :: r) (bM o st) K) : Rn C T (.o k done (o :: l) :: r) st K := yO hg hd hq h rfl hk
theorem kE (h : ∀ K0 : Nat → List (Nat × Nat) → St → Prop, Imp (K0 k' done' st') (opG C T o st fun _ outs => K0 (k + 1) (addN k o.dst done) (st.upd outs)))
  (hk : Rn C T (.o k' done' l :: r) st' K) : RnG C T k done o l r st K d b (.r (.v (.bool b))) := by
 intro j hg hd hx
 refine yJ hg hd hx (fun _ => ?_) (fun h => by cases b <;> simp at h)
 exact uP ((h fun k d s => Rn C T (.o k d l :: r) s K).run hk)
theorem Ok (hq : q = !b) (hn : dH o st.n = true) (h : ∀ K0 : Nat → List (Nat × Nat) → St → Prop, Imp (K0 k' done' st') (K0 (k + 1) (addN k o.dst done) (bM o st)))
  (hk : Rn C T (.o k' done' l :: r) st' K) : RnG C T k done o l r st K d b (.r (.v (.bool q))) := by
 intro j hg hd hx
 refine yJ hg hd hx (fun h => by subst h; cases q <;> simp at hq) (fun _ => ⟨hn, ?_⟩)
 exact (h fun k d s => Rn C T (.o k d l :: r) s K).run hk
theorem iG (hn : dH o st.n = true) (h : ∀ K0 : Nat → List (Nat × Nat) → St → Prop, Imp (K0 k' done' st') (K0 (k + 1) (addN k o.dst done) (bM o st)))
  (hk : Rn C T (.o k' done' l :: r) st' K) : RnG C T k done o l r st K d false (.r (.v (.bool true))) := Ok rfl hn h hk
theorem gY (hn : dH o st.n = true) (h : ∀ K0 : Nat → List (Nat × Nat) → St → Prop, Imp (K0 k' done' st') (K0 (k + 1) (addN k o.dst done) (bM o st)))
  (hk : Rn C T (.o k' done' l :: r) st' K) : RnG C T k done o l r st K d true (.r (.v (.bool false))) := Ok rfl hn h hk
theorem lV {xs : Array Value} (hn : dH o st.n = true) (h : ∀ K0 : Nat → List (Nat × Nat) → St → Prop, Imp (K0 k' done' st') (K0 (k + 1) (addN k o.dst done) (bM o st)))
  (hk : Rn C T (.o k' done' l :: r) st' K) : RnG C T k done o l r st K d b (.r (.v (.tuple xs))) := by
 intro j hg hd hx
 exact aNk hg hd hx hn ((h fun k d s => Rn C T (.o k d l :: r) s K).run hk)
theorem iL {y : AV} (hdst : o.dst = some d') (hw : ∀ K0 : Bool → Prop, Imp (K0 w) (mC y b K0)) (hn : d' < st.n)
  (h : w = true → ∀ K0 : AV → Prop, Imp (K0 x) (opG C T o st fun _ outs => oneK d' outs K0))
  (hst : ∀ K0 : Nat → List (Nat × Nat) → St → Prop, Imp (K0 k' done' st') (K0 (k + 1) (addN k o.dst done) { st with t := putT d' (bif w then x else UD) st.t }))
  (hk : Rn C T (.o k' done' l :: r) st' K) : RnG C T k done o l r st K d b y := by
 intro j hg hd hx
 subst hx
 exact aEe hg hd hdst hw hn h (fun _ => ⟨id⟩) ((hst fun k d s => Rn C T (.o k d l :: r) s K).run hk)
theorem fW (h1 : q = true → Rn C T (.o k done (o :: l) :: r) st K) (h2 : q = false → Rn C T (.o k done (o :: l) :: r) st K) : RnG C T k done o l r st K d b (.r (.v (.bool q))) := by
 intro j hg hd hx
 cases q with
 | true => exact h1 rfl
 | false => exact h2 rfl
def RnC (C : Ctx) (T : List (Ct C)) (c : Operand) (a b : Code) (r : List It) (st : St) (K : Exit → St → Prop) (x : AV) : Prop := ev st c = x → Rn C T (.c (.cond c a b) :: r) st K
theorem Rn_c {c : Operand} {a b : Code} (hx : ∀ K0 : AV → Prop, Imp (K0 x) (K0 (ev st c))) (h : RnC C T c a b r st K x) : Rn C T (.c (.cond c a b) :: r) st K := h ((hx fun y => y = x).run rfl)
theorem rN {c : Operand} {a b : Code} (h : Rn C T (.c a :: r) st K) : RnC C T c a b r st K (.r (.v (.bool true))) := fun hx => Vt hx h
theorem sJ {c : Operand} {a b : Code} (h : Rn C T (.c b :: r) st K) : RnC C T c a b r st K (.r (.v (.bool false))) := fun hx => Tq hx h
theorem fK {c : Operand} {a b : Code} (h1 : q = true → Rn C T (.c a :: r) st K) (h2 : q = false → Rn C T (.c b :: r) st K) : RnC C T c a b r st K (.r (.v (.bool q))) := fun hx => Gy hx h1 h2
variable {fps fps' : List (List Loc × List Loc)} {edges : List (List Nat)} {rds : List Loc} {ws : List (Loc × Cont)}
theorem nH (hg : o.guard = none) (h : ∀ K0 : Nat → List (Nat × Nat) → List (List Loc × List Loc) → St → Prop, Imp (K0 k' done' fps' st') (opG C T o st fun l outs => wk outs = true ∧ K0 (k + 1) (addN k o.dst done) (fps ++ [(l, outs.map (·.1))]) (st.upd outs)))
  (hk : Rd C T k' done' l st' fps' edges r K) : Rd C T k done (o :: l) st fps edges r K := by
 unfold Rd at hk ⊢
 unfold drun vS
 rw [hg]
 exact uP ((h fun k done fps s => drun C T k done l s fps fun fps s => pB edges fps = true ∧ Rn C T r s K).run hk)
def RdG (C : Ctx) (T : List (Ct C)) (k : Nat) (done : List (Nat × Nat)) (o : Oper) (l : List Oper) (st : St) (fps : List (List Loc × List Loc)) (edges : List (List Nat)) (r : List It) (K : Exit → St → Prop) (d : Nat) (b : Bool) (x : AV) : Prop :=
 ∀ j, o.guard = some (j, b) → fZ j done = some d → bB d st.t = x → Rd C T k done (o :: l) st fps edges r K
theorem Rd_g (hg : o.guard = some (j, b)) (hd : fZ j done = some d) (hx : ∀ K0 : AV → Prop, Imp (K0 x) (K0 (bB d st.t))) (h : RdG C T k done o l st fps edges r K d b x) : Rd C T k done (o :: l) st fps edges r K :=
 h j hg hd ((hx fun y => y = x).run rfl)
theorem jW (h : ∀ K0 : Nat → List (Nat × Nat) → List (List Loc × List Loc) → St → Prop, Imp (K0 k' done' fps' st') (opG C T o st fun l outs => wk outs = true ∧ K0 (k + 1) (addN k o.dst done) (fps ++ [(.T d :: l, outs.map (·.1))]) (st.upd outs)))
  (hk : Rd C T k' done' l st' fps' edges r K) : RdG C T k done o l st fps edges r K d b (.r (.v (.bool b))) := by
 intro j hg hd hx
 unfold Rd at hk ⊢
 unfold drun vS
 rw [hg]
 simp only [hd, hx]
 refine ⟨fun _ => ?_, fun hb => by cases b <;> simp at hb⟩
 exact uP ((h fun k done fps s => drun C T k done l s fps fun fps s => pB edges fps = true ∧ Rn C T r s K).run hk)
theorem No (hq : q = !b) (hn : dH o st.n = true) (h : ∀ K0 : Nat → List (Nat × Nat) → List (List Loc × List Loc) → St → Prop, Imp (K0 k' done' fps' st') (K0 (k + 1) (addN k o.dst done) (fps ++ [([.T d], match o.dst with | some d' => [.T d'] | none => [])]) (bM o st)))
  (hk : Rd C T k' done' l st' fps' edges r K) : RdG C T k done o l st fps edges r K d b (.r (.v (.bool q))) := by
 intro j hg hd hx
 exact Lm hg hd hx hq hn rfl rfl ((h fun k done fps s => Rd C T k done l s fps edges r K).run hk)
theorem iK (hn : dH o st.n = true) (h : ∀ K0 : Nat → List (Nat × Nat) → List (List Loc × List Loc) → St → Prop, Imp (K0 k' done' fps' st') (K0 (k + 1) (addN k o.dst done) (fps ++ [([.T d], match o.dst with | some d' => [.T d'] | none => [])]) (bM o st)))
  (hk : Rd C T k' done' l st' fps' edges r K) : RdG C T k done o l st fps edges r K d false (.r (.v (.bool true))) := No rfl hn h hk
theorem gW (hn : dH o st.n = true) (h : ∀ K0 : Nat → List (Nat × Nat) → List (List Loc × List Loc) → St → Prop, Imp (K0 k' done' fps' st') (K0 (k + 1) (addN k o.dst done) (fps ++ [([.T d], match o.dst with | some d' => [.T d'] | none => [])]) (bM o st)))
  (hk : Rd C T k' done' l st' fps' edges r K) : RdG C T k done o l st fps edges r K d true (.r (.v (.bool false))) := No rfl hn h hk
theorem lZ {xs : Array Value} (hn : dH o st.n = true) (h : ∀ K0 : Nat → List (Nat × Nat) → List (List Loc × List Loc) → St → Prop, Imp (K0 k' done' fps' st') (K0 (k + 1) (addN k o.dst done) (fps ++ [([.T d], match o.dst with | some d' => [.T d'] | none => [])]) (bM o st)))
  (hk : Rd C T k' done' l st' fps' edges r K) : RdG C T k done o l st fps edges r K d b (.r (.v (.tuple xs))) := by
 intro j hg hd hx
 exact Jd hg hd hx hn rfl rfl ((h fun k done fps s => Rd C T k done l s fps edges r K).run hk)
theorem iI {y : AV} (hdst : o.dst = some d') (hw : ∀ K0 : Bool → Prop, Imp (K0 w) (mC y b K0)) (hn : d' < st.n)
  (h : w = true → ∀ K0 : List Loc → AV → Prop, Imp (K0 rds x) (opG C T o st fun l outs => oneK d' outs (K0 l)))
  (hst : ∀ K0 : Nat → List (Nat × Nat) → List (List Loc × List Loc) → St → Prop, Imp (K0 k' done' fps' st') (K0 (k + 1) (addN k o.dst done) (fps ++ [(.T d :: rds, [.T d'])]) { st with t := putT d' (bif w then x else UD) st.t }))
  (hk : Rd C T k' done' l st' fps' edges r K) : RdG C T k done o l st fps edges r K d b y := by
 intro j hg hd hx
 subst hx
 exact aGy hg hd hdst hw hn h (fun _ => ⟨id⟩) ((hst fun k done fps s => Rd C T k done l s fps edges r K).run hk)
theorem gE {y : AV} (hw : ∀ K0 : Bool → Prop, Imp (K0 false) (mC y b K0)) (hn : dH o st.n = true)
  (h : ∀ K0 : Nat → List (Nat × Nat) → St → Prop, Imp (K0 k' done' st') (K0 (k + 1) (addN k o.dst done) (bM o st)))
  (hk : Rn C T (.o k' done' l :: r) st' K) : RnG C T k done o l r st K d b y := by
 rcases wM ((hw fun w' => w' = false).run rfl) with ⟨q, rfl, hq⟩ | ⟨xs, rfl, _⟩
 ·exact Ok (by cases q <;> cases b <;> simp_all) hn h hk
 ·exact lV hn h hk
theorem gD {y : AV} (hw : ∀ K0 : Bool → Prop, Imp (K0 false) (mC y b K0)) (hn : dH o st.n = true)
  (h : ∀ K0 : Nat → List (Nat × Nat) → List (List Loc × List Loc) → St → Prop, Imp (K0 k' done' fps' st') (K0 (k + 1) (addN k o.dst done) (fps ++ [([.T d], match o.dst with | some d' => [.T d'] | none => [])]) (bM o st)))
  (hk : Rd C T k' done' l st' fps' edges r K) : RdG C T k done o l st fps edges r K d b y := by
 rcases wM ((hw fun w' => w' = false).run rfl) with ⟨q, rfl, hq⟩ | ⟨xs, rfl, _⟩
 ·exact No (by cases q <;> cases b <;> simp_all) hn h hk
 ·exact lZ hn h hk
theorem fT (h1 : q = true → Rd C T k done (o :: l) st fps edges r K) (h2 : q = false → Rd C T k done (o :: l) st fps edges r K) : RdG C T k done o l st fps edges r K d b (.r (.v (.bool q))) := by
 intro j hg hd hx
 cases q with
 | true => exact h1 rfl
 | false => exact h2 rfl
end
attribute [irreducible] RnG RdG RnC
def yP (C : Ctx) (c : Code) (K : Exit → St → Prop) : Nat → St → Prop
 | 0, _ => False
 | n + 1, s => lwp C c s (fX (yP C c K n) K)
theorem Xm {C : Ctx} {c : Code} {K : Exit → St → Prop} {n : Nat} {st : St} (h : yP C c K n st) : lwp C (.loop c) st K := by
 intro e a w hs
 refine wp_loop_rounds n ?_
 induction n generalizing st a w with
 | zero => exact h.elim
 | succ n ih =>
  rw [rounds_succ]
  refine wp_mono ((h : lwp C c st _) e a w hs) ?_
  rintro x a' w' ⟨st', h1, h2⟩
  cases x with
  | normal => exact ih (st := st') h2 a' w' h1
  | _ => exact ⟨st', h1, h2⟩
section
variable {C : Ctx} {T : List (Ct C)} {r r' r'' : List It} {st st' : St} {K : Exit → St → Prop} {A : St → Prop}
theorem Ta {c : Code} (h : Rn C T [.c c] st (fX A (ck C r K))) : lwp C c st (fX A (ck C r K)) := by
 unfold Rn at h
 refine nF (h : lwp C c st (ck C [] _)) fun x s hx => ?_
 cases x <;> exact hx
theorem Tt {c : Code} (n : Nat) (h : Rn C T [.c c] st (fX (yP C c (ck C r K) n) (ck C r K))) : Rn C T (.c (.loop c) :: r) st K := by
 have := Xm (n := n + 1) (Ta h)
 unfold Rn
 exact this
theorem eE {c : Code} {n : Nat} (h : Rn C T [.c c] st (fX (yP C c (ck C r K) n) (ck C r K))) : yP C c (ck C r K) (n + 1) st := Ta h
theorem dP (h : A st) : Rn C T [] st (fX A (ck C r K)) := by unfold Rn; exact h
theorem fR {id : Nat} (hr : toB id r' = none) (hr2 : toB id r = some r'') (h : Rn C T r'' st K) : Rn C T (.c (.exit id) :: r') st (fX A (ck C r K)) := by
 refine Ze hr ?_
 show ck C r K (.exit id) st
 exact Tc hr2 h
theorem fY (h : K .ret st) : Rn C T (.c .ret :: r') st (fX A (ck C r K)) := by
 refine lY ?_
 show ck C r K .ret st
 exact uW h
end
structure FinX (C : Ctx) (fn : Func) (rs0 : List (Nat × Nat × Res)) (r : AV) (rs1 : List (Nat × Nat × Res)) (x : Exit) (st : St) : Prop where
 exit : x = .normal ∨ x = .ret
 res : ∃ l, resK st C.P fn.results.toList l ∧ ∀ (e : Env) (g : Gh) (a : Act) (w : World), e.cur0 = (stR rs0).cur → SR C e st g a w → ∃ g', SR C (e.re (stR rs1) g') (stR rs1) g' act0 w ∧
  (∀ v, AR st.cur g w (e.N st g) (resV l) v → AR (stR rs1).cur g' w (e.N (stR rs1) g') r v) ∧ ∀ k, domR rs1 k = true → e.cur0 k < (stR rs1).cur k ∨ e.cur0 k = (stR rs1).cur k ∧ g' k = e.g0 k
theorem SR.cur0 {C : Ctx} {e : Env} {st : St} {g : Gh} {a : Act} {w : World} (h : SR C e st g a w) {c : Nat → Nat} {g0 : Gh} (hh : ∀ k, c k < st.cur k ∨ c k = st.cur k ∧ g k = g0 k) : SR C { e with cur0 := c, g0 := g0 } st g a w :=
 ⟨h.defers, h.size, h.temps, h.res, h.uniq, h.low, h.ext, hh⟩
theorem Kr {C : Ctx} {f : Nat} {fn : Func} {body : Code} {args : List AV} {rs0 rs1 : List (Nat × Nat × Res)} {r : AV} (hf : C.P.funcs[f]? = some fn) (hb : fn.body = some body) (hn : args.length ≤ fn.ntmps)
  (h : lwp C body ⟨fn.ntmps, argT 0 args, rs0⟩ (FinX C fn rs0 r rs1)) : FC C f args rs0 r rs1 := by
 refine ⟨?_⟩
 intro e0 g w vs hok0 hs0 hvs
 have hs := hs0.re
 generalize he : e0.re (stR rs0) g = e at hs
 have hok : e.ok C := by subst he; exact ⟨hok0.G, hok0.gs, hok0.own, hok0.av⟩
 have hN : e0.N (stR rs0) g = e.N (stR rs0) g := by subst he; rfl
 refine calls_of_wp hf hb ?_
 have h0 : S C e ⟨fn.ntmps, argT 0 args, rs0⟩ { tmps := vs ++ Array.replicate (fn.ntmps - vs.size) undef, defers := [] } w := by
  refine ⟨hok, g, ⟨rfl, ?_, fun d => ?_, hs.res, hs.uniq, hs.low, hs.ext, hs.hist⟩⟩
  ·have := hvs.1; simp; omega
  ·show AR (stR rs0).cur g w (e.N (stR rs0) g) (bB d (argT 0 args)) _
   rw [xX]
   simp only [Nat.zero_le, if_true, Nat.sub_zero]
   cases hd : args[d]? with
   | none => simp [List.getD, hd]; exact .any _
   | some x =>
    have hlt : d < vs.size := by rw [hvs.1]; exact (List.getElem?_eq_some_iff.1 hd).1
    have hv : vs[d]? = some vs[d] := Array.getElem?_eq_getElem hlt
    have : (vs ++ Array.replicate (fn.ntmps - vs.size) undef).getD d undef = vs[d] := by
     simp [Array.getD_eq_getD_getElem?, Array.getElem?_append_left hlt, hv]
    rw [this]
    simp only [List.getD, hd, Option.getD_some]
    rw [← hN]
    exact hvs.2 d x _ hd hv
 refine wp_mono (h e _ w h0) ?_
 rintro x a' w' ⟨st', ⟨_, g1, hs'⟩, hfin⟩
 obtain ⟨l, hl, hfx⟩ := hfin.res
 obtain ⟨us, r1, r2, r3⟩ := vK hs' hl
 obtain ⟨g', f1, f2, f3⟩ := hfx e g1 a' w' (by subst he; rfl) hs'
 have key : ∃ v, (results fn a'.tmps).run C.P w' = .ok v w' ∧ AR st'.cur g1 w' (e.N st' g1) (resV l) v := by
  have hm : (fn.results.mapM (rvS a')).run C.P w' = .ok us.toArray w' := by
   rw [Array.mapM_eq_mapM_toList]
   simp only [Sem.run_map, r1, Result.andThen_ok]
  refine ⟨if h : us.toArray.size = 1 then us.toArray[0] else .tuple us.toArray, ?_, ?_⟩
  ·rw [Cj, Sem.run_bind, hm]; rfl
  ·by_cases h1 : us.toArray.size = 1
   ·rw [dif_pos h1]
    have hl1 : l.length = 1 := by rw [← r2]; simpa using h1
    match l, hl1 with
    | [x], _ =>
     refine r3 0 x _ rfl ?_
     rw [List.getElem?_eq_getElem (by simpa using (by simpa using h1 : us.length = 1) ▸ Nat.one_pos)]
     rfl
   ·rw [dif_neg h1]
    have hne : l.length ≠ 1 := by rw [← r2]; simpa using h1
    have : resV l = .tup l := by
     match l, hne with
     | [], _ => rfl
     | [_], h => simp at h
     | _ :: _ :: _, _ => rfl
    rw [this]
    exact .tup _ _ (by simpa using r2) (fun j x y hx hy => r3 j x y hx (by simpa using hy))
 obtain ⟨v, k1, k2⟩ := key
 have hh : ∀ k, domR rs1 k = true → e0.cur0 k < (stR rs1).cur k ∨ e0.cur0 k = (stR rs1).cur k ∧ g' k = e0.g0 k := fun k hk => by
  have h1 := f3 k hk
  have h2 := hs0.hist k
  subst he
  have h1' : (stR rs0).cur k < (stR rs1).cur k ∨ (stR rs0).cur k = (stR rs1).cur k ∧ g' k = g k := h1
  rcases h2 with h2 | ⟨h2, h3⟩ <;> rcases h1' with h4 | ⟨h4, h5⟩
  ·left; omega
  ·left; omega
  ·left; omega
  ·right; exact ⟨by omega, by rw [h5, h3]⟩
 have fin : a'.defers = [] ∧ ∃ v, (results fn a'.tmps).run C.P w' = .ok v w' ∧ ∃ v' g', Ending.returned v = .returned v' ∧ SR C (e0.re (stR rs1) g') (stR rs1) g' act0 w' ∧ AR (stR rs1).cur g' w' (e0.N (stR rs1) g') r v' ∧ ∀ k, domR rs1 k = true → e0.cur0 k < (stR rs1).cur k ∨ e0.cur0 k = (stR rs1).cur k ∧ g' k = e0.g0 k :=
  ⟨hs'.defers, v, k1, v, g', rfl, by subst he; exact f1, by have := f2 v k2; subst he; exact this, hh⟩
 rcases hfin.exit with rfl | rfl
 ·exact fin
 ·exact fin
def nil1 : AV → AV → Prop
 | .r (.v (.slice none 0 0)), .r (.rs _ rows) => rows = []
 | x, y => x = y
theorem Gj {cur : Nat → Nat} {g : Gh} {w : World} {N : Nat → Prop} {x y : AV} {v : Value} (h : nil1 x y) (hv : AR cur g w N x v) : AR cur g w N y v := by
 unfold nil1 at h
 split at h
 ·subst h
  cases hv with | r hv => cases hv; exact .r (.nil _)
 ·rw [← h]; exact hv
def nilL : List AV → List AV → Prop
 | [], [] => True
 | x :: xs, y :: ys => nil1 x y ∧ nilL xs ys
 | _, _ => False
theorem zQ {cur : Nat → Nat} {g : Gh} {w : World} {N : Nat → Prop} : ∀ {xs ys : List AV}, nilL xs ys → ys.length = xs.length ∧ ∀ (j : Nat) (x y : AV) (v : Value), xs[j]? = some x → ys[j]? = some y → AR cur g w N x v → AR cur g w N y v
 | [], [], _ => ⟨rfl, fun j x y v hx => by simp at hx⟩
 | x :: xs, y :: ys, h => by
  obtain ⟨h1, h2⟩ := h
  obtain ⟨h3, h4⟩ := zQ (cur := cur) (g := g) (w := w) (N := N) h2
  refine ⟨by simp [h3], fun j x' y' v hx hy hv => ?_⟩
  cases j with
  | zero => simp at hx hy; subst hx; subst hy; exact Gj h1 hv
  | succ j => exact h4 j x' y' v (by simpa using hx) (by simpa using hy) hv
 | [], _ :: _, h => h.elim
 | _ :: _, [], h => h.elim
def nilR (xs : List AV) (r : AV) : Prop :=
 match xs with
 | [x] => nil1 x r
 | l => match r with
  | .tup ys => nilL l ys
  | _ => False
def FinF (C : Ctx) (rl : List ResultVar) (r : AV) (x : Exit) (st : St) : Prop :=
 match x with
 | .normal | .ret => resG st C.P rl fun xs => sA st xs fun _ ys => nilR ys r
 | _ => False
theorem aKs {C : Ctx} {fn : Func} {rl : List ResultVar} {rs0 : List (Nat × Nat × Res)} {r : AV} {x : Exit} {st : St} (hr : fn.results = rl.toArray) (hw : bK bR r = true) (h : FinF C rl r x st) : FinX C fn rs0 r [] x st := by
 have key : ∀ (hq : resG st C.P rl fun xs => sA st xs fun _ ys => nilR ys r), ∃ l, resK st C.P fn.results.toList l ∧ ∀ (e : Env) (g : Gh) (a : Act) (w : World), e.cur0 = (stR rs0).cur → SR C e st g a w → ∃ g', SR C (e.re (stR []) g') (stR []) g' act0 w ∧
   (∀ v, AR st.cur g w (e.N st g) (resV l) v → AR (stR []).cur g' w (e.N (stR []) g') r v) ∧ ∀ k, domR [] k = true → e.cur0 k < (stR []).cur k ∨ e.cur0 k = (stR []).cur k ∧ g' k = e.g0 k := by
  intro hq
  obtain ⟨xs, h1, h2⟩ := qD hq
  obtain ⟨l, ys, h3, h4, h5⟩ := yI h2
  refine ⟨xs, by rw [hr]; exact h1, fun e g a w _ hs => ?_⟩
  have hno : ∀ b, ¬ own (stR []) g b := fun b ⟨k, hk⟩ => hk.1 rfl
  obtain ⟨f1, _⟩ := hs.final (rs1 := []) (fun k hk => by simp [domR, aB] at hk) (fun k => trivial)
  have hb : ∀ (j : Nat) (x y : AV) (v : Value), xs[j]? = some x → ys[j]? = some y → AR st.cur g w (e.N st g) x v → AR (stR []).cur g w (e.N (stR []) g) y v := fun j x y v hx hy hv =>
   wJ (h5 j x y hx hy).1 hs (bU.1 (bU.2 fun _ _ => rfl)) (fun k b _ hk hN => hN.elim (hs.low k b hk).2.2 (hno b)) (fun b hN => hN.elim .inl fun h => absurd h (hno b)) (h5 j x y hx hy).2 hv _ _
  refine ⟨g, f1, fun v hv => ?_, fun k hk => by simp [domR, aB] at hk⟩
  unfold nilR at h3
  split at h3
  ·rename_i y
   match xs, h4, hb, hv with
   | [x], _, hb, hv => exact Gj h3 (hb 0 x y v rfl rfl hv)
  ·rename_i hne
   split at h3
   ·rename_i zs
    obtain ⟨q1, q2⟩ := zQ (cur := (stR []).cur) (g := g) (w := w) (N := e.N (stR []) g) h3
    have hx : resV xs = .tup xs := by
     match xs, h4 with
     | [], _ => rfl
     | [x], h4 =>
      match ys, h4 with
      | [y], _ => exact absurd rfl (hne y)
     | _ :: _ :: _, _ => rfl
    rw [hx] at hv
    cases hv with
    | tup _ vs hsz hvs =>
     refine .tup _ vs (by rw [q1, h4]; exact hsz) fun j z u hz hu => ?_
     have hj := (List.getElem?_eq_some_iff.1 hz).1
     have hy : ys[j]? = some ys[j] := List.getElem?_eq_getElem (by omega)
     have hx' : xs[j]? = some xs[j] := List.getElem?_eq_getElem (by omega)
     exact q2 j _ z u hy hz (hb j _ _ u hx' hy (hvs j _ u hx' hu))
   ·exact h3.elim
 cases x with
 | normal => exact ⟨.inl rfl, key h⟩
 | ret => exact ⟨.inr rfl, key h⟩
 | _ => exact h.elim
theorem fE {C : Ctx} (T : List (Ct C)) {f : Nat} {fn : Func} {body : Code} {args : List AV} {r : AV} (hf : C.P.funcs[f]? = some fn) (hb : fn.body = some body) {nt : Nat} (hnt : fn.ntmps = nt) (hn : args.length ≤ nt) {rl : List ResultVar} (hr : fn.results = rl.toArray) (hw : bK bR r = true)
  (h : Rn C T [.c body] ⟨nt, argT 0 args, []⟩ (FinF C rl r)) : FC C f args [] r [] := by
 subst hnt
 unfold Rn at h
 refine Kr hf hb hn (nF (h : lwp C body _ (ck C [] (FinF C rl r))) fun x s hx => ?_)
 have hx' : FinF C rl r x s := by cases x <;> exact hx
 exact aKs hr hw hx'
structure One (w : World) (st : St) (g : Gh) (e : Env) (el sz : Nat) (rows : List (List AV)) (v0 : Value) (fp : List Nat) : Prop where
 own : ∃ xs, w.ownsRow 0 el sz v0 rows.length xs ∧ (∀ row ∈ rows, row.length = sz) ∧ (∀ (i j : Nat) (row : List AV) (x : AV) (y : Value), rows[i]? = some row → row[j]? = some x → xs[i * sz + j]? = some y → AR st.cur g w (e.N st g) x y) ∧ Nest w (e.N st g) v0 (nds rows.flatten xs) fp
 blk : ∀ b, bV v0 = some b ∨ b ∈ fp → ∃ k, blk st g k b
abbrev nP (el sz : Nat) (rows : List (List AV)) : List (Nat × Nat × Res) := [(0, 1, .sl el sz rows)]
def gh1 (v0 : Value) (fp : List Nat) : Gh := ⟨fun _ => v0, fun _ => fp⟩
theorem SR.one {C : Ctx} {e : Env} {st : St} {g : Gh} {a : Act} {w : World} (h : SR C e st g a w) {el sz : Nat} {rows : List (List AV)} {v0 : Value} {fp : List Nat} (ho : One w st g e el sz rows v0 fp) (hn : ∀ row ∈ rows, aX bR row = true) :
  SR C (e.re (stR (nP el sz rows)) (gh1 v0 fp)) (stR (nP el sz rows)) (gh1 v0 fp) act0 w ∧ ∀ b, e.N (stR (nP el sz rows)) (gh1 v0 fp) b → e.N st g b := by
 have hb : ∀ k b, Go.Proofs.YtbhnmolmkembdaaGreatDoor.blk (stR (nP el sz rows)) (gh1 v0 fp) k b → k = 0 ∧ (bV v0 = some b ∨ b ∈ fp) := fun k b hk => by
  by_cases h0 : k = 0
  ·subst h0; exact ⟨rfl, hk.2⟩
  ·simp [Go.Proofs.YtbhnmolmkembdaaGreatDoor.blk, aB, h0] at hk
 have hN : ∀ b, e.N (stR (nP el sz rows)) (gh1 v0 fp) b → e.N st g b := fun b hb2 => hb2.elim .inl fun ⟨k, hk⟩ => .inr (ho.blk b (hb k b hk).2)
 refine ⟨⟨rfl, rfl, fun d => .any _, fun k => ?_, fun k k' b hk hk' => by rw [(hb k b hk).1, (hb k' b hk').1], fun k b hk => ?_, h.ext.trans ⟨rfl, rfl, rfl, Nat.le_refl _, fun b _ hno => ⟨rfl, fun ⟨k, hk⟩ => hno (ho.blk b (hb k b hk).2)⟩⟩, fun _ => .inr ⟨rfl, rfl⟩⟩, hN⟩
 ·by_cases h0 : k = 0
  ·subst h0
   obtain ⟨xs, q1, q2, q3, q4⟩ := ho.own
   exact ⟨xs, q1, q2, fun i j row x y hi hj hy => (q3 i j row x y hi hj hy).any_cur (cH (hn row (List.mem_of_getElem? hi)) j x hj) (Nat.le_refl _) fun b _ hq => ⟨rfl, fun h' => hq (hN b h')⟩, q4.lift (Nat.le_refl _) (fun b _ hq => ⟨rfl, fun h' => hq (hN b h')⟩) fun _ _ => rfl⟩
  ·have : (aB k (nP el sz rows)).2 = .gone := by simp [aB, h0]
   show ResR _ _ _ _ _ (aB k (nP el sz rows)).2
   rw [this]; trivial
 ·obtain ⟨j, hj⟩ := ho.blk b (hb k b hk).2
  exact h.low j b hj
def own1 (st : St) (el sz : Nat) (rows : List (List AV)) : AV → Prop
 | .os k ver => aB k st.rs = (ver, .sl el sz rows)
 | .r (.v (.slice none 0 0)) => rows = []
 | _ => False
theorem aFj {C : Ctx} {e : Env} {st : St} {g : Gh} {a : Act} {w : World} (hs : SR C e st g a w) {el sz : Nat} {rows : List (List AV)} {x : AV} (h : own1 st el sz rows x) :
  ∃ v0 fp, One w st g e el sz rows v0 fp ∧ ∀ v, AR st.cur g w (e.N st g) x v → v.oneCell' = true ∧ v = v0 := by
 unfold own1 at h
 split at h
 ·rename_i k ver
  refine ⟨g k, g.f k, ⟨rE hs h, fun b hb => ⟨k, by rw [h]; simp, hb⟩⟩, fun v hv => ⟨?_, jA hv (curk k h).symm⟩⟩
  cases hv with | os _ _ _ h1 _ => exact h1
 ·subst h
  refine ⟨.slice none 0 0, [], ⟨⟨[], World.ownsRow_nil w 0 el sz, fun row hr => by simp at hr, fun i j row x y hi => by simp at hi, .none⟩, fun b hb => by simp [bV] at hb⟩, fun v hv => ?_⟩
  cases hv with | r hv => cases hv; exact ⟨rfl, rfl⟩
 ·exact h.elim
def ownL (st : St) (el sz : Nat) (rows : List (List AV)) : Nat → List AV → List AV → Prop
 | 0, x :: xs, y :: ys => y = .os 0 1 ∧ own1 st el sz rows x ∧ aX bR xs = true ∧ nilL xs ys
 | i + 1, x :: xs, y :: ys => bK bR x = true ∧ nil1 x y ∧ ownL st el sz rows i xs ys
 | _, _, _ => False
theorem Qg {C : Ctx} {e : Env} {st : St} {g : Gh} {a : Act} {w : World} (hs : SR C e st g a w) {el sz : Nat} {rows : List (List AV)} : ∀ {i : Nat} {xs ys : List AV}, ownL st el sz rows i xs ys →
  ∃ v0 fp, One w st g e el sz rows v0 fp ∧ ys.length = xs.length ∧ ∀ (N' : Nat → Prop), (∀ b, N' b → e.N st g b) → ∀ (j : Nat) (x y : AV) (v : Value), xs[j]? = some x → ys[j]? = some y → AR st.cur g w (e.N st g) x v → AR (stR (nP el sz rows)).cur (gh1 v0 fp) w N' y v
 | 0, x :: xs, y :: ys, h => by
  obtain ⟨rfl, h1, h2, h3⟩ := h
  obtain ⟨v0, fp, q1, q2⟩ := aFj hs h1
  refine ⟨v0, fp, q1, by simp [(zQ (cur := st.cur) (g := g) (w := w) (N := e.N st g) h3).1], fun N' hN j x' y' v hx hy hv => ?_⟩
  cases j with
  | zero =>
   simp at hx hy; subst hx; subst hy
   obtain ⟨r1, r2⟩ := q2 v hv
   exact .os 0 1 v r1 (.inr ⟨rfl, r2⟩)
  | succ j =>
   have hx' : xs[j]? = some x' := by simpa using hx
   exact (zQ (N := N') h3).2 j x' y' v hx' (by simpa using hy) (hv.any_cur (cH h2 j x' hx') (Nat.le_refl _) fun b _ hq => ⟨rfl, fun h' => hq (hN b h')⟩)
 | i + 1, x :: xs, y :: ys, h => by
  obtain ⟨h1, h2, h3⟩ := h
  obtain ⟨v0, fp, q1, q2, q3⟩ := Qg hs h3
  refine ⟨v0, fp, q1, by simp [q2], fun N' hN j x' y' v hx hy hv => ?_⟩
  cases j with
  | zero =>
   simp at hx hy; subst hx; subst hy
   exact Gj h2 (hv.any_cur h1 (Nat.le_refl _) fun b _ hq => ⟨rfl, fun h' => hq (hN b h')⟩)
  | succ j => exact q3 N' hN j x' y' v (by simpa using hx) (by simpa using hy) hv
 | 0, [], _, h => h.elim
 | 0, _ :: _, [], h => h.elim
 | _ + 1, [], _, h => h.elim
 | _ + 1, _ :: _, [], h => h.elim
def FinO (C : Ctx) (rl : List ResultVar) (i el sz : Nat) (rows : List (List AV)) (ys : List AV) (x : Exit) (st : St) : Prop :=
 match x with
 | .normal | .ret => resG st C.P rl fun xs => ownL st el sz rows i xs ys
 | _ => False
theorem Yl {xs ys : List AV} (h : ys.length = xs.length) {cur cur' : Nat → Nat} {g g' : Gh} {w : World} {N N' : Nat → Prop} (hj : ∀ (j : Nat) (x y : AV) (v : Value), xs[j]? = some x → ys[j]? = some y → AR cur g w N x v → AR cur' g' w N' y v) {v : Value} (hv : AR cur g w N (resV xs) v) : AR cur' g' w N' (resV ys) v := by
 match xs, ys, h with
 | [x], [y], _ => exact hj 0 x y v rfl rfl hv
 | [], [], _ =>
  cases hv with | tup _ vs hs hvs => exact .tup _ vs hs fun j x u hx => by simp at hx
 | x :: x' :: xs, y :: y' :: ys, h =>
  cases hv with
  | tup _ vs hs hvs =>
   refine .tup _ vs (by rw [h]; exact hs) fun j z u hz hu => ?_
   have hlt := (List.getElem?_eq_some_iff.1 hz).1
   have hx : (x :: x' :: xs)[j]? = some (x :: x' :: xs)[j] := List.getElem?_eq_getElem (by omega)
   exact hj j _ z u hx hz (hvs j _ u hx hu)
theorem iH {C : Ctx} (T : List (Ct C)) {f : Nat} {fn : Func} {body : Code} {args : List AV} {i el sz : Nat} {rows : List (List AV)} (ys : List AV) (hf : C.P.funcs[f]? = some fn) (hb : fn.body = some body) {nt : Nat} (hnt : fn.ntmps = nt) (hn : args.length ≤ nt) {rl : List ResultVar} (hr : fn.results = rl.toArray)
  (hrows : ∀ row ∈ rows, aX bR row = true) (h : Rn C T [.c body] ⟨nt, argT 0 args, []⟩ (FinO C rl i el sz rows ys)) : FC C f args [] (resV ys) [(0, 1, .sl el sz rows)] := by
 subst hnt
 unfold Rn at h
 refine Kr hf hb hn (nF (h : lwp C body _ (ck C [] (FinO C rl i el sz rows ys))) fun x s hx => ?_)
 have key : ∀ (hq : resG s C.P rl fun xs => ownL s el sz rows i xs ys), ∃ l, resK s C.P fn.results.toList l ∧ ∀ (e : Env) (g : Gh) (a : Act) (w : World), e.cur0 = (stR []).cur → SR C e s g a w → ∃ g', SR C (e.re (stR (nP el sz rows)) g') (stR (nP el sz rows)) g' act0 w ∧
   (∀ v, AR s.cur g w (e.N s g) (resV l) v → AR (stR (nP el sz rows)).cur g' w (e.N (stR (nP el sz rows)) g') (resV ys) v) ∧ ∀ k, domR (nP el sz rows) k = true → e.cur0 k < (stR (nP el sz rows)).cur k ∨ e.cur0 k = (stR (nP el sz rows)).cur k ∧ g' k = e.g0 k := by
  intro hq
  obtain ⟨xs, h1, h2⟩ := qD hq
  refine ⟨xs, by rw [hr]; exact h1, fun e g a w he hs => ?_⟩
  obtain ⟨v0, fp, q1, q2, q3⟩ := Qg hs h2
  obtain ⟨f1, f2⟩ := hs.one q1 hrows
  refine ⟨gh1 v0 fp, f1, fun v hv => Yl q2 (q3 _ f2) hv, fun k hk => ?_⟩
  rw [he]
  by_cases h0 : k = 0
  ·subst h0; left; exact Nat.zero_lt_one
  ·simp [domR, aB, h0] at hk
 cases x with
 | normal => exact ⟨.inl rfl, key hx⟩
 | ret => exact ⟨.inr rfl, key hx⟩
 | _ => exact (hx : False).elim
theorem aCa {v e sz : Nat} {rows : List (List AV)} (h : ∀ row ∈ rows, aX bR row = true) (k : Nat) : bP (domR [(0, v, .sl e sz rows)]) (aB k [(0, v, .sl e sz rows)]).2 := by
 unfold aB
 split
 ·exact fun row hrow => cA (h row hrow)
 ·trivial
def subR (st : St) : List (Nat × Nat × Res) → Prop
 | [] => True
 | (k, x) :: l => aB k st.rs = x ∧ subR st l
theorem Ga {st : St} : ∀ {l : List (Nat × Nat × Res)}, subR st l → ∀ k, domR l k = true → aB k st.rs = aB k l
 | [], _, k, hk => by simp [domR, aB] at hk
 | (j, x) :: l, h, k, hk => by
  show aB k st.rs = if k = j then x else aB k l
  by_cases hj : k = j
  ·rw [if_pos hj, hj]; exact h.1
  ·rw [if_neg hj]
   refine Ga h.2 k ?_
   unfold domR at hk ⊢
   unfold aB at hk
   rwa [if_neg hj] at hk
def FinM (C : Ctx) (rl : List ResultVar) (r : AV) (rs1 : List (Nat × Nat × Res)) (x : Exit) (st : St) : Prop :=
 match x with
 | .normal | .ret => (resG st C.P rl fun xs => resV xs = r) ∧ subR st rs1
 | _ => False
theorem iZ {C : Ctx} (T : List (Ct C)) {f : Nat} {fn : Func} {body : Code} {args : List AV} {rs0 rs1 : List (Nat × Nat × Res)} {r : AV} (hf : C.P.funcs[f]? = some fn) (hb : fn.body = some body) {nt : Nat} (hnt : fn.ntmps = nt) (hn : args.length ≤ nt) {rl : List ResultVar} (hr : fn.results = rl.toArray)
  (hw : bK (domR rs1) r = true) (hi : ∀ k, bP (domR rs1) (aB k rs1).2) (h : Rn C T [.c body] ⟨nt, argT 0 args, rs0⟩ (FinM C rl r rs1)) : FC C f args rs0 r rs1 := by
 subst hnt
 unfold Rn at h
 refine Gd hf hb hn (nF (h : lwp C body _ (ck C [] (FinM C rl r rs1))) fun x s hx => ?_)
 have key : ∀ (hq : (resG s C.P rl fun xs => resV xs = r) ∧ subR s rs1) (hx : x = .normal ∨ x = .ret), Fin C fn r rs1 x s := fun hq hx => by
  obtain ⟨xs, h1, h2⟩ := qD hq.1
  exact ⟨hx, ⟨xs, by rw [hr]; exact h1, h2.symm⟩, Ga hq.2, hw, hi⟩
 cases x with
 | normal => exact key hx (.inl rfl)
 | ret => exact key hx (.inr rfl)
 | _ => exact (hx : False).elim
section
variable {C : Ctx} {T : List (Ct C)} {r : List It} {st st' : St} {K : Exit → St → Prop}
theorem tY (hr : hasC r = true) (h : ∀ e a w, S C e st a w → S C e st' a w) (hk : Rn C T r st' K) : Rn C T r st K := by
 unfold Rn at *
 induction r with
 | nil => simp [hasC] at hr
 | cons i r ih =>
  cases i with
  | b id =>
   rw [ck_b] at hk ⊢
   exact ih (by simpa [hasC] using hr) hk
  | c c => exact fun e a w hs => hk e a w (h e a w hs)
  | o k done l => exact fun ops h1 h2 e a w Q hs => hk ops h1 h2 e a w Q (h e a w hs)
theorem fI (keep : List Nat) {s s' : St} (hn : s'.n = s.n) (ht : cG keep s.t = s'.t) (hr : s'.rs = s.rs) : Le s s' :=
 ⟨hn, fun d => by rw [← ht]; exact qM keep d s.t, fun k => .inl (by rw [hr])⟩
def leRs : List (Nat × Nat × Res) → List (Nat × Nat × Res) → Prop
 | [], [] => True
 | [], (_, v, x) :: l' => v = 0 ∧ x = .gone ∧ leRs [] l'
 | (k, v, x) :: l, (k', v', x') :: l' => k = k' ∧ (v = v' ∧ x = x' ∨ x' = .gone ∧ v ≤ v') ∧ leRs l l'
 | _ :: _, [] => False
theorem oH : ∀ {a b : List (Nat × Nat × Res)}, leRs a b → ∀ k, aB k b = aB k a ∨ (aB k b).2 = .gone ∧ (aB k a).1 ≤ (aB k b).1
 | [], [], _, k => .inl rfl
 | [], (j, v, x) :: l', h, k => by
  obtain ⟨rfl, rfl, h⟩ := h
  have := oH (a := []) h k
  show (if k = j then (0, Res.gone) else aB k l') = aB k [] ∨ _
  by_cases hk : k = j
  ·left; rw [if_pos hk]; rfl
  ·rw [if_neg hk]
   rcases this with h1 | ⟨h1, h2⟩
   ·exact .inl h1
   ·right
    show (if k = j then (0, Res.gone) else aB k l').2 = .gone ∧ _ ≤ (if k = j then (0, Res.gone) else aB k l').1
    rw [if_neg hk]; exact ⟨h1, h2⟩
 | (j, v, x) :: l, (j', v', x') :: l', h, k => by
  obtain ⟨rfl, h1, h⟩ := h
  have := oH h k
  show (if k = j then (v', x') else aB k l') = (if k = j then (v, x) else aB k l) ∨ (if k = j then (v', x') else aB k l').2 = .gone ∧ (if k = j then (v, x) else aB k l).1 ≤ (if k = j then (v', x') else aB k l').1
  by_cases hk : k = j
  ·simp only [if_pos hk]
   rcases h1 with ⟨rfl, rfl⟩ | h1
   ·exact .inl rfl
   ·exact .inr h1
  ·simp only [if_neg hk]; exact this
 | _ :: _, [], h, k => h.elim
theorem gP (keep : List Nat) {s s' : St} (hn : s'.n = s.n) (ht : cG keep s.t = s'.t) (hr : leRs s.rs s'.rs) : Le s s' :=
 ⟨hn, fun d => by rw [← ht]; exact qM keep d s.t, oH hr⟩
theorem jD {c : Code} {α : Type} (keep : List Nat) (I : α → Prop) (f : α → St) (μ : α → Nat) (x0 : α) (hn : (f x0).n = st.n) (ht : cG keep st.t = (f x0).t) (hr : leRs st.rs (f x0).rs) (h0 : I x0)
  (round : ∀ x, I x → Rn C T [.c c] (f x) (fX (fun s => ∃ y, I y ∧ μ y < μ x ∧ Le s (f y)) (ck C r K))) : Rn C T (.c (.loop c) :: r) st K :=
 Gc I f μ x0 (gP keep hn ht hr) h0 round
theorem eB {c : Code} {α : Type} (keep : List Nat) (I : α → Prop) (f : α → St) (μ : α → Nat) (x0 : α) (hn : (f x0).n = st.n) (ht : cG keep st.t = (f x0).t) (hr : (f x0).rs = st.rs) (h0 : I x0)
  (round : ∀ x, I x → Rn C T [.c c] (f x) (fX (fun s => ∃ y, I y ∧ μ y < μ x ∧ Le s (f y)) (ck C r K))) : Rn C T (.c (.loop c) :: r) st K :=
 Gc I f μ x0 (fI keep hn ht hr) h0 round
theorem SR.tell {e : Env} {g : Gh} {a : Act} {w : World} (h : SR C e st g a w) {d : Nat} {x : AV} (hv : AR st.cur g w (e.N st g) x (a.tmps.getD d undef)) : SR C e { st with t := putT d x st.t } g a w := by
 refine ⟨h.defers, h.size, fun d' => ?_, h.res, h.uniq, h.low, h.ext, h.hist⟩
 show AR st.cur g w (e.N st g) _ _
 rw [yG]
 by_cases hdd : d' = d
 ·subst hdd; rw [if_pos rfl]; exact hv
 ·rw [if_neg hdd]; exact h.temps d'
theorem oP {k k' : Nat} {done done' : List (Nat × Nat)} {l : List Oper} (h : ∀ K0 : Nat → List (Nat × Nat) → St → Prop, Imp (K0 k' done' st') (K0 k done st)) (hk : Rn C T (.o k' done' l :: r) st' K) : Rn C T (.o k done l :: r) st K :=
 (h fun k d s => Rn C T (.o k d l :: r) s K).run hk
theorem kR (d k el sz : Nat) (hd : bB d st.t = NilS) (hr : hasC r = true) (hst : ∀ K0 : St → Prop, Imp (K0 st') (K0 { st with t := putT d (.os k (st.cur k + 1)) st.t, rs := putR k (st.cur k + 1, .sl el sz []) st.rs })) (hk : Rn C T r st' K) : Rn C T r st K := by
 have hk' := (hst fun s => Rn C T r s K).run hk
 refine tY hr (fun e a w ⟨ho, g, hs⟩ => ?_) hk'
 obtain ⟨h1, _⟩ := hs.turn k (st.cur k + 1) (.sl el sz []) (.slice none 0 0) [] rfl rfl rfl (Nat.le_refl _) (fun _ _ _ => rfl) (.inl (Nat.lt_succ_self _)) (fun b _ hb => by simp [bV] at hb) ho
  (fun st' g' _ hg _ _ => ⟨[], by rw [hg]; show w.ownsRow 0 el sz (gput g k (.slice none 0 0) [] k) 0 []; rw [show gput g k (.slice none 0 0) [] k = .slice none 0 0 from if_pos rfl]; exact World.ownsRow_nil w 0 el sz, fun row hr => by simp at hr, fun i j row x y hi => by simp at hi, by rw [hg, show (gput g k (.slice none 0 0) []).f k = [] from if_pos rfl]; exact .none⟩)
 have hv : a.tmps.getD d undef = .slice none 0 0 := by
  have := hs.temps d
  rw [hd] at this
  exact cC this
 refine ⟨ho, _, h1.tell (d := d) ?_⟩
 rw [hv]
 exact .os k _ _ rfl (.inr ⟨by show st.cur k + 1 = (aB k (putR k _ st.rs)).1; rw [cX, if_pos rfl], (if_pos rfl).symm⟩)
theorem lH {k : Nat} {done : List (Nat × Nat)} {o : Oper} {l : List Oper} {d t : Nat} {x y : Operand} {ty : Nat} {op : BinOp} {sz : Nat} {rows : List (List RV)} (ho : o.op = .binOp op t x y ty) (hop : op = .eql ∨ op = .neq) (hg : o.guard = none) (hd : o.dst = some d) (hdn : d < st.n) (hx : ev st x = .r (.rs sz rows)) (hy : ev st y = NilS) (ht : fC C.P t = true)
  (h : ∀ q : Bool, (q = true → rows = []) → Rn C T (.o (k + 1) (addN k o.dst done) l :: r) { st with t := putT d (Bv (if op = .eql then q else !q)) st.t } K) : Rn C T (.o k done (o :: l) :: r) st K := by
 unfold Rn at *
 intro ops hops hdone
 have h0 : ops.toList[k]? = some o := by
  have : (ops.toList.drop k)[0]? = some o := by rw [hops]; rfl
  simpa using this
 have hk' : ∀ q : Bool, (q = true → rows = []) → lops C ops l { st with t := putT d (Bv (if op = .eql then q else !q)) st.t } (ck C r K .normal) := fun q hq => h q hq ops (by rw [← List.drop_drop, hops]; rfl) (fun j d' hj => by
  unfold addN at hj
  rw [hd] at hj
  simp only [fZ] at hj
  split at hj
  ·rename_i he
   subst he
   simp at hj
   subst hj
   have : ops[j]? = some o := by simpa using h0
   simp [this, hd]
  ·exact hdone j d' hj)
 intro e a w Q hS hq
 unfold wpList
 rw [if_pos (by simp [Region.wanted, hg])]
 refine .inl ?_
 obtain ⟨hok, g, hs⟩ := hS
 obtain ⟨el, hu⟩ := kS ht
 have ex := Qy hs x
 have ey := Qy hs y
 rw [hx] at ex
 rw [hy] at ey
 have e2 : a.eval y = .slice none 0 0 := cC ey
 have fin : ∀ q : Bool, (q = true → rows = []) → (Op.equal t (a.eval x) (.slice none 0 0)).run C.P w = .ok q w → (∀ cs, a.eval x ≠ .agg cs) → o.wp C.P a w (wpList C.P ops Q l) Q := by
  intro q hq2 hrun hna
  refine qB (w' := w) (v := .bool (if op = .eql then q else !q)) hd ?_ ?_
  ·have := dZ (P := C.P) (op := op) (t := t) (ox := x) (oy := y) (x := a.eval x) (y := a.eval y) w (.inl hna) (.inr (by rw [e2]; simp))
   rcases hop with rfl | rfl
   ·simp only [execOp, ho, Sem.run_bind] at this ⊢
    rw [this, e2]; simp [binOp, hrun]
   ·simp only [execOp, ho, Sem.run_bind] at this ⊢
    rw [this, e2]; simp [binOp, hrun]
  ·exact hk' q hq2 e _ w Q ⟨hok, g, hs.put hdn (.r (.v _))⟩ hq
 cases ex with
 | r ex =>
  generalize hz : a.eval x = z at ex fin
  cases ex with
  | nil => exact fin true (fun _ => rfl) (rT hu w) (by simp)
  | rs _ _ ad cap => exact fin false (fun h => by cases h) (mB hu w _ _ _) (by simp)
end
theorem FC.freeze {C : Ctx} {f : Nat} {args : List AV} {rs0 rs1 : List (Nat × Nat × Res)} {r r' : AV} (hf : FC C f args rs0 r rs1) {l : List Loc} (hb : Bor l (stR rs1) r r') (hd : isNd r = false) : FC C f args rs0 r' [] := by
 refine ⟨fun e g w vs hok hs hvs => (hf.run e g w vs hok hs hvs).mono ?_⟩
 rintro x w' ⟨v, g', rfl, hs', hv, _⟩
 have hno : ∀ b, ¬ own (stR []) g' b := fun b ⟨k, hk⟩ => hk.1 rfl
 obtain ⟨f1, _⟩ := hs'.final (rs1 := []) (fun k hk => by simp [domR, aB] at hk) (fun k => trivial)
 exact ⟨v, g', rfl, f1, wJ hb hs' (bU.1 (bU.2 fun _ _ => rfl)) (fun k b _ hk hN => hN.elim (hs'.low k b hk).2.2 (hno b)) (fun b hN => hN.elim .inl fun h => absurd h (hno b)) hd hv _ _, fun k hk => by simp [domR, aB] at hk⟩
theorem FC.freeze1 {C : Ctx} {f : Nat} {args : List AV} {rs0 : List (Nat × Nat × Res)} {el sz : Nat} {rows : List (List AV)} {rowsR : List (List RV)} (hf : FC C f args rs0 (.os 0 1) [(0, 1, .sl el sz rows)]) (hr : rows = rowsR.map fun r => r.map .r) : FC C f args rs0 (.r (.rs sz rowsR)) [] := by
 subst hr
 refine hf.freeze (l := [.R 0]) (.sl 0 1 el sz _ rowsR (List.mem_singleton.2 rfl) rfl (by simp) (fun i row rowR h1 h2 => ?_) (fun i j row rowR x y h1 h2 h3 h4 => ?_)) rfl
 ·rw [List.getElem?_map, h2] at h1
  simp at h1; subst h1; simp
 ·rw [List.getElem?_map, h2] at h1
  simp at h1; subst h1
  rw [List.getElem?_map, h4] at h3
  simp at h3; subst h3
  exact .same _ rfl
mutual
def frz (k ver : Nat) (y : RV) : AV → AV
 | .r x => .r x
 | .os j v => if j = k then (if v = ver then .r y else .os j v) else .os j v
 | .rf j v o => .rf j v o
 | .re j v s i o => .re j v s i o
 | .agg cs => .agg (frzL k ver y cs)
 | .tup cs => .tup (frzL k ver y cs)
 | .any => .any
 | .cl f cs => .cl f (frzL k ver y cs)
 | .nd e sz rows => .nd e sz rows
def frzL (k ver : Nat) (y : RV) : List AV → List AV
 | [] => []
 | x :: l => frz k ver y x :: frzL k ver y l
end
def frzT (k ver : Nat) (y : RV) : List (Nat × AV) → List (Nat × AV)
 | [] => []
 | (d, x) :: l => (d, frz k ver y x) :: frzT k ver y l
def frzR (k ver : Nat) (y : RV) : Res → Res
 | .gone => .gone
 | .bx cells => .bx (frzL k ver y cells)
 | .sl e sz rows => .sl e sz rows
 | .mp f n => .mp f n
def rK (k ver : Nat) (y : RV) : List (Nat × Nat × Res) → List (Nat × Nat × Res)
 | [] => []
 | (j, v, r) :: l => (if j = k then (j, ver + 1, .gone) else (j, v, frzR k ver y r)) :: rK k ver y l
def hJ (k ver : Nat) (y : RV) (st : St) : St := ⟨st.n, frzT k ver y st.t, rK k ver y st.rs⟩
theorem sG {k ver : Nat} {y : RV} : ∀ {l : List AV} (j : Nat), (frzL k ver y l)[j]? = (l[j]?).map (frz k ver y)
 | [], j => by simp [frzL]
 | x :: l, 0 => by simp [frzL]
 | x :: l, j + 1 => by simp only [frzL, List.getElem?_cons_succ]; exact sG j
theorem Mk {k ver : Nat} {y : RV} : ∀ {l : List AV}, frzL k ver y l = l.map (frz k ver y)
 | [] => rfl
 | x :: l => by simp only [frzL, List.map_cons, Mk (l := l)]
theorem Zh {k ver : Nat} {y : RV} (x : AV) (v : Value) : ndOf (frz k ver y x, v) = ndOf (x, v) := by
 cases x <;> first | rfl | (unfold frz; split; (split <;> rfl); rfl)
theorem aFm {k ver : Nat} {y : RV} {xs : List AV} {vs : List Value} : nds (frzL k ver y xs) vs = nds xs vs := by rw [Mk]; exact xE Zh
theorem sE {k ver : Nat} {y : RV} : ∀ {l : List AV}, (frzL k ver y l).length = l.length
 | [] => rfl
 | x :: l => by simp [frzL, sE]
theorem Ej {k ver : Nat} {y : RV} (d : Nat) : ∀ (l : List (Nat × AV)), bB d (frzT k ver y l) = frz k ver y (bB d l)
 | [] => rfl
 | (j, x) :: l => by
  simp only [frzT, bB]
  by_cases h : d = j
  ·rw [if_pos h, if_pos h]
  ·rw [if_neg h, if_neg h]; exact Ej d l
theorem yC {k ver : Nat} {y : RV} (j : Nat) (hj : j ≠ k) : ∀ (l : List (Nat × Nat × Res)), aB j (rK k ver y l) = ((aB j l).1, frzR k ver y (aB j l).2)
 | [] => rfl
 | (i, v, r) :: l => by
  by_cases hi : i = k
  ·simp only [rK, if_pos hi]
   show (if j = i then _ else aB j (rK k ver y l)) = _
   have : ¬ j = i := by omega
   rw [if_neg this]
   show _ = ((if j = i then (v, r) else aB j l).1, frzR k ver y (if j = i then (v, r) else aB j l).2)
   rw [if_neg this]; exact yC j hj l
  ·simp only [rK, if_neg hi]
   show (if j = i then (v, frzR k ver y r) else aB j (rK k ver y l)) = ((if j = i then (v, r) else aB j l).1, frzR k ver y (if j = i then (v, r) else aB j l).2)
   by_cases h : j = i
   ·rw [if_pos h, if_pos h]
   ·rw [if_neg h, if_neg h]; exact yC j hj l
theorem sL {k ver : Nat} {y : RV} : ∀ (l : List (Nat × Nat × Res)), (aB k l).2 ≠ .gone → aB k (rK k ver y l) = (ver + 1, .gone)
 | [], h => absurd rfl h
 | (i, v, r) :: l, h => by
  by_cases hi : i = k
  ·subst hi
   simp only [rK, if_true]
   show (if i = i then _ else _) = _
   rw [if_pos rfl]
  ·simp only [rK, if_neg hi]
   show (if k = i then (v, frzR k ver y r) else aB k (rK k ver y l)) = _
   rw [if_neg (Ne.symm hi)]
   refine sL l ?_
   have : aB k ((i, v, r) :: l) = aB k l := by show (if k = i then (v, r) else aB k l) = _; rw [if_neg (Ne.symm hi)]
   rwa [this] at h
theorem SR.frz {C : Ctx} {e : Env} {st : St} {g : Gh} {a : Act} {w : World} (h : SR C e st g a w) {k ver : Nat} {res : Res} {y : RV} (hk : aB k st.rs = (ver, res)) (hne : res ≠ .gone) (hb : Bor [.R k] st (.os k ver) (.r y)) : SR C e (hJ k ver y st) g a w := by
 have hgone : (aB k st.rs).2 ≠ .gone := by rw [hk]; exact hne
 have hself : aB k (hJ k ver y st).rs = (ver + 1, .gone) := sL st.rs hgone
 have hoth : ∀ j, j ≠ k → aB j (hJ k ver y st).rs = ((aB j st.rs).1, frzR k ver y (aB j st.rs).2) := fun j hj => yC j hj st.rs
 have hblk : ∀ j b, blk (hJ k ver y st) g j b → j ≠ k ∧ blk st g j b := fun j b hj => by
  by_cases hjk : j = k
  ·subst hjk; exact absurd (by rw [hself]) hj.1
  ·refine ⟨hjk, fun hc => hj.1 ?_, hj.2⟩
   rw [hoth j hjk, hc]; rfl
 have hown : ∀ b, own (hJ k ver y st) g b → own st g b := fun b ⟨j, hj⟩ => ⟨j, (hblk j b hj).2⟩
 have hN : ∀ b, e.N (hJ k ver y st) g b → e.N st g b := fun b hb => hb.imp id (hown b)
 have hNk : ∀ b, blk st g k b → ¬ e.N (hJ k ver y st) g b := fun b hbk hn => by
  rcases hn with hn | ⟨j, hj⟩
  ·exact (h.low k b hbk).2.2 hn
  ·obtain ⟨h1, h2⟩ := hblk j b hj
   exact h1 (h.uniq j k b h2 hbk)
 have hcu : st.cur k = ver := curk k hk
 have hc : ∀ j, st.cur j < (hJ k ver y st).cur j ∨ st.cur j = (hJ k ver y st).cur j ∧ g j = g j := fun j => by
  by_cases hj : j = k
  ·subst hj; left; rw [hcu]; simp only [St.cur, hself]; omega
  ·right; exact ⟨by simp only [St.cur, hoth j hj], rfl⟩
 have hx : Ext w (own st g) w (own (hJ k ver y st) g) := ⟨rfl, rfl, rfl, Nat.le_refl _, fun b _ hb => ⟨rfl, fun h1 => hb (hown b h1)⟩⟩
 have hval : ∀ x v, AR st.cur g w (e.N st g) x v → AR (hJ k ver y st).cur g w (e.N (hJ k ver y st) g) (Go.Proofs.YtbhnmolmkembdaaGreatDoor.frz k ver y x) v := by
  intro x v hv
  induction hv with
  | r h => exact .r (h.mono (Nat.le_refl _) (fun b _ hn => ⟨rfl, fun h' => hn (hN b h')⟩))
  | os j u v h1 h2 =>
   have keep : u ≠ ver ∨ j ≠ k → AR (hJ k ver y st).cur g w (e.N (hJ k ver y st) g) (.os j u) v := fun _ => by
    refine .os j u v h1 ?_
    rcases hc j with h3 | ⟨h3, _⟩
    ·rcases h2 with h2 | ⟨h2, _⟩
     ·left; omega
     ·left; omega
    ·rcases h2 with h2 | ⟨h2, h4⟩
     ·left; omega
     ·right; exact ⟨by omega, h4⟩
   unfold Go.Proofs.YtbhnmolmkembdaaGreatDoor.frz
   by_cases hj : j = k
   ·rw [if_pos hj]
    by_cases hu : u = ver
    ·rw [if_pos hu]
     subst hj; subst hu
     exact wJ hb h (fun _ _ => rfl) (fun i b hi hib => by simp at hi; subst hi; exact hNk b hib) hN rfl (.os j u v h1 h2) _ _
    ·rw [if_neg hu]; exact keep (.inl hu)
   ·rw [if_neg hj]; exact keep (.inr hj)
  | rf j u off v h1 h2 =>
   refine .rf j u off v h1 ?_
   rcases hc j with h3 | ⟨h3, _⟩ <;> rcases h2 with h2 | ⟨h2, h4⟩
   ·left; omega
   ·left; omega
   ·left; omega
   ·right; exact ⟨by omega, h4⟩
  | re j u sz i off v h1 h2 =>
   refine .re j u sz i off v h1 ?_
   rcases hc j with h3 | ⟨h3, _⟩ <;> rcases h2 with h2 | ⟨h2, h4⟩
   ·left; omega
   ·left; omega
   ·left; omega
   ·right; exact ⟨by omega, h4⟩
  | agg cs xs hs _ ih =>
   refine .agg _ xs (by rw [sE]; exact hs) fun j x y hx hy => ?_
   rw [sG] at hx
   cases hcs : cs[j]? with
   | none => simp [hcs] at hx
   | some z => simp [hcs] at hx; subst hx; exact ih j z y hcs hy
  | tup cs xs hs _ ih =>
   refine .tup _ xs (by rw [sE]; exact hs) fun j x y hx hy => ?_
   rw [sG] at hx
   cases hcs : cs[j]? with
   | none => simp [hcs] at hx
   | some z => simp [hcs] at hx; subst hx; exact ih j z y hcs hy
  | any v => exact .any v
  | cl f cs xs hs _ ih =>
   refine .cl f _ xs (by rw [sE]; exact hs) fun j x y hx hy => ?_
   rw [sG] at hx
   cases hcs : cs[j]? with
   | none => simp [hcs] at hx
   | some z => simp [hcs] at hx; subst hx; exact ih j z y hcs hy
  | nd e sz rows v => exact .nd e sz rows v
 refine ⟨h.defers, h.size, fun d => ?_, fun j => ?_, fun j j' b hj hj' => h.uniq j j' b (hblk j b hj).2 (hblk j' b hj').2, fun j b hj => h.low j b (hblk j b hj).2, h.ext.trans hx, mY h.hist hc⟩
 ·rw [show (hJ k ver y st).t = frzT k ver y st.t from rfl, Ej]; exact hval _ _ (h.temps d)
 ·by_cases hj : j = k
  ·subst hj; rw [hself]; trivial
  ·rw [hoth j hj]
   have hr := h.res j
   show ResR _ _ _ _ _ (frzR k ver y (aB j st.rs).2)
   revert hr
   cases (aB j st.rs).2 with
   | gone => intro _; trivial
   | bx cells =>
    rintro ⟨b, C', el, h1, h2, h3, h4, h5⟩
    refine ⟨b, C', el, h1, h2, by rw [sE]; exact h3, fun i x y' hx' hy' => ?_, by rw [aFm]; exact h5.lift (Nat.le_refl _) (pC hx) fun _ _ => rfl⟩
    rw [sG] at hx'
    cases hcs : cells[i]? with
    | none => simp [hcs] at hx'
    | some z => simp [hcs] at hx'; subst hx'; exact hval _ _ (h4 i z y' hcs hy')
   | sl el sz rows =>
    rintro ⟨xs, h1, h2, h3, h5⟩
    exact ⟨xs, h1, h2, fun i i' row x y' hi hj' hy' => (h3 i i' row x y' hi hj' hy').mono (Nat.le_refl _) (fun b _ hn => ⟨rfl, fun h' => hn (hN b h')⟩) hc, h5.lift (Nat.le_refl _) (pC hx) fun _ _ => rfl⟩
   | mp f n => exact id
theorem aKt {st : St} {k ver : Nat} {row : List RV} (hk : aB k st.rs = (ver, .bx (row.map .r))) : Bor [.R k] st (.os k ver) (.r (.rp row)) := by
 refine .bx k ver _ row (List.mem_singleton.2 rfl) hk (by simp) fun j x y hx hy => ?_
 rw [List.getElem?_map, hy] at hx
 simp at hx; subst hx
 exact .same _ rfl
theorem Ht {st : St} {k ver el sz : Nat} {rowsR : List (List RV)} (hk : aB k st.rs = (ver, .sl el sz (rowsR.map fun r => r.map .r))) : Bor [.R k] st (.os k ver) (.r (.rs sz rowsR)) := by
 refine .sl k ver el sz _ rowsR (List.mem_singleton.2 rfl) hk (by simp) (fun i row rowR h1 h2 => ?_) fun i j row rowR x y h1 h2 h3 h4 => ?_
 ·rw [List.getElem?_map, h2] at h1
  simp at h1; subst h1; simp
 ·rw [List.getElem?_map, h2] at h1
  simp at h1; subst h1
  rw [List.getElem?_map, h4] at h3
  simp at h3; subst h3
  exact .same _ rfl
section
variable {C : Ctx} {T : List (Ct C)} {r : List It} {st st' : St} {K : Exit → St → Prop}
theorem aG7 (k : Nat) {ver : Nat} {cells : List AV} {row : List RV} (hk : aB k st.rs = (ver, .bx cells)) (hc : roL cells = some row) (hr : hasC r = true) (hst : ∀ K0 : St → Prop, Imp (K0 st') (K0 (hJ k ver (.rp row) st))) (hk2 : Rn C T r st' K) : Rn C T r st K := by
 have hk' := (hst fun s => Rn C T r s K).run hk2
 refine tY hr (fun e a w ⟨ho, g, hs⟩ => ?_) hk'
 have := Iu hc
 subst this
 exact ⟨ho, g, hs.frz hk (by simp) (aKt hk)⟩
theorem gU (k : Nat) {ver el sz : Nat} {rows : List (List AV)} (rowsR : List (List RV)) (hk : aB k st.rs = (ver, .sl el sz rows)) (hc : rows = rowsR.map fun r => r.map .r) (hr : hasC r = true) (hst : ∀ K0 : St → Prop, Imp (K0 st') (K0 (hJ k ver (.rs sz rowsR) st))) (hk2 : Rn C T r st' K) : Rn C T r st K := by
 have hk' := (hst fun s => Rn C T r s K).run hk2
 refine tY hr (fun e a w ⟨ho, g, hs⟩ => ?_) hk'
 subst hc
 exact ⟨ho, g, hs.frz hk (by simp) (Ht hk)⟩
end
mutual
def bmp (k v v' : Nat) : AV → AV
 | .r x => .r x
 | .os j u => if j = k then (if u = v then .os j v' else .os j u) else .os j u
 | .rf j u o => .rf j u o
 | .re j u s i o => .re j u s i o
 | .agg cs => .agg (bmpL k v v' cs)
 | .tup cs => .tup (bmpL k v v' cs)
 | .any => .any
 | .cl f cs => .cl f (bmpL k v v' cs)
 | .nd e sz rows => .nd e sz rows
def bmpL (k v v' : Nat) : List AV → List AV
 | [] => []
 | x :: l => bmp k v v' x :: bmpL k v v' l
end
def bmpT (k v v' : Nat) : List (Nat × AV) → List (Nat × AV)
 | [] => []
 | (d, x) :: l => (d, bmp k v v' x) :: bmpT k v v' l
def bmpR (k v v' : Nat) : Res → Res
 | .gone => .gone
 | .bx cells => .bx (bmpL k v v' cells)
 | .sl e sz rows => .sl e sz rows
 | .mp f n => .mp f n
def rL (k v v' : Nat) : List (Nat × Nat × Res) → List (Nat × Nat × Res)
 | [] => []
 | (j, u, r) :: l => (j, (if j = k then v' else u), bmpR k v v' r) :: rL k v v' l
def De (k v' : Nat) (st : St) : St :=
 if (aB k st.rs).1 ≤ v' then ⟨st.n, bmpT k (aB k st.rs).1 v' st.t, rL k (aB k st.rs).1 v' st.rs⟩ else st
def vA : List (Nat × Nat) → St → St
 | [], st => st
 | (k, v) :: l, st => vA l (De k v st)
theorem rO {k v v' : Nat} : ∀ {l : List AV} (j : Nat), (bmpL k v v' l)[j]? = (l[j]?).map (bmp k v v')
 | [], j => by simp [bmpL]
 | x :: l, 0 => by simp [bmpL]
 | x :: l, j + 1 => by simp only [bmpL, List.getElem?_cons_succ]; exact rO j
theorem Mu {k v v' : Nat} : ∀ {l : List AV}, bmpL k v v' l = l.map (bmp k v v')
 | [] => rfl
 | x :: l => by simp only [bmpL, List.map_cons, Mu (l := l)]
theorem aBw {k v v' : Nat} (x : AV) (y : Value) : ndOf (bmp k v v' x, y) = ndOf (x, y) := by
 cases x <;> first | rfl | (unfold bmp; split; (split <;> rfl); rfl)
theorem aGo {k v v' : Nat} {xs : List AV} {vs : List Value} : nds (bmpL k v v' xs) vs = nds xs vs := by rw [Mu]; exact xE aBw
theorem Qi {z x : AV} (hz : isNd z = false) (hx : isNd x = false) : ∀ {xs : List AV} {j : Nat} {vs : List Value}, xs[j]? = some z → nds (xs.set j x) vs = nds xs vs
 | [], j, vs, h => by simp at h
 | y :: xs, 0, [], h => rfl
 | y :: xs, 0, v :: vs, h => by
  simp at h; subst h
  show ((x, v) :: xs.zip vs).filterMap ndOf = ((y, v) :: xs.zip vs).filterMap ndOf
  rw [List.filterMap_cons_none (xD hx v), List.filterMap_cons_none (xD hz v)]
 | y :: xs, j + 1, [], h => rfl
 | y :: xs, j + 1, v :: vs, h => by
  show ((y, v) :: (xs.set j x).zip vs).filterMap ndOf = ((y, v) :: xs.zip vs).filterMap ndOf
  rw [List.filterMap_cons, List.filterMap_cons, show List.filterMap ndOf ((xs.set j x).zip vs) = List.filterMap ndOf (xs.zip vs) from Qi hz hx (by simpa using h)]
theorem sR {k v v' : Nat} : ∀ {l : List AV}, (bmpL k v v' l).length = l.length
 | [] => rfl
 | x :: l => by simp [bmpL, sR]
theorem Ef {k v v' : Nat} (d : Nat) : ∀ (l : List (Nat × AV)), bB d (bmpT k v v' l) = bmp k v v' (bB d l)
 | [] => rfl
 | (j, x) :: l => by
  simp only [bmpT, bB]
  by_cases h : d = j
  ·rw [if_pos h, if_pos h]
  ·rw [if_neg h, if_neg h]; exact Ef d l
theorem Eu {k v v' : Nat} (j : Nat) : ∀ (l : List (Nat × Nat × Res)), aB j (rL k v v' l) = ((if j = k ∧ l.any (fun p => p.1 == j) = true then v' else (aB j l).1), bmpR k v v' (aB j l).2)
 | [] => by simp [rL, aB, bmpR]
 | (i, u, r) :: l => by
  have e1 : aB j (rL k v v' ((i, u, r) :: l)) = if j = i then ((if i = k then v' else u), bmpR k v v' r) else aB j (rL k v v' l) := rfl
  have e2 : aB j ((i, u, r) :: l) = if j = i then (u, r) else aB j l := rfl
  rw [e1, e2]
  by_cases h : j = i
  ·subst h; simp
  ·rw [if_neg h, if_neg h, Eu j l]
   have : (i == j) = false := by simpa using Ne.symm h
   simp only [List.any_cons, this, Bool.false_or]
theorem SR.bmp {C : Ctx} {e : Env} {st : St} {g : Gh} {a : Act} {w : World} (h : SR C e st g a w) {k v' : Nat} (hv : (aB k st.rs).1 ≤ v') (hin : st.rs.any (fun p => p.1 == k) = true) : SR C e ⟨st.n, bmpT k (aB k st.rs).1 v' st.t, rL k (aB k st.rs).1 v' st.rs⟩ g a w := by
 obtain ⟨v, hvk⟩ : ∃ v, (aB k st.rs).1 = v := ⟨_, rfl⟩
 rw [hvk] at hv ⊢
 generalize hst : (⟨st.n, bmpT k v v' st.t, rL k v v' st.rs⟩ : St) = st'
 have ht : st'.t = bmpT k v v' st.t := by rw [← hst]
 have hrs : st'.rs = rL k v v' st.rs := by rw [← hst]
 have hlook : ∀ j, aB j st'.rs = ((if j = k then v' else (aB j st.rs).1), bmpR k v v' (aB j st.rs).2) := fun j => by
  rw [hrs, Eu]
  by_cases hj : j = k
  ·subst hj; simp [hin]
  ·simp [hj]
 have hblk : ∀ j, blk st' g j = blk st g j := fun j => by
  funext b
  unfold blk
  rw [hlook]
  cases (aB j st.rs).2 <;> simp [bmpR]
 have hown : ∀ b, own st' g b ↔ own st g b := fun b => ⟨fun ⟨j, hj⟩ => ⟨j, by rw [← hblk]; exact hj⟩, fun ⟨j, hj⟩ => ⟨j, by rw [hblk]; exact hj⟩⟩
 have hN : ∀ b, e.N st' g b → e.N st g b := fun b hb => hb.imp id (hown b).1
 have hcu : st.cur k = v := hvk
 have hc : ∀ j, st.cur j < st'.cur j ∨ st.cur j = st'.cur j ∧ g j = g j := fun j => by
  by_cases hj : j = k
  ·subst hj
   have h2 : st'.cur j = v' := by simp only [St.cur, hlook, if_true]
   rw [hcu, h2]
   rcases Nat.lt_or_ge v v' with h3 | h3
   ·exact .inl h3
   ·exact .inr ⟨by omega, rfl⟩
  ·right; exact ⟨by simp only [St.cur, hlook, if_neg hj], rfl⟩
 have hx : Ext w (own st g) w (own st' g) := ⟨rfl, rfl, rfl, Nat.le_refl _, fun b _ hb => ⟨rfl, fun h1 => hb ((hown b).1 h1)⟩⟩
 have hval : ∀ x y, AR st.cur g w (e.N st g) x y → AR st'.cur g w (e.N st' g) (Go.Proofs.YtbhnmolmkembdaaGreatDoor.bmp k v v' x) y := by
  intro x y hv'
  induction hv' with
  | r h => exact .r (h.mono (Nat.le_refl _) (fun b _ hn => ⟨rfl, fun h' => hn (hN b h')⟩))
  | os j u y h1 h2 =>
   unfold Go.Proofs.YtbhnmolmkembdaaGreatDoor.bmp
   by_cases hj : j = k
   ·subst hj
    have hcu' : st'.cur j = v' := by simp only [St.cur, hlook, if_true]
    rw [if_pos rfl]
    by_cases hu : u = v
    ·rw [if_pos hu]
     refine .os j v' y h1 (.inr ⟨hcu'.symm, ?_⟩)
     rcases h2 with h2 | ⟨_, h2⟩
     ·omega
     ·exact h2
    ·rw [if_neg hu]
     refine .os j u y h1 (.inl ?_)
     rcases h2 with h2 | ⟨h2, _⟩ <;> omega
   ·rw [if_neg hj]
    refine .os j u y h1 ?_
    have : st'.cur j = st.cur j := by simp only [St.cur, hlook, if_neg hj]
    rw [this]; exact h2
  | rf j u off y h1 h2 =>
   refine .rf j u off y h1 ?_
   rcases hc j with h3 | ⟨h3, _⟩ <;> rcases h2 with h2 | ⟨h2, h4⟩
   ·left; omega
   ·left; omega
   ·left; omega
   ·right; exact ⟨by omega, h4⟩
  | re j u sz i off y h1 h2 =>
   refine .re j u sz i off y h1 ?_
   rcases hc j with h3 | ⟨h3, _⟩ <;> rcases h2 with h2 | ⟨h2, h4⟩
   ·left; omega
   ·left; omega
   ·left; omega
   ·right; exact ⟨by omega, h4⟩
  | agg cs xs hs _ ih =>
   refine .agg _ xs (by rw [sR]; exact hs) fun j x y hx hy => ?_
   rw [rO] at hx
   cases hcs : cs[j]? with
   | none => simp [hcs] at hx
   | some z => simp [hcs] at hx; subst hx; exact ih j z y hcs hy
  | tup cs xs hs _ ih =>
   refine .tup _ xs (by rw [sR]; exact hs) fun j x y hx hy => ?_
   rw [rO] at hx
   cases hcs : cs[j]? with
   | none => simp [hcs] at hx
   | some z => simp [hcs] at hx; subst hx; exact ih j z y hcs hy
  | any v => exact .any v
  | cl f cs xs hs _ ih =>
   refine .cl f _ xs (by rw [sR]; exact hs) fun j x y hx hy => ?_
   rw [rO] at hx
   cases hcs : cs[j]? with
   | none => simp [hcs] at hx
   | some z => simp [hcs] at hx; subst hx; exact ih j z y hcs hy
  | nd e sz rows v => exact .nd e sz rows v
 refine ⟨h.defers, by rw [← hst]; exact h.size, fun d => ?_, fun j => ?_, fun j j' b hj hj' => h.uniq j j' b (hblk j ▸ hj) (hblk j' ▸ hj'), fun j b hj => h.low j b (hblk j ▸ hj), h.ext.trans hx, mY h.hist hc⟩
 ·rw [ht, Ef]; exact hval _ _ (h.temps d)
 ·rw [hlook]
  have hr := h.res j
  show ResR _ _ _ _ _ (bmpR k v v' (aB j st.rs).2)
  revert hr
  cases (aB j st.rs).2 with
  | gone => intro _; trivial
  | bx cells =>
   rintro ⟨b, C', el, h1, h2, h3, h4, h5⟩
   refine ⟨b, C', el, h1, h2, by rw [sR]; exact h3, fun i x y' hx' hy' => ?_, by rw [aGo]; exact h5.lift (Nat.le_refl _) (pC hx) fun _ _ => rfl⟩
   rw [rO] at hx'
   cases hcs : cells[i]? with
   | none => simp [hcs] at hx'
   | some z => simp [hcs] at hx'; subst hx'; exact hval _ _ (h4 i z y' hcs hy')
  | sl el sz rows =>
   rintro ⟨xs, h1, h2, h3, h5⟩
   exact ⟨xs, h1, h2, fun i i' row x y' hi hj' hy' => (h3 i i' row x y' hi hj' hy').mono (Nat.le_refl _) (fun b _ hn => ⟨rfl, fun h' => hn (hN b h')⟩) hc, h5.lift (Nat.le_refl _) (pC hx) fun _ _ => rfl⟩
  | mp f n => exact id
theorem aGp {C : Ctx} {e : Env} {st : St} {a : Act} {w : World} (h : S C e st a w) {k v : Nat} (hin : st.rs.any (fun p => p.1 == k) = true) : S C e (De k v st) a w := by
 unfold De
 split
 ·rename_i hle
  obtain ⟨ho, g, hs⟩ := h
  exact ⟨ho, g, hs.bmp hle hin⟩
 ·exact h
theorem Fc {k v v' j : Nat} : ∀ (l : List (Nat × Nat × Res)), (rL k v v' l).any (fun p => p.1 == j) = l.any (fun p => p.1 == j)
 | [] => rfl
 | (i, u, r) :: l => by simp only [rL, List.any_cons]; rw [Fc l]
theorem Da {C : Ctx} {e : Env} {a : Act} {w : World} : ∀ {bs : List (Nat × Nat)} {st : St}, S C e st a w → bs.all (fun b => st.rs.any fun p => p.1 == b.1) = true → S C e (vA bs st) a w
 | [], _, h, _ => h
 | (k, v) :: l, st, h, hin => by
  simp only [List.all_cons, Bool.and_eq_true] at hin
  show S C e (vA l (De k v st)) a w
  refine Da (aGp h hin.1) ?_
  have : ∀ j, (De k v st).rs.any (fun p => p.1 == j) = st.rs.any (fun p => p.1 == j) := fun j => by
   unfold De
   split
   ·exact Fc _
   ·rfl
  refine Eq.trans ?_ hin.2
  exact congrArg (fun f => l.all f) (funext fun b => this b.1)
def Ws (C : Ctx) (rl : List ResultVar) (r : AV) (rs1 : List (Nat × Nat × Res)) (bs : List (Nat × Nat)) (x : Exit) (st : St) : Prop :=
 bs.all (fun b => st.rs.any fun p => p.1 == b.1) = true ∧ FinM C rl r rs1 x (vA bs st)
theorem Mv {C : Ctx} {c : Code} {st : St} {K : Exit → St → Prop} (h : lwp C c st fun x s => ∃ s', (∀ e a w, S C e s a w → S C e s' a w) ∧ K x s') : lwp C c st K :=
 fun e a w hs => wp_mono (h e a w hs) fun _ _ _ ⟨_, h1, s', h2, h3⟩ => ⟨s', h2 _ _ _ h1, h3⟩
theorem iU {C : Ctx} (T : List (Ct C)) {f : Nat} {fn : Func} {body : Code} {args : List AV} {rs0 rs1 : List (Nat × Nat × Res)} {r : AV} (bs : List (Nat × Nat)) (hf : C.P.funcs[f]? = some fn) (hb : fn.body = some body) {nt : Nat} (hnt : fn.ntmps = nt) (hn : args.length ≤ nt) {rl : List ResultVar} (hr : fn.results = rl.toArray)
  (hw : bK (domR rs1) r = true) (hi : ∀ k, bP (domR rs1) (aB k rs1).2) (h : Rn C T [.c body] ⟨nt, argT 0 args, rs0⟩ (Ws C rl r rs1 bs)) : FC C f args rs0 r rs1 := by
 subst hnt
 unfold Rn at h
 refine Gd hf hb hn (Mv (nF (h : lwp C body _ (ck C [] (Ws C rl r rs1 bs))) fun x s hx => ?_))
 have key : ∀ (s' : St) (hq : (resG s' C.P rl fun xs => resV xs = r) ∧ subR s' rs1) (hx : x = .normal ∨ x = .ret), Fin C fn r rs1 x s' := fun s' hq hx => by
  obtain ⟨xs, h1, h2⟩ := qD hq.1
  exact ⟨hx, ⟨xs, by rw [hr]; exact h1, h2.symm⟩, Ga hq.2, hw, hi⟩
 cases x with
 | normal => exact ⟨vA bs s, fun e a w hs => Da hs hx.1, key _ hx.2 (.inl rfl)⟩
 | ret => exact ⟨vA bs s, fun e a w hs => Da hs hx.1, key _ hx.2 (.inr rfl)⟩
 | _ => exact (hx.2 : False).elim
theorem SR.tellB {C : Ctx} {e : Env} {st : St} {g : Gh} {a : Act} {w : World} (h : SR C e st g a w) {k ver j : Nat} {cells : List AV} {x z : AV} (hk : aB k st.rs = (ver, .bx cells)) (hj : cells[j]? = some z) (hz : isNd z = false) (hx : isNd x = false) (hv : ∀ y, AR st.cur g w (e.N st g) z y → AR st.cur g w (e.N st g) x y) :
  SR C e { st with rs := putR k (ver, .bx (cells.set j x)) st.rs } g a w := by
 generalize hst : ({ st with rs := putR k (ver, .bx (cells.set j x)) st.rs } : St) = st'
 have hlook : ∀ i, aB i st'.rs = if i = k then (ver, .bx (cells.set j x)) else aB i st.rs := fun i => by rw [← hst]; exact cX i k _ _
 have ht : st'.t = st.t := by rw [← hst]
 have hcur : st'.cur = st.cur := funext fun i => by
  simp only [St.cur, hlook]
  by_cases hi : i = k
  ·subst hi; rw [if_pos rfl, hk]
  ·rw [if_neg hi]
 have hblk : ∀ i, blk st' g i = blk st g i := fun i => by
  unfold blk
  rw [hlook]
  by_cases hi : i = k
  ·subst hi; funext b; rw [if_pos rfl, hk]; simp
  ·rw [if_neg hi]
 have hown : own st' g = own st g := funext fun b => propext ⟨fun ⟨i, hi⟩ => ⟨i, by rw [← hblk]; exact hi⟩, fun ⟨i, hi⟩ => ⟨i, by rw [hblk]; exact hi⟩⟩
 have hN : e.N st' g = e.N st g := by unfold Env.N; rw [hown]
 refine ⟨h.defers, by rw [← hst]; exact h.size, fun d => by rw [hcur, hN, ht]; exact h.temps d, fun i => ?_, fun i i' b hi hi' => h.uniq i i' b (hblk i ▸ hi) (hblk i' ▸ hi'), fun i b hi => h.low i b (hblk i ▸ hi), by rw [hown]; exact h.ext, by rw [hcur]; exact h.hist⟩
 rw [hcur, hN, hlook]
 by_cases hi : i = k
 ·subst hi
  rw [if_pos rfl]
  have hr := h.res i
  rw [hk] at hr
  obtain ⟨b, C', el, h1, h2, h3, h4, h5⟩ := hr
  refine ⟨b, C', el, h1, h2, by rw [List.length_set]; exact h3, fun i' x' y' hx' hy' => ?_, by rw [Qi hz hx hj]; exact h5⟩
  rw [List.getElem?_set] at hx'
  by_cases hji : j = i'
  ·subst hji
   have hlt := (List.getElem?_eq_some_iff.1 hj).1
   simp [hlt] at hx'
   subst hx'
   exact hv _ (h4 j z y' hj hy')
  ·rw [if_neg hji] at hx'
   exact h4 i' x' y' hx' hy'
 ·rw [if_neg hi]; exact h.res i
section
variable {C : Ctx} {T : List (Ct C)} {r : List It} {st st' : St} {K : Exit → St → Prop}
theorem Pa (k j k' el sz : Nat) {ver : Nat} {cells : List AV} (hk : aB k st.rs = (ver, .bx cells)) (hkk : k ≠ k') (hj : cells[j]? = some NilS) (hr : hasC r = true)
  (hst : ∀ K0 : St → Prop, Imp (K0 st') (K0 { st with rs := putR k (ver, .bx (cells.set j (.os k' (st.cur k' + 1)))) (putR k' (st.cur k' + 1, .sl el sz []) st.rs) })) (hk2 : Rn C T r st' K) : Rn C T r st K := by
 have hk' := (hst fun s => Rn C T r s K).run hk2
 refine tY hr (fun e a w ⟨ho, g, hs⟩ => ?_) hk'
 obtain ⟨h1, _⟩ := hs.turn k' (st.cur k' + 1) (.sl el sz []) (.slice none 0 0) [] rfl rfl rfl (Nat.le_refl _) (fun _ _ _ => rfl) (.inl (Nat.lt_succ_self _)) (fun b _ hb => by simp [bV] at hb) ho
  (fun st' g' _ hg _ _ => ⟨[], by rw [hg]; show w.ownsRow 0 el sz (gput g k' (.slice none 0 0) [] k') 0 []; rw [show gput g k' (.slice none 0 0) [] k' = .slice none 0 0 from if_pos rfl]; exact World.ownsRow_nil w 0 el sz, fun row hr => by simp at hr, fun i j row x y hi => by simp at hi, by rw [hg, show (gput g k' (.slice none 0 0) []).f k' = [] from if_pos rfl]; exact .none⟩)
 have hk1 : aB k ({ st with rs := putR k' (st.cur k' + 1, .sl el sz []) st.rs } : St).rs = (ver, .bx cells) := by
  show aB k (putR k' _ st.rs) = _
  rw [cX, if_neg hkk]; exact hk
 refine ⟨ho, _, h1.tellB (j := j) hk1 hj rfl rfl fun y hy => ?_⟩
 rw [cC hy]
 exact .os k' _ _ rfl (.inr ⟨by show st.cur k' + 1 = (aB k' (putR k' _ st.rs)).1; rw [cX, if_pos rfl], (if_pos rfl).symm⟩)
end
def mpS : List (Nat × Nat × Nat) → Nat → Nat
 | [], k => k
 | (j, c, _) :: l, k => if k = j then c else mpS l k
def mpD : List (Nat × Nat × Nat) → Nat → Nat
 | [], _ => 0
 | (j, _, d) :: l, k => if k = j then d else mpD l k
def ndB : List Nat → Bool
 | [] => true
 | x :: l => !memN x l && ndB l
theorem Ky {x : Nat} : ∀ {l : List Nat}, memN x l = true ↔ x ∈ l
 | [] => by simp [memN]
 | y :: l => by
  have := Ky (x := x) (l := l)
  simp [memN, this]
theorem Ca : ∀ {l : List Nat}, ndB l = true → l.Nodup
 | [], _ => List.nodup_nil
 | x :: l, h => by
  simp only [ndB, Bool.and_eq_true, Bool.not_eq_true'] at h
  refine List.nodup_cons.2 ⟨fun hx => ?_, Ca h.2⟩
  rw [Ky.2 hx] at h
  cases h.1
theorem Il : ∀ {m : List (Nat × Nat × Nat)} {k : Nat}, k ∈ m.map (·.1) → mpS m k ∈ m.map (·.2.1)
 | (j, c, d) :: l, k, h => by
  unfold mpS
  by_cases hk : k = j
  ·rw [if_pos hk]; exact List.mem_cons_self ..
  ·rw [if_neg hk]
   rcases List.mem_cons.1 h with h1 | h1
   ·exact absurd h1 hk
   ·exact List.mem_cons_of_mem _ (Il h1)
theorem Rw : ∀ {m : List (Nat × Nat × Nat)}, (m.map (·.2.1)).Nodup → ∀ j ∈ m.map (·.1), ∀ k ∈ m.map (·.1), mpS m j = mpS m k → j = k
 | (i, c, d) :: l, hn, j, hj, k, hk, he => by
  have hn' : c ∉ l.map (·.2.1) ∧ (l.map (·.2.1)).Nodup := List.nodup_cons.1 hn
  unfold mpS at he
  by_cases h1 : j = i <;> by_cases h2 : k = i
  ·rw [h1, h2]
  ·rw [if_pos h1, if_neg h2] at he
   rcases List.mem_cons.1 hk with h3 | h3
   ·exact absurd h3 h2
   ·exact absurd (he ▸ Il h3) hn'.1
  ·rw [if_neg h1, if_pos h2] at he
   rcases List.mem_cons.1 hj with h3 | h3
   ·exact absurd h3 h1
   ·exact absurd (he ▸ Il h3) hn'.1
  ·rw [if_neg h1, if_neg h2] at he
   rcases List.mem_cons.1 hj with h3 | h3
   ·exact absurd h3 h1
   ·rcases List.mem_cons.1 hk with h4 | h4
    ·exact absurd h4 h2
    ·exact Rw hn'.2 j h3 k h4 he
theorem zP : ∀ {rs : List (Nat × Nat × Res)} {k : Nat}, domR rs k = true → (k, aB k rs) ∈ rs
 | [], k, h => by simp [domR, aB] at h
 | (j, x) :: l, k, h => by
  have e : aB k ((j, x) :: l) = if k = j then x else aB k l := rfl
  by_cases hk : k = j
  ·rw [e, if_pos hk, hk]; exact List.mem_cons_self ..
  ·rw [e, if_neg hk]
   refine List.mem_cons_of_mem _ (zP ?_)
   unfold domR at h ⊢
   rwa [e, if_neg hk] at h
theorem dI.gen {C : Ctx} {f : Nat} {st : St} {args0 : List AV} {r0 : AV} {rs0 rs1 : List (Nat × Nat × Res)} (hfc : FC C f args0 rs0 r0 rs1) (m : List (Nat × Nat × Nat))
  (hm : ((rs0 ++ rs1).all fun p => m.any fun q => q.1 == p.1) = true) (hnd : (m.map (·.2.1)).Nodup) (ha : aX (domR rs0) args0 = true) (hr : bK (domR rs1) r0 = true)
  (hi0 : ∀ p ∈ rs0, bP (domR rs0) p.2.2) (hi1 : ∀ p ∈ rs1, bP (domR rs1) p.2.2)
  (h0 : ∀ p ∈ rs0, aB (mpS m p.1) st.rs = (p.2.1 + mpD m p.1, dQ (mpS m) (mpD m) p.2.2))
  (hn : ∀ q ∈ m, domR rs0 q.1 = false → domR rs1 q.1 = true → st.cur (mpS m q.1) < (aB q.1 rs1).1 + mpD m q.1) :
  dI C f st (renL (mpS m) (mpD m) args0) (ren (mpS m) (mpD m) r0) (m.map fun q => .R (mpS m q.1)) (m.map fun q => (.R (mpS m q.1), .s (jT (mpD m) (mpS m) rs1 st q.1) (dQ (mpS m) (mpD m) (aB q.1 rs1).2))) := by
 have hin : ∀ (rs : List (Nat × Nat × Res)), (∀ p ∈ rs, p ∈ rs0 ++ rs1) → ∀ k, domR rs k = true → k ∈ m.map (·.1) := fun rs hsub k hk => by
  have h1 := List.all_eq_true.1 hm _ (hsub _ (zP hk))
  obtain ⟨q, hq, he⟩ := List.any_eq_true.1 h1
  exact List.mem_map.2 ⟨q, hq, by simpa using he⟩
 have hres : ∀ (rs : List (Nat × Nat × Res)) (ok : Nat → Bool), (∀ p ∈ rs, bP ok p.2.2) → ∀ k, bP ok (aB k rs).2 := fun rs ok h k => by
  by_cases hd : domR rs k = true
  ·exact h _ (zP hd)
  ·rw [Gg hd]; trivial
 refine ⟨args0, rs0, r0, rs1, mpS m, mpD m, m.map (·.1), hfc, rfl, ha, rfl, hr, hin rs0 fun p hp => List.mem_append_left _ hp, hin rs1 fun p hp => List.mem_append_right _ hp, Rw hnd, hres _ _ hi0, hres _ _ hi1, fun k hk => h0 _ (zP hk), fun k hk d0 d1 => ?_, ?_, ?_⟩
 ·obtain ⟨q, hq, rfl⟩ := List.mem_map.1 hk
  exact hn q hq d0 d1
 ·rw [List.map_map]; rfl
 ·rw [List.map_map]; rfl
def roLL : List (List AV) → Option (List (List RV))
 | [] => some []
 | x :: l => match roL x, roLL l with
  | some r, some rs => some (r :: rs)
  | _, _ => none
theorem Ge : ∀ {rows : List (List AV)} {rowsR : List (List RV)}, roLL rows = some rowsR → rows = rowsR.map fun r => r.map .r
 | [], rowsR, h => by cases h; rfl
 | x :: l, rowsR, h => by
  unfold roLL at h
  split at h
  ·rename_i r rs h1 h2
   cases h
   rw [Iu h1, Ge h2]; rfl
  ·cases h
theorem aDw {C : Ctx} {T : List (Ct C)} {r : List It} {st st' : St} {K : Exit → St → Prop} (k : Nat) {ver el sz : Nat} {rows : List (List AV)} {rowsR : List (List RV)} (hk : aB k st.rs = (ver, .sl el sz rows)) (hc : roLL rows = some rowsR) (hr : hasC r = true) (hst : ∀ K0 : St → Prop, Imp (K0 st') (K0 (hJ k ver (.rs sz rowsR) st))) (hk2 : Rn C T r st' K) : Rn C T r st K :=
 gU k rowsR hk (Ge hc) hr hst hk2
structure Gw {C : Ctx} (T : List (Ct C)) (L : List (Nat × List Nat)) (n : Nat) (B A : Prop) : Prop where
 run : B → A
structure Br (q : Bool) (B1 B2 : Prop) : Prop where
 h1 : q = true → B1
 h2 : q = false → B2
def eM (id : Nat) : List (Nat × List Nat) → List (Nat × List Nat)
 | [] => []
 | (k, x) :: l => if id = k then eM id l else (k, x) :: eM id l
section
variable {C : Ctx} {T : List (Ct C)} {L : List (Nat × List Nat)} {n : Nat} {B B1 B2 : Prop} {r r' r'' : List It} {st st' : St} {K : Exit → St → Prop} {A : St → Prop}
variable {k k' : Nat} {done done' : List (Nat × Nat)} {o : Oper} {l : List Oper} {j d d' : Nat} {b w q : Bool} {x : AV}
variable {fps fps' : List (List Loc × List Loc)} {edges : List (List Nat)} {rds : List Loc} {ws : List (Loc × Cont)}
theorem Gw.leaf {A : Prop} : Gw T L n A A := ⟨id⟩
theorem Gw.seq {a b : Code} (h : Gw T L n B (Rn C T (.c a :: .c b :: r) st K)) : Gw T L n B (Rn C T (.c (.seq a b) :: r) st K) := ⟨fun hb0 => kK (h.run hb0)⟩
theorem Gw.block {id : Nat} {a : Code} (h : Gw T L n B (Rn C T (.c a :: .b id :: r) st K)) : Gw T L n B (Rn C T (.c (.block id a) :: r) st K) := ⟨fun hb0 => iE (h.run hb0)⟩
theorem Gw.op (hg : o.guard = none) (h : ∀ K0 : Nat → List (Nat × Nat) → St → Prop, Imp (K0 k' done' st') (opG C T o st fun _ outs => K0 (k + 1) (addN k o.dst done) (st.upd outs))) (hk : Gw T L n B (Rn C T (.o k' done' l :: r) st' K)) : Gw T L n B (Rn C T (.o k done (o :: l) :: r) st K) := ⟨fun hb0 => nD hg h (hk.run hb0)⟩
theorem Gw.onil {k : Nat} {done : List (Nat × Nat)} (h : Gw T L n B (Rn C T r st K)) : Gw T L n B (Rn C T (.o k done [] :: r) st K) := ⟨fun hb0 => iC (h.run hb0)⟩
theorem Gw.g (hg : o.guard = some (j, b)) (hd : fZ j done = some d) (hx : ∀ K0 : AV → Prop, Imp (K0 x) (K0 (bB d st.t))) (h : Gw T L n B (RnG C T k done o l r st K d b x)) : Gw T L n B (Rn C T (.o k done (o :: l) :: r) st K) := ⟨fun hb0 => Rn_g hg hd hx (h.run hb0)⟩
theorem Gw.dg (hg : o.guard = some (j, b)) (hd : fZ j done = some d) (hx : ∀ K0 : AV → Prop, Imp (K0 x) (K0 (bB d st.t))) (h : Gw T L n B (RdG C T k done o l st fps edges r K d b x)) : Gw T L n B (Rd C T k done (o :: l) st fps edges r K) := ⟨fun hb0 => Rd_g hg hd hx (h.run hb0)⟩
theorem Gw.yes (h : ∀ K0 : Nat → List (Nat × Nat) → St → Prop, Imp (K0 k' done' st') (opG C T o st fun _ outs => K0 (k + 1) (addN k o.dst done) (st.upd outs))) (hk : Gw T L n B (Rn C T (.o k' done' l :: r) st' K)) : Gw T L n B (RnG C T k done o l r st K d b (.r (.v (.bool b)))) := ⟨fun hb0 => kE h (hk.run hb0)⟩
theorem Gw.dyes (h : ∀ K0 : Nat → List (Nat × Nat) → List (List Loc × List Loc) → St → Prop, Imp (K0 k' done' fps' st') (opG C T o st fun l outs => wk outs = true ∧ K0 (k + 1) (addN k o.dst done) (fps ++ [(.T d :: l, outs.map (·.1))]) (st.upd outs))) (hk : Gw T L n B (Rd C T k' done' l st' fps' edges r K)) : Gw T L n B (RdG C T k done o l st fps edges r K d b (.r (.v (.bool b)))) := ⟨fun hb0 => jW h (hk.run hb0)⟩
theorem Gw.tno (hn : dH o st.n = true) (h : ∀ K0 : Nat → List (Nat × Nat) → St → Prop, Imp (K0 k' done' st') (K0 (k + 1) (addN k o.dst done) (bM o st))) (hk : Gw T L n B (Rn C T (.o k' done' l :: r) st' K)) : Gw T L n B (RnG C T k done o l r st K d false (.r (.v (.bool true)))) := ⟨fun hb0 => iG hn h (hk.run hb0)⟩
theorem Gw.fno (hn : dH o st.n = true) (h : ∀ K0 : Nat → List (Nat × Nat) → St → Prop, Imp (K0 k' done' st') (K0 (k + 1) (addN k o.dst done) (bM o st))) (hk : Gw T L n B (Rn C T (.o k' done' l :: r) st' K)) : Gw T L n B (RnG C T k done o l r st K d true (.r (.v (.bool false)))) := ⟨fun hb0 => gY hn h (hk.run hb0)⟩
theorem Gw.un {xs : Array Value} (hn : dH o st.n = true) (h : ∀ K0 : Nat → List (Nat × Nat) → St → Prop, Imp (K0 k' done' st') (K0 (k + 1) (addN k o.dst done) (bM o st))) (hk : Gw T L n B (Rn C T (.o k' done' l :: r) st' K)) : Gw T L n B (RnG C T k done o l r st K d b (.r (.v (.tuple xs)))) := ⟨fun hb0 => lV hn h (hk.run hb0)⟩
theorem Gw.dtno (hn : dH o st.n = true) (h : ∀ K0 : Nat → List (Nat × Nat) → List (List Loc × List Loc) → St → Prop, Imp (K0 k' done' fps' st') (K0 (k + 1) (addN k o.dst done) (fps ++ [([.T d], match o.dst with | some d' => [.T d'] | none => [])]) (bM o st))) (hk : Gw T L n B (Rd C T k' done' l st' fps' edges r K)) : Gw T L n B (RdG C T k done o l st fps edges r K d false (.r (.v (.bool true)))) := ⟨fun hb0 => iK hn h (hk.run hb0)⟩
theorem Gw.dfno (hn : dH o st.n = true) (h : ∀ K0 : Nat → List (Nat × Nat) → List (List Loc × List Loc) → St → Prop, Imp (K0 k' done' fps' st') (K0 (k + 1) (addN k o.dst done) (fps ++ [([.T d], match o.dst with | some d' => [.T d'] | none => [])]) (bM o st))) (hk : Gw T L n B (Rd C T k' done' l st' fps' edges r K)) : Gw T L n B (RdG C T k done o l st fps edges r K d true (.r (.v (.bool false)))) := ⟨fun hb0 => gW hn h (hk.run hb0)⟩
theorem Gw.dun {xs : Array Value} (hn : dH o st.n = true) (h : ∀ K0 : Nat → List (Nat × Nat) → List (List Loc × List Loc) → St → Prop, Imp (K0 k' done' fps' st') (K0 (k + 1) (addN k o.dst done) (fps ++ [([.T d], match o.dst with | some d' => [.T d'] | none => [])]) (bM o st))) (hk : Gw T L n B (Rd C T k' done' l st' fps' edges r K)) : Gw T L n B (RdG C T k done o l st fps edges r K d b (.r (.v (.tuple xs)))) := ⟨fun hb0 => lZ hn h (hk.run hb0)⟩
theorem Gw.never {y : AV} (hw : ∀ K0 : Bool → Prop, Imp (K0 false) (mC y b K0)) (hn : dH o st.n = true) (h : ∀ K0 : Nat → List (Nat × Nat) → St → Prop, Imp (K0 k' done' st') (K0 (k + 1) (addN k o.dst done) (bM o st))) (hk : Gw T L n B (Rn C T (.o k' done' l :: r) st' K)) : Gw T L n B (RnG C T k done o l r st K d b y) := ⟨fun hb0 => gE hw hn h (hk.run hb0)⟩
theorem Gw.dnever {y : AV} (hw : ∀ K0 : Bool → Prop, Imp (K0 false) (mC y b K0)) (hn : dH o st.n = true) (h : ∀ K0 : Nat → List (Nat × Nat) → List (List Loc × List Loc) → St → Prop, Imp (K0 k' done' fps' st') (K0 (k + 1) (addN k o.dst done) (fps ++ [([.T d], match o.dst with | some d' => [.T d'] | none => [])]) (bM o st))) (hk : Gw T L n B (Rd C T k' done' l st' fps' edges r K)) : Gw T L n B (RdG C T k done o l st fps edges r K d b y) := ⟨fun hb0 => gD hw hn h (hk.run hb0)⟩
theorem Gw.lazy {y : AV} (hdst : o.dst = some d') (hw : ∀ K0 : Bool → Prop, Imp (K0 w) (mC y b K0)) (hn : d' < st.n) (h : w = true → ∀ K0 : AV → Prop, Imp (K0 x) (opG C T o st fun _ outs => oneK d' outs K0)) (hst : ∀ K0 : Nat → List (Nat × Nat) → St → Prop, Imp (K0 k' done' st') (K0 (k + 1) (addN k o.dst done) { st with t := putT d' (bif w then x else UD) st.t })) (hk : Gw T L n B (Rn C T (.o k' done' l :: r) st' K)) : Gw T L n B (RnG C T k done o l r st K d b y) := ⟨fun hb0 => iL hdst hw hn h hst (hk.run hb0)⟩
theorem Gw.dlazy {y : AV} (hdst : o.dst = some d') (hw : ∀ K0 : Bool → Prop, Imp (K0 w) (mC y b K0)) (hn : d' < st.n) (h : w = true → ∀ K0 : List Loc → AV → Prop, Imp (K0 rds x) (opG C T o st fun l outs => oneK d' outs (K0 l))) (hst : ∀ K0 : Nat → List (Nat × Nat) → List (List Loc × List Loc) → St → Prop, Imp (K0 k' done' fps' st') (K0 (k + 1) (addN k o.dst done) (fps ++ [(.T d :: rds, [.T d'])]) { st with t := putT d' (bif w then x else UD) st.t })) (hk : Gw T L n B (Rd C T k' done' l st' fps' edges r K)) : Gw T L n B (RdG C T k done o l st fps edges r K d b y) := ⟨fun hb0 => iI hdst hw hn h hst (hk.run hb0)⟩
theorem Gw.c {c : Operand} {a b : Code} (hx : ∀ K0 : AV → Prop, Imp (K0 x) (K0 (ev st c))) (h : Gw T L n B (RnC C T c a b r st K x)) : Gw T L n B (Rn C T (.c (.cond c a b) :: r) st K) := ⟨fun hb0 => Rn_c hx (h.run hb0)⟩
theorem Gw.ct {c : Operand} {a b : Code} (h : Gw T L n B (Rn C T (.c a :: r) st K)) : Gw T L n B (RnC C T c a b r st K (.r (.v (.bool true)))) := ⟨fun hb0 => rN (h.run hb0)⟩
theorem Gw.cf {c : Operand} {a b : Code} (h : Gw T L n B (Rn C T (.c b :: r) st K)) : Gw T L n B (RnC C T c a b r st K (.r (.v (.bool false)))) := ⟨fun hb0 => sJ (h.run hb0)⟩
theorem Gw.skip  (h : Gw T L n B (Rn C T r st K)) : Gw T L n B (Rn C T (.c .skip :: r) st K) := ⟨fun hb0 => kF (h.run hb0)⟩
theorem Gw.exit {id : Nat} {r' : List It} (hr : toB id r = some r') (h : Gw T L n B (Rn C T r' st K)) : Gw T L n B (Rn C T (.c (.exit id) :: r) st K) := ⟨fun hb0 => kB hr (h.run hb0)⟩
theorem Gw.bb {id : Nat} (h : Gw T L n B (Rn C T r st K)) : Gw T L n B (Rn C T (.b id :: r) st K) := ⟨fun hb0 => Rn_b (h.run hb0)⟩
theorem Gw.dop (hg : o.guard = none) (h : ∀ K0 : Nat → List (Nat × Nat) → List (List Loc × List Loc) → St → Prop, Imp (K0 k' done' fps' st') (opG C T o st fun l outs => wk outs = true ∧ K0 (k + 1) (addN k o.dst done) (fps ++ [(l, outs.map (·.1))]) (st.upd outs))) (hk : Gw T L n B (Rd C T k' done' l st' fps' edges r K)) : Gw T L n B (Rd C T k done (o :: l) st fps edges r K) := ⟨fun hb0 => nH hg h (hk.run hb0)⟩
theorem Gw.dnil (h : pB edges fps = true) (hk : Gw T L n B (Rn C T r st K)) : Gw T L n B (Rd C T k done [] st fps edges r K) := ⟨fun hb0 => nM h (hk.run hb0)⟩
theorem Gw.outck {id : Nat} (hr : toB id r' = none) (hr2 : toB id r = some r'') (h : Gw T L n B (Rn C T r'' st K)) : Gw T L n B (Rn C T (.c (.exit id) :: r') st (fX A (ck C r K))) := ⟨fun hb0 => fR hr hr2 (h.run hb0)⟩
theorem Gw.retck  (h : Gw T L n B (K .ret st)) : Gw T L n B (Rn C T (.c .ret :: r') st (fX A (ck C r K))) := ⟨fun hb0 => fY (h.run hb0)⟩
theorem Gw.ret  (h : Gw T L n B (K .ret st)) : Gw T L n B (Rn C T (.c .ret :: r) st K) := ⟨fun hb0 => lY (h.run hb0)⟩
theorem Gw.nilthen  (h : Gw T L n B (A st)) : Gw T L n B (Rn C T [] st (fX A (ck C r K))) := ⟨fun hb0 => dP (h.run hb0)⟩
theorem Gw.nil  (h : Gw T L n B (K .normal st)) : Gw T L n B (Rn C T [] st K) := ⟨fun hb0 => nT (h.run hb0)⟩
theorem Gw.stt (h : ∀ K0 : St → Prop, Imp (K0 st') (K0 st)) (hk : Gw T L n B (Rn C T r st' K)) : Gw T L n B (Rn C T r st K) := ⟨fun hb0 => pM h (hk.run hb0)⟩
theorem Gw.dstt (h : ∀ K0 : St → Prop, Imp (K0 st') (K0 st)) (hk : Gw T L n B (Rd C T k done l st' fps edges r K)) : Gw T L n B (Rd C T k done l st fps edges r K) := ⟨fun hb0 => rW h (hk.run hb0)⟩
theorem Gw.tret (h : Gw T L n B (K .ret st)) : Gw T L n B (fX A (ck C r K) .ret st) := ⟨fun hb0 => uW (h.run hb0)⟩
theorem Gw.tout {id : Nat} (hr : toB id r = some r') (h : Gw T L n B (Rn C T r' st K)) : Gw T L n B (fX A (ck C r K) (.exit id) st) := ⟨fun hb0 => Tc hr (h.run hb0)⟩
theorem Gw.tthru {id : Nat} (hr : toB id r = none) (h : Gw T L n B (K (.exit id) st)) : Gw T L n B (fX A (ck C r K) (.exit id) st) := ⟨fun hb0 => pD.2 hr (h.run hb0)⟩
theorem Gw.out {id : Nat} (hr : toB id r = none) (h : Gw T L n B (K (.exit id) st)) : Gw T L n B (Rn C T (.c (.exit id) :: r) st K) := ⟨fun hb0 => Ze hr (h.run hb0)⟩
theorem Gw.region {id : Nat} {l : List Oper} {keep : List Nat} (hL : Eh id L = some keep) (hst : ∀ K0 : St → Prop, Imp (K0 st') (K0 { st with t := cG keep st.t })) (h : Gw T L n B (Rn C T (.o 0 [] l :: r) st' K)) : Gw T L n B (Rn C T (.c (.region id l.toArray false) :: r) st K) := ⟨fun hb0 => eL L hL hst (h.run hb0)⟩
theorem Gw.drawn {id : Nat} {l : List Oper} {keep : List Nat} (hL : Eh id L = some keep) (hst : ∀ K0 : St → Prop, Imp (K0 st') (K0 { st with t := cG keep st.t })) (h : Gw T L n B (Rd C T 0 [] l st' [] (jN l) r K)) : Gw T L n B (Rn C T (.c (.region id l.toArray true) :: r) st K) := ⟨fun hb0 => iA L hL hst (h.run hb0)⟩
theorem Gw.unroll {c : Code} {m : Nat} (h : Gw T L (m + 1) B (Rn C T [.c c] st (fX (yP C c (ck C r K) (m + 1)) (ck C r K)))) : Gw T L (m + 1) B (Rn C T (.c (.loop c) :: r) st K) := ⟨fun hb0 => Tt (m + 1) (h.run hb0)⟩
theorem Gw.ls {c : Code} {m : Nat} (h : Gw T L n B (Rn C T [.c c] st (fX (yP C c (ck C r K) m) (ck C r K)))) : Gw T L n B (yP C c (ck C r K) (m + 1) st) := ⟨fun hb0 => eE (h.run hb0)⟩
theorem Gw.gsplit (h1 : q = true → Gw T L n B1 (Rn C T (.o k done (o :: l) :: r) st K)) (h2 : q = false → Gw T L n B2 (Rn C T (.o k done (o :: l) :: r) st K)) : Gw T L n (Br q B1 B2) (RnG C T k done o l r st K d b (.r (.v (.bool q)))) := ⟨fun hb0 => fW (fun h => (h1 h).run (hb0.h1 h)) (fun h => (h2 h).run (hb0.h2 h))⟩
theorem Gw.dsplit (h1 : q = true → Gw T L n B1 (Rd C T k done (o :: l) st fps edges r K)) (h2 : q = false → Gw T L n B2 (Rd C T k done (o :: l) st fps edges r K)) : Gw T L n (Br q B1 B2) (RdG C T k done o l st fps edges r K d b (.r (.v (.bool q)))) := ⟨fun hb0 => fT (fun h => (h1 h).run (hb0.h1 h)) (fun h => (h2 h).run (hb0.h2 h))⟩
theorem Gw.csplit {c : Operand} {a b : Code} (h1 : q = true → Gw T L n B1 (Rn C T (.c a :: r) st K)) (h2 : q = false → Gw T L n B2 (Rn C T (.c b :: r) st K)) : Gw T L n (Br q B1 B2) (RnC C T c a b r st K (.r (.v (.bool q)))) := ⟨fun hb0 => fK (fun h => (h1 h).run (hb0.h1 h)) (fun h => (h2 h).run (hb0.h2 h))⟩
theorem Gw.frzi (i : Nat) {k ver el sz : Nat} {F : List Nat} {rows : List (List AV)} {rowsR : List (List RV)} (hF : Eh 1000000 L = some F) (hi : F[i]? = some k) (hk : aB k st.rs = (ver, .sl el sz rows)) (hc : roLL rows = some rowsR) (hr : hasC r = true) (hst : ∀ K0 : St → Prop, Imp (K0 st') (K0 (hJ k ver (.rs sz rowsR) st))) (hk2 : Gw T L n B (Rn C T r st' K)) : Gw T L n B (Rn C T r st K) := ⟨fun hb0 => aDw k hk hc hr hst (hk2.run hb0)⟩
theorem go (L : List (Nat × List Nat)) (n : Nat) (hb : B)
  (h : Gw T L n B (Rn C T r st K) := by
   repeat' (first | (focus (intro K0; (try simp only [go_sem, *]); (first | exact ⟨id⟩ | (refine ⟨fun h => ?_⟩; (repeat' (first | exact h | refine And.intro ?_ ?_ | omega | rfl)); done)))) | (apply Gw.seq) | (apply Gw.block) | (apply Gw.region; (exact rfl)) | (apply Gw.op; (exact rfl)) | (apply Gw.onil) | ((first | apply Gw.g | apply Gw.dg); (exact rfl); (exact rfl); (focus (intro K0; (try simp only [bB, ev, Nat.reduceEqDiff, ↓reduceIte]); exact ⟨id⟩))) | (with_reducible (first | apply Gw.yes | apply Gw.dyes)) | ((with_reducible (first | apply Gw.tno | apply Gw.fno | apply Gw.un | apply Gw.dtno | apply Gw.dfno | apply Gw.dun)); (exact rfl)) | ((first | apply Gw.never | apply Gw.dnever); (focus (intro K0; (try simp only [go_sem]); exact ⟨id⟩)); (exact rfl)) | ((first | apply Gw.lazy | apply Gw.dlazy); (exact rfl); (focus (intro K0; (try simp only [go_sem]); exact ⟨id⟩)); (focus (first | (simp only [Nat.reduceLT]; done) | omega)); (focus (intro hw0; (try simp only [Bool.and_eq_true, Bool.not_eq_true', dK, dC] at hw0); (focus (intro K0; (try simp only [go_sem, *]); (first | exact ⟨id⟩ | (refine ⟨fun h => ?_⟩; (repeat' (first | exact h | refine And.intro ?_ ?_ | omega | rfl)); done))))))) | (apply Gw.c; (focus (intro K0; (try simp only [bB, ev, Nat.reduceEqDiff, ↓reduceIte]); exact ⟨id⟩))) | (with_reducible (first | apply Gw.ct | apply Gw.cf)) | (apply Gw.unroll) | (apply Gw.skip) | (apply Gw.exit rfl) | (apply Gw.bb) | (apply Gw.drawn; (exact rfl)) | (apply Gw.dop; (exact rfl)) | (apply Gw.dnil (by kernel_rfl)) | ((with_reducible (first | apply Gw.gsplit | apply Gw.dsplit | apply Gw.csplit)) <;> (first | (intro h; (have h' := h); (try simp only [decide_eq_true_eq, decide_eq_false_iff_not, Bool.not_eq_true', Bool.not_eq_false', Bool.and_eq_true, Bool.or_eq_true, Bool.or_eq_false_iff, beq_iff_eq, bne_iff_ne, ne_eq, Bool.not_true, Bool.not_false, not_false_eq_true, reduceCtorEq, beq_eq_false_iff_ne, bne_eq_false_iff_eq] at h'); (first | apply Gw.stt | apply Gw.dstt | done)) | skip)) | (apply Gw.outck rfl rfl) | (apply Gw.out rfl) | (apply Gw.tret) | (apply Gw.tout rfl) | (apply Gw.tthru rfl) | (first | apply Gw.retck | apply Gw.ret | apply Gw.nilthen) | (apply Gw.ls) | (apply Gw.nil))
   all_goals (first | exact Gw.leaf | exact True)) : Rn C T r st K := h.run hb
theorem goF (L : List (Nat × List Nat)) (n : Nat) (hb : B)
  (h : Gw T L n B (Rn C T r st K) := by
   repeat' (first | (apply Gw.frzi 0; (exact rfl); (exact rfl); (exact rfl); (exact rfl); (exact rfl); (intro K0; (try simp only [go_sem]); exact ⟨id⟩)) | (apply Gw.frzi 1; (exact rfl); (exact rfl); (exact rfl); (exact rfl); (exact rfl); (intro K0; (try simp only [go_sem]); exact ⟨id⟩)) | (apply Gw.frzi 2; (exact rfl); (exact rfl); (exact rfl); (exact rfl); (exact rfl); (intro K0; (try simp only [go_sem]); exact ⟨id⟩)) | (focus (intro K0; (try simp only [go_sem, *]); (first | exact ⟨id⟩ | (refine ⟨fun h => ?_⟩; (repeat' (first | exact h | refine And.intro ?_ ?_ | omega | rfl)); done)))) | (apply Gw.seq) | (apply Gw.block) | (apply Gw.region; (exact rfl)) | (apply Gw.op; (exact rfl)) | (apply Gw.onil) | ((first | apply Gw.g | apply Gw.dg); (exact rfl); (exact rfl); (focus (intro K0; (try simp only [bB, ev, Nat.reduceEqDiff, ↓reduceIte]); exact ⟨id⟩))) | (with_reducible (first | apply Gw.yes | apply Gw.dyes)) | ((with_reducible (first | apply Gw.tno | apply Gw.fno | apply Gw.un | apply Gw.dtno | apply Gw.dfno | apply Gw.dun)); (exact rfl)) | ((first | apply Gw.never | apply Gw.dnever); (focus (intro K0; (try simp only [go_sem]); exact ⟨id⟩)); (exact rfl)) | ((first | apply Gw.lazy | apply Gw.dlazy); (exact rfl); (focus (intro K0; (try simp only [go_sem]); exact ⟨id⟩)); (focus (first | (simp only [Nat.reduceLT]; done) | omega)); (focus (intro hw0; (try simp only [Bool.and_eq_true, Bool.not_eq_true', dK, dC] at hw0); (focus (intro K0; (try simp only [go_sem, *]); (first | exact ⟨id⟩ | (refine ⟨fun h => ?_⟩; (repeat' (first | exact h | refine And.intro ?_ ?_ | omega | rfl)); done))))))) | (apply Gw.c; (focus (intro K0; (try simp only [bB, ev, Nat.reduceEqDiff, ↓reduceIte]); exact ⟨id⟩))) | (with_reducible (first | apply Gw.ct | apply Gw.cf)) | (apply Gw.unroll) | (apply Gw.skip) | (apply Gw.exit rfl) | (apply Gw.bb) | (apply Gw.drawn; (exact rfl)) | (apply Gw.dop; (exact rfl)) | (apply Gw.dnil (by kernel_rfl)) | ((with_reducible (first | apply Gw.gsplit | apply Gw.dsplit | apply Gw.csplit)) <;> (first | (intro h; (have h' := h); (try simp only [decide_eq_true_eq, decide_eq_false_iff_not, Bool.not_eq_true', Bool.not_eq_false', Bool.and_eq_true, Bool.or_eq_true, Bool.or_eq_false_iff, beq_iff_eq, bne_iff_ne, ne_eq, Bool.not_true, Bool.not_false, not_false_eq_true, reduceCtorEq, beq_eq_false_iff_ne, bne_eq_false_iff_eq] at h'); (first | apply Gw.stt | apply Gw.dstt | done)) | skip)) | (apply Gw.outck rfl rfl) | (apply Gw.out rfl) | (apply Gw.tret) | (apply Gw.tout rfl) | (apply Gw.tthru rfl) | (first | apply Gw.retck | apply Gw.ret | apply Gw.nilthen) | (apply Gw.ls) | (apply Gw.nil))
   all_goals (first | exact Gw.leaf | exact True)) : Rn C T r st K := h.run hb
theorem Br.go {P1 P2 : Prop} (k1 : q = true → P1 → B1) (k2 : q = false → P2 → B2) (c1 : q = true → P1 := by intro h0; (try simp only [decide_eq_true_eq, decide_eq_false_iff_not, Bool.not_eq_true', Bool.not_eq_false', Bool.and_eq_true, Bool.or_eq_true, Bool.or_eq_false_iff, beq_iff_eq, bne_iff_ne, ne_eq, Bool.not_true, Bool.not_false, not_false_eq_true, reduceCtorEq, beq_eq_false_iff_ne, bne_eq_false_iff_eq] at h0); exact h0) (c2 : q = false → P2 := by intro h0; (try simp only [decide_eq_true_eq, decide_eq_false_iff_not, Bool.not_eq_true', Bool.not_eq_false', Bool.and_eq_true, Bool.or_eq_true, Bool.or_eq_false_iff, beq_iff_eq, bne_iff_ne, ne_eq, Bool.not_true, Bool.not_false, not_false_eq_true, reduceCtorEq, beq_eq_false_iff_ne, bne_eq_false_iff_eq] at h0); exact h0) : Br q B1 B2 := ⟨fun h => k1 h (c1 h), fun h => k2 h (c2 h)⟩
theorem Gw.region0 {id : Nat} {l : List Oper} (h : Gw T L n B (Rn C T (.o 0 [] l :: r) st K)) : Gw T L n B (Rn C T (.c (.region id l.toArray false) :: r) st K) := ⟨fun hb0 => eV (h.run hb0)⟩
theorem goR {c : Code} (hb : B)
  (h : Gw T [] 0 B (Rn C T (.c c :: r) st K) := by
   apply Gw.seq
   repeat' (first | (focus (intro K0; (try simp only [go_sem, *]); (first | exact ⟨id⟩ | (refine ⟨fun h => ?_⟩; (repeat' (first | exact h | refine And.intro ?_ ?_ | omega | rfl)); done)))) | (apply Gw.region0) | (apply Gw.op; (exact rfl)) | (apply Gw.onil))
   all_goals (first | exact Gw.leaf | exact True)) : Rn C T (.c c :: r) st K := h.run hb
theorem aY (keep : List Nat) {s s' : St} (hn : s'.n = s.n := by rfl) (ht : cG keep s.t = s'.t := by first | rfl | (simp only [cG, memN, Nat.reduceEqDiff, ↓reduceIte]; done) | (simp [cG, memN, *]; done))
  (hr : leRs s.rs s'.rs := by repeat' (first | exact trivial | exact rfl | exact .inl ⟨rfl, rfl⟩ | exact .inr ⟨rfl, by omega⟩ | refine ⟨rfl, ?_, ?_⟩ | refine ⟨rfl, rfl, ?_⟩)) : Le s s' := gP keep hn ht hr
theorem cL {c : Code} {α : Type} (keep : List Nat) (I : α → Prop) (f : α → St) (μ : α → Nat) (x0 : α) (h0 : I x0)
  (round : ∀ x, I x → Rn C T [.c c] (f x) (fX (fun s => ∃ y, I y ∧ μ y < μ x ∧ Le s (f y)) (ck C r K)))
  (hn : (f x0).n = st.n := by rfl) (ht : cG keep st.t = (f x0).t := by first | rfl | (simp only [cG, memN, Nat.reduceEqDiff, ↓reduceIte]; done) | (simp [cG, memN, *]; done))
  (hr : leRs st.rs (f x0).rs := by repeat' (first | exact trivial | exact rfl | exact .inl ⟨rfl, rfl⟩ | exact .inr ⟨rfl, by omega⟩ | refine ⟨rfl, ?_, ?_⟩ | refine ⟨rfl, rfl, ?_⟩)) : Rn C T (.c (.loop c) :: r) st K := jD keep I f μ x0 hn ht hr h0 round
theorem goR1 (L : List (Nat × List Nat)) (n : Nat) (hb : B)
  (h : Gw T L n B (Rn C T r st K) := by
   (apply Gw.region; (exact rfl))
   repeat' (first | (focus (intro K0; (try simp only [go_sem, *]); (first | exact ⟨id⟩ | (refine ⟨fun h => ?_⟩; (repeat' (first | exact h | refine And.intro ?_ ?_ | omega | rfl)); done)))) | (apply Gw.op; (exact rfl)) | (apply Gw.onil))
   all_goals (first | exact Gw.leaf | exact True)) : Rn C T r st K := h.run hb
end
structure Lx (C : Ctx) (st st' : St) : Prop where
 run : ∀ e a w, S C e st a w → S C e st' a w
theorem Lx.le {C : Ctx} {st st' : St} (h : Le st st') : Lx C st st' := ⟨fun _ _ _ hs => hs.weaken h⟩
theorem Lx.frzL {C : Ctx} {st st' : St} (k : Nat) {ver el sz : Nat} {rows : List (List AV)} {rowsR : List (List RV)} (hk : aB k st.rs = (ver, .sl el sz rows)) (hc : roLL rows = some rowsR) (h : Lx C (hJ k ver (.rs sz rowsR) st) st') : Lx C st st' :=
 ⟨fun e a w ⟨ho, g, hs⟩ => h.run e a w (by
  have := Ge hc
  subst this
  exact ⟨ho, g, hs.frz hk (by simp) (Ht hk)⟩)⟩
theorem mL {C : Ctx} {T : List (Ct C)} {r : List It} {st st' : St} {K : Exit → St → Prop} {c : Code} (Q : Prop) (hr : hasC r = true) (h : Rn C T [.c c] st (fX (fun s => Q ∧ Lx C s st') (ck C r K))) (hk : Q → Rn C T r st' K) : Rn C T (.c c :: r) st K := by
 unfold Rn at h
 show Rn C T (.c c :: r) st K
 have hx : lwp C c st (ck C r K) := by
  refine nF (h : lwp C c st (ck C [] _)) fun x s hx => ?_
  have hx' : fX (fun s => Q ∧ Lx C s st') (ck C r K) x s := by cases x <;> exact hx
  cases x with
  | normal =>
   have := tY (T := T) hr hx'.2.run (hk hx'.1)
   unfold Rn at this; exact this
  | _ => exact hx'
 unfold Rn
 exact hx
def Qa (s : St) : List (Nat × AV) → Prop
 | [] => True
 | (k, x) :: l => bB k s.t = x ∧ Qa s l
theorem pI {s : St} : ∀ {l : List (Nat × AV)}, Qa s l → ∀ d, bB d l = .any ∨ bB d l = bB d s.t
 | [], _, d => .inl rfl
 | (k, x) :: l, h, d => by
  have e : bB d ((k, x) :: l) = if d = k then x else bB d l := rfl
  rw [e]
  by_cases hd : d = k
  ·subst hd; rw [if_pos rfl]; exact .inr h.1.symm
  ·rw [if_neg hd]; exact pI h.2 d
theorem bF {s s' : St} (hn : s'.n = s.n := by rfl) (ht : Qa s s'.t := by repeat' (first | exact trivial | refine ⟨by rfl, ?_⟩))
  (hr : leRs s.rs s'.rs := by repeat' (first | exact trivial | exact rfl | exact .inl ⟨rfl, rfl⟩ | exact .inr ⟨rfl, by omega⟩ | refine ⟨rfl, ?_, ?_⟩ | refine ⟨rfl, rfl, ?_⟩)) : Le s s' := ⟨hn, pI ht, oH hr⟩
theorem bY {C : Ctx} {T : List (Ct C)} {r : List It} {st : St} {K : Exit → St → Prop} {c : Code} {α : Type} (I : α → Prop) (f : α → St) (μ : α → Nat) (x0 : α) (h0 : I x0)
  (round : ∀ x, I x → Rn C T [.c c] (f x) (fX (fun s => ∃ y, I y ∧ μ y < μ x ∧ Le s (f y)) (ck C r K)))
  (hn : (f x0).n = st.n := by rfl) (ht : Qa st (f x0).t := by repeat' (first | exact trivial | refine ⟨by first | rfl | (simp [bB, *]; done), ?_⟩))
  (hr : leRs st.rs (f x0).rs := by repeat' (first | exact trivial | exact rfl | exact .inl ⟨rfl, rfl⟩ | exact .inr ⟨rfl, by omega⟩ | refine ⟨rfl, ?_, ?_⟩ | refine ⟨rfl, rfl, ?_⟩)) : Rn C T (.c (.loop c) :: r) st K :=
 Gc I f μ x0 ⟨hn, pI ht, oH hr⟩ h0 round
theorem SR.turn2 {C : Ctx} {e : Env} {st st' : St} {g g' : Gh} {a : Act} {w : World} (h : SR C e st g a w) (hn : st'.n = st.n) (ht : st'.t = st.t) (hown : ∀ b, own st' g' b → own st g b) (hc : ∀ k, st.cur k < st'.cur k ∨ st.cur k = st'.cur k ∧ g k = g' k)
  (hu : ∀ k k' b, blk st' g' k b → blk st' g' k' b → k = k') (hres : (∀ x y, AR st.cur g w (e.N st g) x y → AR st'.cur g' w (e.N st' g') x y) → (∀ b, b < w.heap.size → ¬ e.N st g b → w.heap[b]? = w.heap[b]? ∧ ¬ e.N st' g' b) → ∀ k, ResR st'.cur g' w (e.N st' g') k (aB k st'.rs).2) :
  SR C e st' g' a w := by
 have hx : Ext w (own st g) w (own st' g') := ⟨rfl, rfl, rfl, Nat.le_refl _, fun b _ hb => ⟨rfl, fun h1 => hb (hown b h1)⟩⟩
 have hl : ∀ x y, AR st.cur g w (e.N st g) x y → AR st'.cur g' w (e.N st' g') x y := fun x y hxy => hxy.lift hx hc
 exact ⟨h.defers, by rw [hn]; exact h.size, fun d => by rw [ht]; exact hl _ _ (h.temps d), hres hl (pC hx), hu, fun k b hk => by
  obtain ⟨j, hj⟩ := hown b ⟨k, hk⟩
  exact h.low j b hj, h.ext.trans hx, mY h.hist hc⟩
theorem ResR.mono2 {w : World} {cur cur' : Nat → Nat} {g g' : Gh} {N N' : Nat → Prop} {k : Nat} {x : Res} (h : ResR cur g w N k x) (hl : ∀ x y, AR cur g w N x y → AR cur' g' w N' x y) (hN : ∀ b, b < w.heap.size → ¬ N b → w.heap[b]? = w.heap[b]? ∧ ¬ N' b) (hg : g' k = g k) (hf : g'.f k = g.f k) : ResR cur' g' w N' k x := by
 cases x with
 | gone => trivial
 | bx cells =>
  obtain ⟨b, C', el, h1, h2, h3, h4, h5⟩ := h
  exact ⟨b, C', el, by rw [hg]; exact h1, h2, h3, fun j x y hj hy => hl _ _ (h4 j x y hj hy), by rw [hg, hf]; exact h5.lift (Nat.le_refl _) hN fun _ _ => rfl⟩
 | sl el sz rows =>
  obtain ⟨xs, h1, h2, h3, h5⟩ := h
  exact ⟨xs, by rw [hg]; exact h1, h2, fun i j row x y hi hj hy => hl _ _ (h3 i j row x y hi hj hy), by rw [hg, hf]; exact h5.lift (Nat.le_refl _) hN fun _ _ => rfl⟩
 | mp f n =>
  obtain ⟨b, es, clock, h1, h2, h3⟩ := h
  exact ⟨b, es, clock, by rw [hg]; exact h1, h2, h3⟩
def NV.isN : NV → Bool
 | .nd _ _ _ => true
 | _ => false
def nvC : NV → AV
 | .r x => .r x
 | .nd e sz rows => .nd e sz rows
theorem Gp : ∀ {l : List NV} {vs : List Value}, nds (l.map nvC) vs = (l.zip vs).filter fun p => p.1.isN
 | [], vs => rfl
 | x :: l, [] => rfl
 | .r x :: l, v :: vs => Gp (l := l) (vs := vs)
 | .nd e sz rows :: l, v :: vs => by
  show (NV.nd e sz rows, v) :: nds (l.map nvC) vs = (NV.nd e sz rows, v) :: (l.zip vs).filter fun p => p.1.isN
  rw [Gp (l := l) (vs := vs)]
theorem NDL.filt {w : World} {N : Nat → Prop} {l : List (NV × Value)} {f : List Nat} (h : NDL w N l f) : NDL w N (l.filter fun p => p.1.isN) f := by
 induction h with
 | nil => exact .nil
 | r _ _ ih => exact ih
 | nd ho hw hi _ _ ih => exact .nd ho hw hi ih
theorem NDL.unfilt {w : World} {N : Nat → Prop} : ∀ {l : List (NV × Value)} {f : List Nat}, NDL w N (l.filter fun p => p.1.isN) f → (∀ x v, (NV.r x, v) ∈ l → RR w N x v) → NDL w N l f
 | [], f, h, _ => h
 | (.r x, v) :: l, f, h, hr => .r (hr x v (List.mem_cons_self ..)) (NDL.unfilt (l := l) h fun y u hy => hr y u (List.mem_cons_of_mem _ hy))
 | (.nd e sz rows, v) :: l, f, h, hr => by
  have h' : NDL w N ((NV.nd e sz rows, v) :: l.filter fun p => p.1.isN) f := h
  cases h' with
  | nd ho hw hi hl => exact .nd ho hw hi (hl.unfilt fun y u hy => hr y u (List.mem_cons_of_mem _ hy))
theorem NDL.mem_r {w : World} {N : Nat → Prop} {l : List (NV × Value)} {f : List Nat} (h : NDL w N l f) : ∀ {x : RV} {v : Value}, (NV.r x, v) ∈ l → RR w N x v := by
 induction h with
 | nil => intro x v hm; simp at hm
 | r h _ ih =>
  intro x v hm
  rcases List.mem_cons.1 hm with he | hm
  ·cases he; exact h
  ·exact ih hm
 | nd _ _ _ _ _ ih =>
  intro x v hm
  rcases List.mem_cons.1 hm with he | hm
  ·cases he
  ·exact ih hm
theorem Gi : ∀ {xs : List AV} {p : Nat} {vs : List Value} {v : Value}, p < xs.length → vs[p]? = some v → ∃ A B, ∀ x, nds (xs.set p x) vs = A ++ ((ndOf (x, v)).toList ++ B)
 | [], p, vs, v, h, _ => by simp at h
 | y :: xs, 0, [], v, _, h => by simp at h
 | y :: xs, 0, u :: vs, v, _, h => by
  simp at h; subst h
  refine ⟨[], nds xs vs, fun x => ?_⟩
  show ((x, u) :: xs.zip vs).filterMap ndOf = _
  cases hx : ndOf (x, u) with
  | none => rw [List.filterMap_cons_none hx]; rfl
  | some q => rw [List.filterMap_cons_some hx]; rfl
 | y :: xs, p + 1, [], v, _, h => by simp at h
 | y :: xs, p + 1, u :: vs, v, hp, h => by
  obtain ⟨A, B, hAB⟩ := Gi (xs := xs) (p := p) (vs := vs) (v := v) (by simpa using hp) (by simpa using h)
  refine ⟨(ndOf (y, u)).toList ++ A, B, fun x => ?_⟩
  have := hAB x
  show ((y, u) :: (xs.set p x).zip vs).filterMap ndOf = _
  unfold nds at this
  cases hx : ndOf (y, u) with
  | none => rw [List.filterMap_cons_none hx, this]; rfl
  | some q => rw [List.filterMap_cons_some hx, this]; rfl
theorem Kp {xs : List AV} {p : Nat} {x : AV} (h : xs[p]? = some x) : xs.set p x = xs := by
 apply List.ext_getElem?
 intro q
 rw [List.getElem?_set]
 split
 ·rename_i he; subst he
  have := (List.getElem?_eq_some_iff.1 h).1
  rw [if_pos this, h]
 ·rfl
theorem vG {sz : Nat} {x : AV} {j : Nat} (hj : j < sz) : ∀ {rows : List (List AV)} {i : Nat} {row : List AV}, (∀ row ∈ rows, row.length = sz) → rows[i]? = some row → (rows.set i (row.set j x)).flatten = rows.flatten.set (i * sz + j) x
 | [], i, row, _, hi => by simp at hi
 | r :: rows, 0, row, h, hi => by
  simp at hi; subst hi
  have hr := h r (List.mem_cons_self ..)
  simp only [List.set_cons_zero, List.flatten_cons, Nat.zero_mul, Nat.zero_add]
  rw [List.set_append_left _ _ (by omega)]
 | r :: rows, i + 1, row, h, hi => by
  have hr := h r (List.mem_cons_self ..)
  have ih := vG (x := x) hj (rows := rows) (i := i) (row := row) (fun row hrow => h row (List.mem_cons_of_mem _ hrow)) (by simpa using hi)
  have e : (i + 1) * sz + j = r.length + (i * sz + j) := by rw [Nat.succ_mul, hr]; omega
  simp only [List.set_cons_succ, List.flatten_cons]
  rw [ih, e, List.set_append_right _ _ (by omega), Nat.add_sub_cancel_left]
theorem Nest.opened {w : World} {N : Nat → Prop} {v0 : Value} {cs : List AV} {vs : List Value} {f : List Nat} (h : Nest w N v0 (nds cs vs) f) {p e sz : Nat} {rows : List (List NV)} {v : Value} (hc : cs[p]? = some (.nd e sz rows)) (hv : vs[p]? = some v) :
  ∃ f1 f2 fd xs, f = f1 ++ ((bV v).toList ++ fd ++ f2) ∧ w.ownsRow 0 e sz v rows.length xs ∧ (∀ row ∈ rows, row.length = sz) ∧ NDL w N (rows.flatten.zip xs) fd ∧ ∀ x, isNd x = false → NDL w N (nds (cs.set p x) vs) (f1 ++ f2) := by
 obtain ⟨A, B, hAB⟩ := Gi (List.getElem?_eq_some_iff.1 hc).1 hv
 have h1 := hAB (.nd e sz rows)
 rw [Kp hc] at h1
 have hnd := h.nd
 rw [h1] at hnd
 obtain ⟨f1, f0, rfl, ha, hb⟩ := hnd.split
 have hb' : NDL w N ((NV.nd e sz rows, v) :: B) f0 := hb
 cases hb' with
 | @nd _ _ _ _ xs _ fd f2 ho hw hi hl =>
  refine ⟨f1, f2, fd, xs, rfl, ho, hw, hi, fun x hx => ?_⟩
  rw [hAB x, xD hx v]
  exact ha.app hl
theorem aFb {w : World} {e sz n : Nat} {v : Value} {xs : List Value} (h : w.ownsRow 0 e sz v n xs) : v.oneCell' = true := by
 rcases h.2 with ⟨rfl, _⟩ | ⟨g, cap, cur, rfl, _⟩ <;> rfl
section
variable {C : Ctx} {e : Env} {st : St} {g : Gh} {a : Act} {w : World}
theorem SR.opened (h : SR C e st g a w) {k kd ver el sz : Nat} {res res' : Res} {rows : List (List NV)} {v : Value} {f1 f2 fd : List Nat} {xs : List Value} (hk : aB k st.rs = (ver, res)) (hne : res ≠ .gone) (hne' : res' ≠ .gone) (hkd : (aB kd st.rs).2 = .gone)
  (hf : g.f k = f1 ++ ((bV v).toList ++ fd ++ f2)) (hdup : ((bV (g k)).toList ++ g.f k).Nodup) (ho : w.ownsRow 0 el sz v rows.length xs) (hw : ∀ row ∈ rows, row.length = sz) (hi : NDL w (e.N st g) (rows.flatten.zip xs) fd)
  (hr : ∀ (cur : Nat → Nat) (g' : Gh) (N : Nat → Prop), g' k = g k → g'.f k = f1 ++ f2 → AR cur g' w N (.os kd (st.cur kd + 1)) v → (∀ x y, AR st.cur g w (e.N st g) x y → AR cur g' w N x y) → (∀ b, b < w.heap.size → ¬ e.N st g b → w.heap[b]? = w.heap[b]? ∧ ¬ N b) → ResR cur g' w N k res') :
  ∃ g', SR C e { st with rs := putR kd (st.cur kd + 1, .sl el sz (rows.map (List.map nvC))) (putR k (ver, res') st.rs) } g' a w := by
 have hkk : k ≠ kd := fun he => hne (by rw [← he, hk] at hkd; exact hkd)
 generalize hst : ({ st with rs := putR kd (st.cur kd + 1, .sl el sz (rows.map (List.map nvC))) (putR k (ver, res') st.rs) } : St) = st'
 have hlook : ∀ i, aB i st'.rs = if i = kd then (st.cur kd + 1, .sl el sz (rows.map (List.map nvC))) else if i = k then (ver, res') else aB i st.rs := fun i => by
  rw [← hst]
  show aB i (putR kd _ (putR k _ st.rs)) = _
  rw [cX, cX]
 let g' : Gh := ⟨fun i => if i = kd then v else g i, fun i => if i = kd then fd else if i = k then f1 ++ f2 else g.f i⟩
 have gk : g' k = g k := if_neg hkk
 have gd : g' kd = v := if_pos rfl
 have fk : g'.f k = f1 ++ f2 := by show (if k = kd then fd else if k = k then f1 ++ f2 else g.f k) = _; rw [if_neg hkk, if_pos rfl]
 have fdd : g'.f kd = fd := if_pos rfl
 have go : ∀ i, i ≠ kd → g' i = g i := fun i h1 => if_neg h1
 have fo : ∀ i, i ≠ kd → i ≠ k → g'.f i = g.f i := fun i h1 h2 => by show (if i = kd then fd else if i = k then f1 ++ f2 else g.f i) = _; rw [if_neg h1, if_neg h2]
 have bk : ∀ b, blk st' g' k b → blk st g k b ∧ (bV (g k) = some b ∨ b ∈ f1 ++ f2) := fun b hb => by
  have h2 := hb.2
  rw [gk, fk] at h2
  exact ⟨⟨by rw [hk]; exact hne, h2.imp id fun hb => by rw [hf]; simp at hb ⊢; rcases hb with hb | hb <;> simp [hb]⟩, h2⟩
 have bd : ∀ b, blk st' g' kd b → blk st g k b ∧ b ∈ (bV v).toList ++ fd := fun b hb => by
  have h2 := hb.2
  rw [gd, fdd] at h2
  have h3 : b ∈ (bV v).toList ++ fd := by rcases h2 with h2 | h2 <;> simp [h2]
  exact ⟨⟨by rw [hk]; exact hne, .inr (by rw [hf]; simp at h3 ⊢; rcases h3 with h3 | h3 <;> simp [h3])⟩, h3⟩
 have bo : ∀ i b, i ≠ kd → i ≠ k → blk st' g' i b → blk st g i b := fun i b h1 h2 hb => by
  have := xT (st := st) (st' := st') (g := g) (g' := g') (k := i) (by rw [hlook, if_neg h1, if_neg h2]) (go i h1) (fo i h1 h2)
  rw [← this]; exact hb
 have apart : ∀ b, (bV (g k) = some b ∨ b ∈ f1 ++ f2) → b ∈ (bV v).toList ++ fd → False := fun b h1 h2 => by
  rw [hf] at hdup
  rw [show (bV (g k)).toList ++ (f1 ++ ((bV v).toList ++ fd ++ f2)) = ((bV (g k)).toList ++ f1) ++ (((bV v).toList ++ fd) ++ f2) by simp only [List.append_assoc]] at hdup
  obtain ⟨d1, d2, d3⟩ := List.nodup_append.1 hdup
  obtain ⟨d4, d5, d6⟩ := List.nodup_append.1 d2
  rcases h1 with h1 | h1
  ·exact d3 b (by simp [h1]) b (List.mem_append_left _ h2) rfl
  ·rcases List.mem_append.1 h1 with h1 | h1
   ·exact d3 b (List.mem_append_right _ h1) b (List.mem_append_left _ h2) rfl
   ·exact d6 b h2 b h1 rfl
 have hv1 := aFb ho
 refine ⟨g', h.turn2 (by rw [← hst]) (by rw [← hst]) (fun b ⟨i, hb⟩ => ?_) (fun i => ?_) (fun i j b hb hb' => ?_) fun hl hN i => ?_⟩
 ·by_cases h1 : i = kd
  ·subst h1; exact ⟨k, (bd b hb).1⟩
  ·by_cases h2 : i = k
   ·subst h2; exact ⟨i, (bk b hb).1⟩
   ·exact ⟨i, bo i b h1 h2 hb⟩
 ·by_cases h1 : i = kd
  ·subst h1; left; simp only [St.cur, hlook, if_true]; omega
  ·right
   refine ⟨?_, (go i h1).symm⟩
   simp only [St.cur, hlook, if_neg h1]
   by_cases h2 : i = k
   ·subst h2; rw [if_pos rfl, hk]
   ·rw [if_neg h2]
 ·by_cases h1 : i = kd <;> by_cases h2 : j = kd
  ·rw [h1, h2]
  ·subst h1
   obtain ⟨q1, q2⟩ := bd b hb
   by_cases h3 : j = k
   ·subst h3; exact (apart b (bk b hb').2 q2).elim
   ·exact absurd (h.uniq k j b q1 (bo j b h2 h3 hb')).symm h3
  ·subst h2
   obtain ⟨q1, q2⟩ := bd b hb'
   by_cases h3 : i = k
   ·subst h3; exact (apart b (bk b hb).2 q2).elim
   ·exact absurd (h.uniq k i b q1 (bo i b h1 h3 hb)).symm h3
  ·have t : ∀ i, i ≠ kd → blk st' g' i b → blk st g i b := fun i h1 hb => by
    by_cases h3 : i = k
    ·subst h3; exact (bk b hb).1
    ·exact bo i b h1 h3 hb
   exact h.uniq i j b (t i h1 hb) (t j h2 hb')
 ·rw [hlook]
  by_cases h1 : i = kd
  ·subst h1
   rw [if_pos rfl]
   refine ⟨xs, by rw [gd, List.length_map]; exact ho, fun row hrow => ?_, fun i' j row x y hi' hj hy => ?_, ?_⟩
   ·obtain ⟨r, hr', rfl⟩ := List.mem_map.1 hrow
    rw [List.length_map]; exact hw r hr'
   ·rw [List.getElem?_map] at hi'
    cases hri : rows[i']? with
    | none => simp [hri] at hi'
    | some r =>
     simp [hri] at hi'; subst hi'
     rw [List.getElem?_map] at hj
     cases hrj : r[j]? with
     | none => simp [hrj] at hj
     | some z =>
      simp [hrj] at hj; subst hj
      cases z with
      | r x0 => exact hl _ _ (.r (hi.mem_r (List.mem_of_getElem? (i := i' * sz + j) (List.getElem?_zip_eq_some.2 ⟨lS hw hri hrj, hy⟩))))
      | nd e' sz' rows' => exact .nd _ _ _ _
   ·rw [gd, fdd, ← List.map_flatten, Gp]
    refine ⟨hi.filt.lift (Nat.le_refl _) hN fun _ _ => rfl, ?_⟩
    rw [hf] at hdup
    exact (List.nodup_append.1 (List.nodup_append.1 (List.nodup_append.1 hdup).2.1).2.1).1
  ·rw [if_neg h1]
   by_cases h2 : i = k
   ·subst h2
    rw [if_pos rfl]
    exact hr _ _ _ gk fk (.os kd _ v hv1 (.inr ⟨by simp only [St.cur, hlook, if_true], gd.symm⟩)) hl hN
   ·rw [if_neg h2]
    exact (h.res i).mono2 hl hN (go i h1) (fo i h1 h2)
theorem Sr {A f1 D f2 : List Nat} (h : (A ++ (f1 ++ (D ++ f2))).Nodup) : (A ++ (f1 ++ f2)).Nodup :=
 h.sublist (List.Sublist.append (List.Sublist.refl _) (List.Sublist.append (List.Sublist.refl _) (List.sublist_append_right _ _)))
theorem SR.openB (h : SR C e st g a w) {k kd j ver el sz : Nat} {cells : List AV} {rows : List (List NV)} (hk : aB k st.rs = (ver, .bx cells)) (hj : cells[j]? = some (.nd el sz rows)) (hkd : (aB kd st.rs).2 = .gone) :
  ∃ g', SR C e { st with rs := putR kd (st.cur kd + 1, .sl el sz (rows.map (List.map nvC))) (putR k (ver, .bx (cells.set j (.os kd (st.cur kd + 1)))) st.rs) } g' a w := by
 have hres := h.res k
 rw [hk] at hres
 obtain ⟨b, C', el', h1, h2, h3, h4, h5⟩ := hres
 have hlt : j < C'.size := by rw [h3]; exact (List.getElem?_eq_some_iff.1 hj).1
 have hv : C'.toList[j]? = some C'[j] := by simp [hlt]
 obtain ⟨f1, f2, fd, xs, hf, ho, hw, hi, hset⟩ := h5.opened hj hv
 refine h.opened hk (by simp) (by simp) hkd hf h5.dup ho hw hi fun cur g' N q1 q2 q3 hl hN => ⟨b, C', el', by rw [q1]; exact h1, h2, by rw [List.length_set]; exact h3, fun i x y hx hy => ?_, ?_⟩
 ·rw [List.getElem?_set] at hx
  by_cases hij : j = i
  ·subst hij
   rw [if_pos rfl, if_pos (by omega)] at hx
   cases hx
   rw [Array.getElem?_eq_getElem hlt] at hy
   cases hy; exact q3
  ·rw [if_neg hij] at hx
   exact hl _ _ (h4 i x y hx hy)
 ·rw [q1, q2]
  refine ⟨(hset _ rfl).lift (Nat.le_refl _) hN fun _ _ => rfl, ?_⟩
  have := h5.dup
  rw [hf] at this
  exact Sr (D := (bV C'[j]).toList ++ fd) this
theorem SR.openS (h : SR C e st g a w) {k kd i j ver el' sz' el sz : Nat} {rows' : List (List AV)} {row : List AV} {rows : List (List NV)} (hk : aB k st.rs = (ver, .sl el' sz' rows')) (hi' : rows'[i]? = some row) (hj : row[j]? = some (.nd el sz rows)) (hkd : (aB kd st.rs).2 = .gone) :
  ∃ g', SR C e { st with rs := putR kd (st.cur kd + 1, .sl el sz (rows.map (List.map nvC))) (putR k (ver, .sl el' sz' (rows'.set i (row.set j (.os kd (st.cur kd + 1))))) st.rs) } g' a w := by
 obtain ⟨ys, h1, h2, h3, h5⟩ := rE h hk
 have hrl := h2 row (List.mem_of_getElem? hi')
 have hjs : j < sz' := by rw [← hrl]; exact (List.getElem?_eq_some_iff.1 hj).1
 have hir := (List.getElem?_eq_some_iff.1 hi').1
 have hlt : i * sz' + j < ys.length := by
  rw [h1.1]
  have := Nat.mul_le_mul_right sz' (Nat.succ_le_of_lt hir)
  rw [Nat.succ_mul] at this; omega
 have hv : ys[i * sz' + j]? = some ys[i * sz' + j] := List.getElem?_eq_getElem hlt
 obtain ⟨f1, f2, fd, xs, hf, ho, hw, hi, hset⟩ := h5.opened (lS h2 hi' hj) hv
 refine h.opened hk (by simp) (by simp) hkd hf h5.dup ho hw hi fun cur g' N q1 q2 q3 hl hN => ⟨ys, by rw [q1, List.length_set]; exact h1, fun r hr => ?_, fun i2 j2 r x y hr hx hy => ?_, ?_⟩
 ·rcases List.mem_or_eq_of_mem_set hr with hr | rfl
  ·exact h2 r hr
  ·rw [List.length_set]; exact hrl
 ·rw [List.getElem?_set] at hr
  by_cases hii : i = i2
  ·subst hii
   rw [if_pos rfl, if_pos hir] at hr
   cases hr
   rw [List.getElem?_set] at hx
   by_cases hjj : j = j2
   ·subst hjj
    rw [if_pos rfl, if_pos (by omega)] at hx
    cases hx
    rw [hv] at hy; cases hy; exact q3
   ·rw [if_neg hjj] at hx
    exact hl _ _ (h3 i j2 row x y hi' hx hy)
  ·rw [if_neg hii] at hr
   exact hl _ _ (h3 i2 j2 r x y hr hx hy)
 ·rw [q1, q2, vG hjs h2 hi']
  refine ⟨(hset _ rfl).lift (Nat.le_refl _) hN fun _ _ => rfl, ?_⟩
  have := h5.dup
  rw [hf] at this
  exact Sr (D := (bV ys[i * sz' + j]).toList ++ fd) this
theorem Nest.closed {w : World} {N : Nat → Prop} {v0 : Value} {cs : List AV} {vs : List Value} {f : List Nat} (h : Nest w N v0 (nds cs vs) f) {p : Nat} {z : AV} {v : Value} (hc : cs[p]? = some z) (hz : isNd z = false) (hv : vs[p]? = some v) :
  ∃ f1 f2, f = f1 ++ f2 ∧ ∀ (N' : Nat → Prop), (∀ b, b < w.heap.size → ¬ N b → w.heap[b]? = w.heap[b]? ∧ ¬ N' b) → ∀ (e sz : Nat) (rows : List (List NV)) (xs : List Value) (fd : List Nat), w.ownsRow 0 e sz v rows.length xs → (∀ row ∈ rows, row.length = sz) → NDL w N' (rows.flatten.zip xs) fd →
   NDL w N' (nds (cs.set p (.nd e sz rows)) vs) (f1 ++ ((bV v).toList ++ fd ++ f2)) := by
 obtain ⟨A, B, hAB⟩ := Gi (List.getElem?_eq_some_iff.1 hc).1 hv
 have h1 := hAB z
 rw [Kp hc, xD hz v] at h1
 have hnd := h.nd
 rw [h1] at hnd
 obtain ⟨f1, f2, rfl, ha, hb⟩ := hnd.split
 refine ⟨f1, f2, rfl, fun N' hN e sz rows xs fd ho hw hi => ?_⟩
 rw [hAB]
 exact (ha.lift (Nat.le_refl _) hN fun _ _ => rfl).app (.nd ho hw hi (NDL.lift (l := B) hb (Nat.le_refl _) hN fun _ _ => rfl))
theorem SR.closed (h : SR C e st g a w) {k kd ver vd el sz : Nat} {res res' : Res} {rows : List (List NV)} {f1 f2 : List Nat} (hk : aB k st.rs = (ver, res)) (hne : res ≠ .gone) (hne' : res' ≠ .gone) (hkk : k ≠ kd) (hkd : aB kd st.rs = (vd, .sl el sz (rows.map (List.map nvC))))
  (hf : g.f k = f1 ++ f2) (hdup : ((bV (g k)).toList ++ g.f k).Nodup)
  (hr : ∀ (cur : Nat → Nat) (g' : Gh) (N : Nat → Prop) (xs : List Value), g' k = g k → g'.f k = f1 ++ ((bV (g kd)).toList ++ g.f kd ++ f2) → ((bV (g k)).toList ++ g'.f k).Nodup → w.ownsRow 0 el sz (g kd) rows.length xs → (∀ row ∈ rows, row.length = sz) → NDL w N (rows.flatten.zip xs) (g.f kd) →
   (∀ x y, AR st.cur g w (e.N st g) x y → AR cur g' w N x y) → (∀ b, b < w.heap.size → ¬ e.N st g b → w.heap[b]? = w.heap[b]? ∧ ¬ N b) → ResR cur g' w N k res') :
  ∃ g', SR C e { st with rs := putR kd (vd + 1, .gone) (putR k (ver, res') st.rs) } g' a w := by
 obtain ⟨xs, ho, hw0, har, hnest⟩ := rE h hkd
 rw [List.length_map] at ho
 have hw : ∀ row ∈ rows, row.length = sz := fun row hrow => by
  have := hw0 _ (List.mem_map.2 ⟨row, hrow, rfl⟩)
  rwa [List.length_map] at this
 have hi : NDL w (e.N st g) (rows.flatten.zip xs) (g.f kd) := by
  have h1 := hnest.nd
  rw [← List.map_flatten, Gp] at h1
  refine h1.unfilt fun x v hm => ?_
  obtain ⟨p, hp⟩ := List.getElem?_of_mem hm
  obtain ⟨hp1, hp2⟩ := List.getElem?_zip_eq_some.1 hp
  have hpl : p < rows.length * sz := by
   have := (List.getElem?_eq_some_iff.1 hp1).1
   rwa [pW hw] at this
  obtain ⟨d1, d2, d3⟩ := Oe hpl
  have hr1 : rows[p / sz]? = some rows[p / sz] := List.getElem?_eq_getElem d1
  have hl1 := hw _ (List.mem_of_getElem? hr1)
  have hr2 : rows[p / sz][p % sz]? = some rows[p / sz][p % sz] := List.getElem?_eq_getElem (by omega)
  have h2 := lS hw hr1 hr2
  rw [d3] at h2
  have h3 : NV.r x = rows[p / sz][p % sz] := Option.some.inj (hp1.symm.trans h2)
  have h4 := har (p / sz) (p % sz) (rows[p / sz].map nvC) (.r x) v (by rw [List.getElem?_map, hr1]; rfl) (by rw [List.getElem?_map, hr2, ← h3]; rfl) (by rw [d3]; exact hp2)
  cases h4 with | r h4 => exact h4
 generalize hst : ({ st with rs := putR kd (vd + 1, .gone) (putR k (ver, res') st.rs) } : St) = st'
 have hlook : ∀ i, aB i st'.rs = if i = kd then (vd + 1, .gone) else if i = k then (ver, res') else aB i st.rs := fun i => by
  rw [← hst]
  show aB i (putR kd _ (putR k _ st.rs)) = _
  rw [cX, cX]
 let g' : Gh := ⟨g.v, fun i => if i = k then f1 ++ ((bV (g kd)).toList ++ g.f kd ++ f2) else g.f i⟩
 have fk : g'.f k = f1 ++ ((bV (g kd)).toList ++ g.f kd ++ f2) := if_pos rfl
 have fo : ∀ i, i ≠ k → g'.f i = g.f i := fun i h1 => if_neg h1
 have hkd1 : (aB kd st.rs).2 ≠ .gone := by rw [hkd]; simp
 have hk1 : (aB k st.rs).2 ≠ .gone := by rw [hk]; exact hne
 have bk : ∀ b, blk st' g' k b → blk st g k b ∨ blk st g kd b := fun b hb => by
  rcases hb.2 with h2 | h2
  ·exact .inl ⟨hk1, .inl h2⟩
  ·rw [fk] at h2
   simp only [List.mem_append, Option.mem_toList] at h2
   rcases h2 with h2 | (h2 | h2) | h2
   ·exact .inl ⟨hk1, .inr (by rw [hf]; simp [h2])⟩
   ·exact .inr ⟨hkd1, .inl h2⟩
   ·exact .inr ⟨hkd1, .inr h2⟩
   ·exact .inl ⟨hk1, .inr (by rw [hf]; simp [h2])⟩
 have bd : ∀ b, ¬ blk st' g' kd b := fun b hb => hb.1 (by rw [hlook, if_pos rfl])
 have bo : ∀ i b, i ≠ kd → i ≠ k → blk st' g' i b → blk st g i b := fun i b h1 h2 hb => by
  have := xT (st := st) (st' := st') (g := g) (g' := g') (k := i) (by rw [hlook, if_neg h1, if_neg h2]) rfl (fo i h2)
  rw [← this]; exact hb
 have hdup' : ((bV (g k)).toList ++ g'.f k).Nodup := by
  rw [fk]
  have hp : List.Perm ((bV (g k)).toList ++ (f1 ++ ((bV (g kd)).toList ++ g.f kd ++ f2))) (((bV (g k)).toList ++ (f1 ++ f2)) ++ ((bV (g kd)).toList ++ g.f kd)) := by
   rw [List.append_assoc _ (f1 ++ f2), List.append_assoc f1 f2]
   exact List.Perm.append_left _ (List.Perm.append_left _ List.perm_append_comm)
  rw [hp.nodup_iff]
  refine List.nodup_append.2 ⟨by rw [← hf]; exact hdup, hnest.dup, fun b hb c hc he => ?_⟩
  subst he
  have q1 : blk st g k b := ⟨hk1, by rw [hf]; simp only [List.mem_append, Option.mem_toList] at hb ⊢; exact hb⟩
  have q2 : blk st g kd b := ⟨hkd1, by simp only [List.mem_append, Option.mem_toList] at hc; exact hc⟩
  exact hkk (h.uniq _ _ b q1 q2)
 refine ⟨g', h.turn2 (by rw [← hst]) (by rw [← hst]) (fun b ⟨i, hb⟩ => ?_) (fun i => ?_) (fun i j b hb hb' => ?_) fun hl hN i => ?_⟩
 ·by_cases h1 : i = kd
  ·subst h1; exact absurd hb (bd b)
  ·by_cases h2 : i = k
   ·subst h2; exact (bk b hb).elim (fun hb => ⟨i, hb⟩) fun hb => ⟨kd, hb⟩
   ·exact ⟨i, bo i b h1 h2 hb⟩
 ·by_cases h1 : i = kd
  ·subst h1; left; simp only [St.cur, hlook, if_true, hkd]; omega
  ·right
   refine ⟨?_, rfl⟩
   simp only [St.cur, hlook, if_neg h1]
   by_cases h2 : i = k
   ·subst h2; rw [if_pos rfl, hk]
   ·rw [if_neg h2]
 ·have n1 : i ≠ kd := fun he => bd b (he ▸ hb)
  have n2 : j ≠ kd := fun he => bd b (he ▸ hb')
  by_cases h1 : i = k <;> by_cases h2 : j = k
  ·rw [h1, h2]
  ·subst h1
   rcases bk b hb with q | q
   ·exact h.uniq _ _ b q (bo j b n2 h2 hb')
   ·exact absurd (h.uniq _ _ b q (bo j b n2 h2 hb')).symm n2
  ·subst h2
   rcases bk b hb' with q | q
   ·exact h.uniq _ _ b (bo i b n1 h1 hb) q
   ·exact absurd (h.uniq _ _ b (bo i b n1 h1 hb) q) n1
  ·exact h.uniq _ _ b (bo i b n1 h1 hb) (bo j b n2 h2 hb')
 ·rw [hlook]
  by_cases h1 : i = kd
  ·subst h1; rw [if_pos rfl]; trivial
  ·rw [if_neg h1]
   by_cases h2 : i = k
   ·subst h2
    rw [if_pos rfl]
    exact hr _ _ _ xs rfl fk hdup' ho hw (hi.lift (Nat.le_refl _) hN fun _ _ => rfl) hl hN
   ·rw [if_neg h2]
    exact (h.res i).mono2 hl hN rfl (fo i h2)
theorem SR.closeS (h : SR C e st g a w) {k kd i j ver vd el' sz' el sz : Nat} {rows' : List (List AV)} {row : List AV} {rows : List (List NV)} (hk : aB k st.rs = (ver, .sl el' sz' rows')) (hi' : rows'[i]? = some row) (hj : row[j]? = some (.os kd vd)) (hkk : k ≠ kd) (hkd : aB kd st.rs = (vd, .sl el sz (rows.map (List.map nvC)))) :
  ∃ g', SR C e { st with rs := putR kd (vd + 1, .gone) (putR k (ver, .sl el' sz' (rows'.set i (row.set j (.nd el sz rows)))) st.rs) } g' a w := by
 obtain ⟨ys, h1, h2, h3, h5⟩ := rE h hk
 have hrl := h2 row (List.mem_of_getElem? hi')
 have hjs : j < sz' := by rw [← hrl]; exact (List.getElem?_eq_some_iff.1 hj).1
 have hir := (List.getElem?_eq_some_iff.1 hi').1
 have hlt : i * sz' + j < ys.length := by
  rw [h1.1]
  have := Nat.mul_le_mul_right sz' (Nat.succ_le_of_lt hir)
  rw [Nat.succ_mul] at this; omega
 have hv : ys[i * sz' + j]? = some ys[i * sz' + j] := List.getElem?_eq_getElem hlt
 obtain ⟨f1, f2, hf, hcl⟩ := h5.closed (lS h2 hi' hj) rfl hv
 have hvg : ys[i * sz' + j] = g kd := jA (h3 i j row _ _ hi' hj hv) (curk kd hkd).symm
 refine h.closed hk (by simp) (by simp) hkk hkd hf h5.dup fun cur g' N xs q1 q2 q3 ho hw hi hl hN => ⟨ys, by rw [q1, List.length_set]; exact h1, fun r hr => ?_, fun i2 j2 r x y hr hx hy => ?_, ?_⟩
 ·rcases List.mem_or_eq_of_mem_set hr with hr | rfl
  ·exact h2 r hr
  ·rw [List.length_set]; exact hrl
 ·rw [List.getElem?_set] at hr
  by_cases hii : i = i2
  ·subst hii
   rw [if_pos rfl, if_pos hir] at hr
   cases hr
   rw [List.getElem?_set] at hx
   by_cases hjj : j = j2
   ·subst hjj
    rw [if_pos rfl, if_pos (by omega)] at hx
    cases hx; exact .nd _ _ _ _
   ·rw [if_neg hjj] at hx
    exact hl _ _ (h3 i j2 row x y hi' hx hy)
  ·rw [if_neg hii] at hr
   exact hl _ _ (h3 i2 j2 r x y hr hx hy)
 ·refine ⟨?_, by rw [q1]; exact q3⟩
  rw [q2, vG hjs h2 hi', ← hvg]
  exact hcl N hN el sz rows xs _ (by rw [hvg]; exact ho) hw hi
end
section
variable {C : Ctx} {T T' : List (Ct C)} {r : List It} {st st' : St} {K : Exit → St → Prop}
theorem Rn_T (T' : List (Ct C)) (h : Rn C T' r st K) : Rn C T r st K := by
 unfold Rn at *; exact h
theorem gZ (k i j kd : Nat) {ver el' sz' el sz : Nat} {rows' : List (List AV)} {row : List AV} {rows : List (List NV)} (hk : aB k st.rs = (ver, .sl el' sz' rows')) (hi : rows'[i]? = some row) (hj : row[j]? = some (.nd el sz rows)) (hkd : (aB kd st.rs).2 = .gone) (hr : hasC r = true)
  (hst : ∀ K0 : St → Prop, Imp (K0 st') (K0 { st with rs := putR kd (st.cur kd + 1, .sl el sz (rows.map (List.map nvC))) (putR k (ver, .sl el' sz' (rows'.set i (row.set j (.os kd (st.cur kd + 1))))) st.rs) })) (hk2 : Rn C T r st' K) : Rn C T r st K := by
 have hk' := (hst fun s => Rn C T r s K).run hk2
 exact tY hr (fun e a w ⟨ho, g, hs⟩ => ⟨ho, hs.openS hk hi hj hkd⟩) hk'
theorem dD (k i j kd : Nat) {ver vd el' sz' el sz : Nat} {rows' : List (List AV)} {row : List AV} (rows : List (List NV)) (hk : aB k st.rs = (ver, .sl el' sz' rows')) (hi : rows'[i]? = some row) (hj : row[j]? = some (.os kd vd)) (hkk : k ≠ kd) (hkd : aB kd st.rs = (vd, .sl el sz (rows.map (List.map nvC)))) (hr : hasC r = true)
  (hst : ∀ K0 : St → Prop, Imp (K0 st') (K0 { st with rs := putR kd (vd + 1, .gone) (putR k (ver, .sl el' sz' (rows'.set i (row.set j (.nd el sz rows)))) st.rs) })) (hk2 : Rn C T r st' K) : Rn C T r st K := by
 have hk' := (hst fun s => Rn C T r s K).run hk2
 exact tY hr (fun e a w ⟨ho, g, hs⟩ => ⟨ho, hs.closeS hk hi hj hkk hkd⟩) hk'
end
def Qz (m : List (Nat × Nat × Nat)) (st : St) : List (Nat × Nat × Res) → Prop
 | [] => True
 | (k, v, x) :: l => aB (mpS m k) st.rs = (v + mpD m k, dQ (mpS m) (mpD m) x) ∧ Qz m st l
theorem Jh {m : List (Nat × Nat × Nat)} {st : St} : ∀ {l : List (Nat × Nat × Res)}, Qz m st l → ∀ p ∈ l, aB (mpS m p.1) st.rs = (p.2.1 + mpD m p.1, dQ (mpS m) (mpD m) p.2.2)
 | [], _, p, hp => by simp at hp
 | (k, v, x) :: l, h, p, hp => by
  rcases List.mem_cons.1 hp with rfl | hp
  ·exact h.1
  ·exact Jh h.2 p hp
def spQ (m : List (Nat × Nat × Nat)) (args0 : List AV) (rs0 : List (Nat × Nat × Res)) (r0 : AV) (rs1 : List (Nat × Nat × Res)) (st : St) (_ : Nat) (args : List AV) (K : AV → List Loc → List (Loc × Cont) → Prop) : Prop :=
 (args = renL (mpS m) (mpD m) args0 ∧ Qz m st rs0) ∧ K (ren (mpS m) (mpD m) r0) (m.map fun q => .R (mpS m q.1)) (m.map fun q => (.R (mpS m q.1), .s ((aB q.1 rs1).1 + mpD m q.1) (dQ (mpS m) (mpD m) (aB q.1 rs1).2)))
structure QOk {C : Ctx} (f : Nat) (m : List (Nat × Nat × Nat)) (args0 : List AV) (rs0 : List (Nat × Nat × Res)) (r0 : AV) (rs1 : List (Nat × Nat × Res)) : Prop where
 fc : FC C f args0 rs0 r0 rs1
 keys : ((rs0 ++ rs1).all fun p => m.any fun q => q.1 == p.1) = true
 nd : ndB (m.map (·.2.1)) = true
 same : (m.all fun q => domR rs0 q.1 && domR rs1 q.1) = true
 args : aX (domR rs0) args0 = true
 res : bK (domR rs1) r0 = true
 in0 : ∀ p ∈ rs0, bP (domR rs0) p.2.2
 in1 : ∀ p ∈ rs1, bP (domR rs1) p.2.2
theorem aKo {C : Ctx} {f : Nat} {m : List (Nat × Nat × Nat)} {args0 : List AV} {rs0 : List (Nat × Nat × Res)} {r0 : AV} {rs1 : List (Nat × Nat × Res)} (q : QOk (C := C) f m args0 rs0 r0 rs1) (st : St) (d : Nat) (args : List AV) (K : AV → List Loc → List (Loc × Cont) → Prop) (h : spQ m args0 rs0 r0 rs1 st d args K) :
  ∃ r ls outs, dI C f st args r ls outs ∧ K r ls outs := by
 obtain ⟨⟨rfl, h2⟩, h3⟩ := h
 have hsame : ∀ p ∈ m, domR rs0 p.1 = true ∧ domR rs1 p.1 = true := fun p hp => by
  have := List.all_eq_true.1 q.same p hp
  simpa using this
 refine ⟨_, _, _, ?_, h3⟩
 have hc := dI.gen (st := st) q.fc m q.keys (Ca q.nd) q.args q.res q.in0 q.in1 (Jh h2) fun p hp d0 _ => by
  rw [(hsame p hp).1] at d0; cases d0
 have e : (m.map fun q => ((.R (mpS m q.1), .s (jT (mpD m) (mpS m) rs1 st q.1) (dQ (mpS m) (mpD m) (aB q.1 rs1).2)) : Loc × Cont)) = m.map fun q => (.R (mpS m q.1), .s ((aB q.1 rs1).1 + mpD m q.1) (dQ (mpS m) (mpD m) (aB q.1 rs1).2)) :=
  List.map_congr_left fun p hp => by unfold jT; rw [if_pos (hsame p hp).2]
 rwa [e] at hc
noncomputable def ctQ {C : Ctx} (f : Nat) (m : List (Nat × Nat × Nat)) (args0 : List AV) (rs0 : List (Nat × Nat × Res)) (r0 : AV) (rs1 : List (Nat × Nat × Res)) (he : aF C.P f) (q : QOk (C := C) f m args0 rs0 r0 rs1) : Ct C := .res f (spQ m args0 rs0 r0 rs1) he (aKo q)
theorem aXl {C : Ctx} (f : Nat) (m : List (Nat × Nat × Nat)) (args0 : List AV) (rs0 : List (Nat × Nat × Res)) (r0 : AV) (rs1 : List (Nat × Nat × Res)) (he : aF C.P f) (q : QOk (C := C) f m args0 rs0 r0 rs1) : (ctQ f m args0 rs0 r0 rs1 he q).g = f := rfl
theorem aFn {C : Ctx} (f : Nat) (m : List (Nat × Nat × Nat)) (args0 : List AV) (rs0 : List (Nat × Nat × Res)) (r0 : AV) (rs1 : List (Nat × Nat × Res)) (he : aF C.P f) (q : QOk (C := C) f m args0 rs0 r0 rs1) (c : Call) (fop : Operand) (cs : List AV) (o : Oper) (st : St) (K : List Loc → List (Loc × Cont) → Prop) : (ctQ f m args0 rs0 r0 rs1 he q).run c fop cs o st K = kO (spQ m args0 rs0 r0 rs1) c fop cs o st K := rfl
theorem fzB {C : Ctx} {T : List (Ct C)} {r : List It} {st st' : St} {K : Exit → St → Prop} (k : Nat) {ver : Nat} {cells : List AV} {row : List RV} (h : Rn C T r st' K) (hk : aB k st.rs = (ver, .bx cells) := by exact rfl) (hc : roL cells = some row := by exact rfl) (hr : hasC r = true := by exact rfl)
  (hst : ∀ K0 : St → Prop, Imp (K0 st') (K0 (hJ k ver (.rp row) st)) := by intro K0; (try simp only [go_sem]); exact ⟨id⟩) : Rn C T r st K := aG7 k hk hc hr hst h
theorem aD {C : Ctx} (T : List (Ct C)) {f : Nat} {fn : Func} {body : Code} {args : List AV} {r : AV} {st' : St} (hf : C.P.funcs[f]? = some fn) {nt : Nat} (hnt : fn.ntmps = nt) {rl : List ResultVar} (hr : fn.results = rl.toArray) (h : Rn C T [.c body] st' (FinK C rl r)) (hb : fn.body = some body := by exact rfl) (hn : args.length ≤ nt := by simp)
  (hw : bK bR r = true := by exact rfl) (hst : ∀ K0 : St → Prop, Imp (K0 st') (K0 ⟨nt, argT 0 args, []⟩) := by intro K0; simp only [go_sem]; exact ⟨id⟩) : FC C f args [] r [] := aKv T hf hb hnt hn hr hw (pM hst h)
theorem rnst {C : Ctx} {T : List (Ct C)} {r : List It} {st st' : St} {K : Exit → St → Prop} (h : Rn C T r st' K) (hst : ∀ K0 : St → Prop, Imp (K0 st') (K0 st) := by intro K0; simp only [go_sem]; exact ⟨id⟩) : Rn C T r st K := pM hst h
@[go_sem] theorem aXn : aO Tryz.prog 3 = 1 := by kernel_rfl
@[go_sem] theorem aX8 : aggT Tryz.prog 3 = false := by kernel_rfl
@[go_sem] theorem aP0 : bD Tryz.prog 3 = true := by kernel_rfl
@[go_sem] theorem aPh : dX Tryz.prog 3 = 8 := by kernel_rfl
@[go_sem] theorem aSo (K : List AV → Prop) : bG Tryz.prog 3 K = K [.r (.v (.int .i64 0))] := by kernel_rfl
@[go_sem] theorem aWm : gH Tryz.prog 3 = some (.int .i64 0) := by kernel_rfl
@[go_sem] theorem aRa : aO Tryz.prog 4 = 1 := by kernel_rfl
@[go_sem] theorem aYn : aggT Tryz.prog 4 = false := by kernel_rfl
@[go_sem] theorem aOb : bD Tryz.prog 4 = true := by kernel_rfl
@[go_sem] theorem aN3 : dX Tryz.prog 4 = 1 := by kernel_rfl
@[go_sem] theorem aS2 (K : List AV → Prop) : bG Tryz.prog 4 K = K [.r (.v (.bool false))] := by kernel_rfl
@[go_sem] theorem aSz : Qf Tryz.prog 4 = true := by kernel_rfl
@[go_sem] theorem aU2 : aO Tryz.prog 9 = 1 := by kernel_rfl
@[go_sem] theorem aX2 : aggT Tryz.prog 9 = false := by kernel_rfl
@[go_sem] theorem aPt : bD Tryz.prog 9 = true := by kernel_rfl
@[go_sem] theorem aPw : dX Tryz.prog 9 = 16 := by kernel_rfl
@[go_sem] theorem aVg (K : List AV → Prop) : bG Tryz.prog 9 K = K [.r (.v (.string ⟨#[]⟩))] := by kernel_rfl
@[go_sem] theorem aX5 : rA Tryz.prog 9 = true := by kernel_rfl
@[go_sem] theorem aSq : gH Tryz.prog 9 = some (.string ⟨#[]⟩) := by kernel_rfl
@[go_sem] theorem aTg : aggT Tryz.prog 22 = false := by kernel_rfl
@[go_sem] theorem aKc : bD Tryz.prog 22 = true := by kernel_rfl
@[go_sem] theorem aYr : fC Tryz.prog 22 = true := by kernel_rfl
@[go_sem] theorem aOa : eZ Tryz.prog 22 = some 87 := by kernel_rfl
@[go_sem] theorem aPk : aO Tryz.prog 23 = 1 := by kernel_rfl
@[go_sem] theorem aUf : aggT Tryz.prog 23 = false := by kernel_rfl
@[go_sem] theorem aLc : bD Tryz.prog 23 = true := by kernel_rfl
@[go_sem] theorem aX3 : fC Tryz.prog 23 = true := by kernel_rfl
@[go_sem] theorem aQz : eZ Tryz.prog 23 = some 50 := by kernel_rfl
@[go_sem] theorem aOy : aO Tryz.prog 24 = 1 := by kernel_rfl
@[go_sem] theorem aSk : aggT Tryz.prog 24 = false := by kernel_rfl
@[go_sem] theorem aM1 : bD Tryz.prog 24 = true := by kernel_rfl
@[go_sem] theorem aX4 : fC Tryz.prog 24 = true := by kernel_rfl
@[go_sem] theorem aN9 : eZ Tryz.prog 24 = some 9 := by kernel_rfl
@[go_sem] theorem aOl : aO Tryz.prog 26 = 3 := by kernel_rfl
@[go_sem] theorem aUk : aggT Tryz.prog 26 = true := by kernel_rfl
@[go_sem] theorem aL1 : bD Tryz.prog 26 = true := by kernel_rfl
@[go_sem] theorem aWg : bE Tryz.prog 26 0 = some (0, 1) := by kernel_rfl
@[go_sem] theorem aRi : bE Tryz.prog 26 1 = some (1, 1) := by kernel_rfl
@[go_sem] theorem aSp : bE Tryz.prog 26 2 = some (2, 1) := by kernel_rfl
@[go_sem] theorem aOd : aO Tryz.prog 27 = 1 := by kernel_rfl
@[go_sem] theorem aRx : aggT Tryz.prog 27 = false := by kernel_rfl
@[go_sem] theorem aNa : bD Tryz.prog 27 = true := by kernel_rfl
@[go_sem] theorem aYp : fC Tryz.prog 27 = true := by kernel_rfl
@[go_sem] theorem aQb : eZ Tryz.prog 27 = some 48 := by kernel_rfl
@[go_sem] theorem aOf : aO Tryz.prog 28 = 1 := by kernel_rfl
@[go_sem] theorem aWe : aggT Tryz.prog 28 = false := by kernel_rfl
@[go_sem] theorem aM6 : bD Tryz.prog 28 = true := by kernel_rfl
@[go_sem] theorem aYg : fC Tryz.prog 28 = true := by kernel_rfl
@[go_sem] theorem aOh : eZ Tryz.prog 28 = some 97 := by kernel_rfl
@[go_sem] theorem aPs : aO Tryz.prog 29 = 1 := by kernel_rfl
@[go_sem] theorem aR0 : aggT Tryz.prog 29 = false := by kernel_rfl
@[go_sem] theorem aKw : bD Tryz.prog 29 = true := by kernel_rfl
@[go_sem] theorem aYc : fC Tryz.prog 29 = true := by kernel_rfl
@[go_sem] theorem aOx : eZ Tryz.prog 29 = some 56 := by kernel_rfl
@[go_sem] theorem aQf : aO Tryz.prog 30 = 1 := by kernel_rfl
@[go_sem] theorem aXd : aggT Tryz.prog 30 = false := by kernel_rfl
@[go_sem] theorem aMf : bD Tryz.prog 30 = true := by kernel_rfl
@[go_sem] theorem aYq : fC Tryz.prog 30 = true := by kernel_rfl
@[go_sem] theorem aPl : eZ Tryz.prog 30 = some 127 := by kernel_rfl
@[go_sem] theorem aOo : aO Tryz.prog 32 = 8 := by kernel_rfl
@[go_sem] theorem aXo : aggT Tryz.prog 32 = true := by kernel_rfl
@[go_sem] theorem aLg : bD Tryz.prog 32 = true := by kernel_rfl
@[go_sem] theorem aOu (K : List AV → Prop) : bG Tryz.prog 32 K = K [.r (.v (.slice none 0 0)), .r (.v (.slice none 0 0)), .r (.v (.slice none 0 0)), .r (.v (.slice none 0 0)), .r (.v (.slice none 0 0)), .r (.v (.slice none 0 0)), .r (.v (.int .i64 0)), .r (.v (.int .i64 0))] := by kernel_rfl
@[go_sem] theorem aSr : jO Tryz.prog 32 = true := by kernel_rfl
@[go_sem] theorem aV8 : bE Tryz.prog 32 0 = some (0, 1) := by kernel_rfl
@[go_sem] theorem aS1 : bE Tryz.prog 32 1 = some (1, 1) := by kernel_rfl
@[go_sem] theorem aVj : bE Tryz.prog 32 2 = some (2, 1) := by kernel_rfl
@[go_sem] theorem aRp : bE Tryz.prog 32 3 = some (3, 1) := by kernel_rfl
@[go_sem] theorem aTh : bE Tryz.prog 32 4 = some (4, 1) := by kernel_rfl
@[go_sem] theorem aUz : bE Tryz.prog 32 5 = some (5, 1) := by kernel_rfl
@[go_sem] theorem aU1 : bE Tryz.prog 32 6 = some (6, 1) := by kernel_rfl
@[go_sem] theorem aRg : bE Tryz.prog 32 7 = some (7, 1) := by kernel_rfl
@[go_sem] theorem aO5 : aO Tryz.prog 38 = 1 := by kernel_rfl
@[go_sem] theorem aRu : aggT Tryz.prog 38 = false := by kernel_rfl
@[go_sem] theorem aNc : bD Tryz.prog 38 = true := by kernel_rfl
@[go_sem] theorem aXz : fC Tryz.prog 38 = true := by kernel_rfl
@[go_sem] theorem aN8 : eZ Tryz.prog 38 = some 3 := by kernel_rfl
@[go_sem] theorem aQr : aO Tryz.prog 46 = 1 := by kernel_rfl
@[go_sem] theorem aR8 : aggT Tryz.prog 46 = false := by kernel_rfl
@[go_sem] theorem aMw : bD Tryz.prog 46 = true := by kernel_rfl
@[go_sem] theorem aYd : fC Tryz.prog 46 = true := by kernel_rfl
@[go_sem] theorem aQy : eZ Tryz.prog 46 = some 61 := by kernel_rfl
@[go_sem] theorem aQp : aO Tryz.prog 48 = 4 := by kernel_rfl
@[go_sem] theorem aXe : aggT Tryz.prog 48 = true := by kernel_rfl
@[go_sem] theorem aKu : bD Tryz.prog 48 = true := by kernel_rfl
@[go_sem] theorem aJ9 : dX Tryz.prog 48 = 64 := by kernel_rfl
@[go_sem] theorem aO3 (K : List AV → Prop) : bG Tryz.prog 48 K = K [.r (.v (.int .i64 0)), .r (.v (.int .i64 0)), .r (.v (.slice none 0 0)), .r (.v (.slice none 0 0))] := by kernel_rfl
@[go_sem] theorem aUc : (gH Tryz.prog 48).isSome = true := by kernel_rfl
@[go_sem] theorem aV0 : jO Tryz.prog 48 = true := by kernel_rfl
@[go_sem] theorem aUx : bE Tryz.prog 48 0 = some (0, 1) := by kernel_rfl
@[go_sem] theorem aH8 : bX Tryz.prog 48 0 = some (0, 1) := by kernel_rfl
@[go_sem] theorem aUt : bE Tryz.prog 48 1 = some (1, 1) := by kernel_rfl
@[go_sem] theorem aJe : bX Tryz.prog 48 1 = some (1, 1) := by kernel_rfl
@[go_sem] theorem aXv : bE Tryz.prog 48 2 = some (2, 1) := by kernel_rfl
@[go_sem] theorem aWd : bE Tryz.prog 48 3 = some (3, 1) := by kernel_rfl
@[go_sem] theorem aQh : aO Tryz.prog 50 = 2 := by kernel_rfl
@[go_sem] theorem aXc : aggT Tryz.prog 50 = true := by kernel_rfl
@[go_sem] theorem aM3 : bD Tryz.prog 50 = true := by kernel_rfl
@[go_sem] theorem aJ7 : dX Tryz.prog 50 = 16 := by kernel_rfl
@[go_sem] theorem aPm (K : List AV → Prop) : bG Tryz.prog 50 K = K [.r (.v (.int .i64 0)), .r (.v (.int .i64 0))] := by kernel_rfl
@[go_sem] theorem aW3 : (gH Tryz.prog 50).isSome = true := by kernel_rfl
@[go_sem] theorem aI0 : nZ Tryz.prog 50 = true := by kernel_rfl
@[go_sem] theorem aWu : jO Tryz.prog 50 = true := by kernel_rfl
@[go_sem] theorem aRd : Tryz.prog.eqGuardType Tryz.prog.depth 50 = false := by kernel_rfl
@[go_sem] theorem aWr : bE Tryz.prog 50 0 = some (0, 1) := by kernel_rfl
@[go_sem] theorem aJj : bX Tryz.prog 50 0 = some (0, 1) := by kernel_rfl
@[go_sem] theorem aW5 : bE Tryz.prog 50 1 = some (1, 1) := by kernel_rfl
@[go_sem] theorem aI3 : bX Tryz.prog 50 1 = some (1, 1) := by kernel_rfl
@[go_sem] theorem aLv : fL Tryz.prog 8 50 = some [0, 0] := by kernel_rfl
@[go_sem] theorem aN5 : aO Tryz.prog 56 = 5 := by kernel_rfl
@[go_sem] theorem aT8 : aggT Tryz.prog 56 = true := by kernel_rfl
@[go_sem] theorem aKl : bD Tryz.prog 56 = true := by kernel_rfl
@[go_sem] theorem aM7 : dX Tryz.prog 56 = 56 := by kernel_rfl
@[go_sem] theorem aP6 (K : List AV → Prop) : bG Tryz.prog 56 K = K [.r (.v (.slice none 0 0)), .r (.v (.int .i64 0)), .r (.v (.int .i64 0)), .r (.v (.int .i64 0)), .r (.v (.int .i64 0))] := by kernel_rfl
@[go_sem] theorem aU4 : (gH Tryz.prog 56).isSome = true := by kernel_rfl
@[go_sem] theorem aT1 : bE Tryz.prog 56 0 = some (0, 1) := by kernel_rfl
@[go_sem] theorem aSi : bE Tryz.prog 56 1 = some (1, 1) := by kernel_rfl
@[go_sem] theorem aWk : bE Tryz.prog 56 2 = some (2, 1) := by kernel_rfl
@[go_sem] theorem aW1 : bE Tryz.prog 56 3 = some (3, 2) := by kernel_rfl
@[go_sem] theorem aPp : aO Tryz.prog 59 = 1 := by kernel_rfl
@[go_sem] theorem aV5 : aggT Tryz.prog 59 = false := by kernel_rfl
@[go_sem] theorem aJ5 : bD Tryz.prog 59 = true := by kernel_rfl
@[go_sem] theorem aMh : dX Tryz.prog 59 = 24 := by kernel_rfl
@[go_sem] theorem aP2 (K : List AV → Prop) : bG Tryz.prog 59 K = K [.r (.v (.slice none 0 0))] := by kernel_rfl
@[go_sem] theorem aYo : fC Tryz.prog 59 = true := by kernel_rfl
@[go_sem] theorem aPv : gH Tryz.prog 59 = some (.slice none 0 0) := by kernel_rfl
@[go_sem] theorem aOw : eZ Tryz.prog 59 = some 81 := by kernel_rfl
@[go_sem] theorem aO9 : aO Tryz.prog 61 = 8 := by kernel_rfl
@[go_sem] theorem aWl : aggT Tryz.prog 61 = true := by kernel_rfl
@[go_sem] theorem aMn : bD Tryz.prog 61 = true := by kernel_rfl
@[go_sem] theorem aNz : dX Tryz.prog 61 = 96 := by kernel_rfl
@[go_sem] theorem aQk (K : List AV → Prop) : bG Tryz.prog 61 K = K [.r (.v (.int .i64 0)), .r (.v (.int .i64 0)), .r (.v (.int .i64 0)), .r (.v (.int .i64 0)), .r (.v (.int .i64 0)), .r (.v (.int .i64 0)), .r (.v (.slice none 0 0)), .r (.v (.slice none 0 0))] := by kernel_rfl
@[go_sem] theorem aWy : (gH Tryz.prog 61).isSome = true := by kernel_rfl
@[go_sem] theorem aXf : bE Tryz.prog 61 0 = some (0, 1) := by kernel_rfl
@[go_sem] theorem aTo : bE Tryz.prog 61 1 = some (1, 1) := by kernel_rfl
@[go_sem] theorem aSv : bE Tryz.prog 61 2 = some (2, 1) := by kernel_rfl
@[go_sem] theorem aWz : bE Tryz.prog 61 3 = some (3, 1) := by kernel_rfl
@[go_sem] theorem aTc : bE Tryz.prog 61 4 = some (4, 2) := by kernel_rfl
@[go_sem] theorem aSn : bE Tryz.prog 61 5 = some (6, 1) := by kernel_rfl
@[go_sem] theorem aT2 : bE Tryz.prog 61 6 = some (7, 1) := by kernel_rfl
@[go_sem] theorem aX9 : fC Tryz.prog 68 = true := by kernel_rfl
@[go_sem] theorem aPc : eZ Tryz.prog 68 = some 76 := by kernel_rfl
@[go_sem] theorem aPy : aO Tryz.prog 76 = 12 := by kernel_rfl
@[go_sem] theorem aQ5 : aggT Tryz.prog 76 = true := by kernel_rfl
@[go_sem] theorem aM4 : bD Tryz.prog 76 = true := by kernel_rfl
@[go_sem] theorem aPa (K : List AV → Prop) : bG Tryz.prog 76 K = K [.r (.v (.int .i64 0)), .r (.v (.int .i64 0)), .r (.v (.int .i64 0)), .r (.v (.int .i64 0)), .r (.v (.int .i64 0)), .r (.v (.int .i64 0)), .r (.v (.int .i64 0)), .r (.v (.int .i64 0)), .r (.v (.int .i64 0)), .r (.v (.int .i64 0)), .r (.v (.int .i64 0)), .r (.v (.int .i64 0))] := by kernel_rfl
@[go_sem] theorem aVq : (gH Tryz.prog 76).isSome = true := by kernel_rfl
@[go_sem] theorem aIw : nZ Tryz.prog 76 = true := by kernel_rfl
@[go_sem] theorem aRe : jO Tryz.prog 76 = true := by kernel_rfl
@[go_sem] theorem aUg : Tryz.prog.eqGuardType Tryz.prog.depth 76 = false := by kernel_rfl
@[go_sem] theorem aR7 : bE Tryz.prog 76 0 = some (0, 1) := by kernel_rfl
@[go_sem] theorem aIm : bX Tryz.prog 76 1 = some (1, 1) := by kernel_rfl
@[go_sem] theorem aI1 : bX Tryz.prog 76 2 = some (2, 1) := by kernel_rfl
@[go_sem] theorem aVy : bE Tryz.prog 76 3 = some (3, 1) := by kernel_rfl
@[go_sem] theorem aR9 : bE Tryz.prog 76 4 = some (4, 1) := by kernel_rfl
@[go_sem] theorem aRk : bE Tryz.prog 76 5 = some (5, 1) := by kernel_rfl
@[go_sem] theorem aU7 : bE Tryz.prog 76 6 = some (6, 1) := by kernel_rfl
@[go_sem] theorem aU8 : bE Tryz.prog 76 7 = some (7, 1) := by kernel_rfl
@[go_sem] theorem aWw : bE Tryz.prog 76 8 = some (8, 2) := by kernel_rfl
@[go_sem] theorem aWx : bE Tryz.prog 76 9 = some (10, 2) := by kernel_rfl
@[go_sem] theorem aMd : fL Tryz.prog 8 76 = some [0, 0, 0, 0, 0, 0, 0, 0, 0, 0, 0, 0] := by kernel_rfl
@[go_sem] theorem aQl : aO Tryz.prog 81 = 2 := by kernel_rfl
@[go_sem] theorem aW9 : aggT Tryz.prog 81 = true := by kernel_rfl
@[go_sem] theorem aN0 : bD Tryz.prog 81 = true := by kernel_rfl
@[go_sem] theorem aNi : dX Tryz.prog 81 = 16 := by kernel_rfl
@[go_sem] theorem aOv (K : List AV → Prop) : bG Tryz.prog 81 K = K [.r (.v (.int .i64 0)), .r (.v (.int .i64 0))] := by kernel_rfl
@[go_sem] theorem aTf : (gH Tryz.prog 81).isSome = true := by kernel_rfl
@[go_sem] theorem aJs : nZ Tryz.prog 81 = true := by kernel_rfl
@[go_sem] theorem aWq : jO Tryz.prog 81 = true := by kernel_rfl
@[go_sem] theorem aS8 : Tryz.prog.eqGuardType Tryz.prog.depth 81 = false := by kernel_rfl
@[go_sem] theorem aJi : bX Tryz.prog 81 0 = some (0, 1) := by kernel_rfl
@[go_sem] theorem aIx : bX Tryz.prog 81 1 = some (1, 1) := by kernel_rfl
@[go_sem] theorem aL6 : fL Tryz.prog 8 81 = some [0, 0] := by kernel_rfl
@[go_sem] theorem aP1 : aO Tryz.prog 84 = 5 := by kernel_rfl
@[go_sem] theorem aT9 : aggT Tryz.prog 84 = true := by kernel_rfl
@[go_sem] theorem aMx : bD Tryz.prog 84 = true := by kernel_rfl
@[go_sem] theorem aPo (K : List AV → Prop) : bG Tryz.prog 84 K = K [.r (.v (.int .i64 0)), .r (.v (.int .i64 0)), .r (.v (.int .i64 0)), .r (.v (.int .i64 0)), .r (.v (.int .i64 0))] := by kernel_rfl
@[go_sem] theorem aS5 : bE Tryz.prog 84 0 = some (0, 1) := by kernel_rfl
@[go_sem] theorem aTe : bE Tryz.prog 84 1 = some (1, 1) := by kernel_rfl
@[go_sem] theorem aWo : bE Tryz.prog 84 2 = some (2, 1) := by kernel_rfl
@[go_sem] theorem aRs : bE Tryz.prog 84 3 = some (3, 1) := by kernel_rfl
@[go_sem] theorem aTy : bE Tryz.prog 84 4 = some (4, 1) := by kernel_rfl
@[go_sem] theorem aVo : aggT Tryz.prog 85 = false := by kernel_rfl
@[go_sem] theorem aKy : bD Tryz.prog 85 = true := by kernel_rfl
@[go_sem] theorem aYj : fC Tryz.prog 85 = true := by kernel_rfl
@[go_sem] theorem aPe : eZ Tryz.prog 85 = some 84 := by kernel_rfl
@[go_sem] theorem aP7 : aO Tryz.prog 87 = 5 := by kernel_rfl
@[go_sem] theorem aUo : aggT Tryz.prog 87 = true := by kernel_rfl
@[go_sem] theorem aM0 : bD Tryz.prog 87 = true := by kernel_rfl
@[go_sem] theorem aQg (K : List AV → Prop) : bG Tryz.prog 87 K = K [.r (.v (.int .i64 0)), .r (.v (.int .i64 0)), .r (.v (.bool false)), .r (.v (.slice none 0 0)), .r (.v (.slice none 0 0))] := by kernel_rfl
@[go_sem] theorem aV9 : bE Tryz.prog 87 0 = some (0, 1) := by kernel_rfl
@[go_sem] theorem aR2 : bE Tryz.prog 87 1 = some (1, 1) := by kernel_rfl
@[go_sem] theorem aXx : bE Tryz.prog 87 2 = some (2, 1) := by kernel_rfl
@[go_sem] theorem aW4 : bE Tryz.prog 87 3 = some (3, 1) := by kernel_rfl
@[go_sem] theorem aU3 : bE Tryz.prog 87 4 = some (4, 1) := by kernel_rfl
@[go_sem] theorem aOk : aO Tryz.prog 97 = 2 := by kernel_rfl
@[go_sem] theorem aRl : aggT Tryz.prog 97 = true := by kernel_rfl
@[go_sem] theorem aL8 : bD Tryz.prog 97 = true := by kernel_rfl
@[go_sem] theorem aNo : dX Tryz.prog 97 = 16 := by kernel_rfl
@[go_sem] theorem aQt (K : List AV → Prop) : bG Tryz.prog 97 K = K [.r (.v (.int .i64 0)), .r (.v (.int .i64 0))] := by kernel_rfl
@[go_sem] theorem aRy : (gH Tryz.prog 97).isSome = true := by kernel_rfl
@[go_sem] theorem aJw : nZ Tryz.prog 97 = true := by kernel_rfl
@[go_sem] theorem aQ9 : jO Tryz.prog 97 = true := by kernel_rfl
@[go_sem] theorem aT3 : Tryz.prog.eqGuardType Tryz.prog.depth 97 = false := by kernel_rfl
@[go_sem] theorem aTp : bE Tryz.prog 97 0 = some (0, 1) := by kernel_rfl
@[go_sem] theorem aIl : bX Tryz.prog 97 0 = some (0, 1) := by kernel_rfl
@[go_sem] theorem aT0 : bE Tryz.prog 97 1 = some (1, 1) := by kernel_rfl
@[go_sem] theorem aIf : bX Tryz.prog 97 1 = some (1, 1) := by kernel_rfl
@[go_sem] theorem aKn : fL Tryz.prog 8 97 = some [0, 0] := by kernel_rfl
@[go_sem] theorem aPn : aggT Tryz.prog 104 = false := by kernel_rfl
@[go_sem] theorem aH5 : bD Tryz.prog 104 = true := by kernel_rfl
@[go_sem] theorem aQi : aggT Tryz.prog 108 = false := by kernel_rfl
@[go_sem] theorem aI4 : bD Tryz.prog 108 = true := by kernel_rfl
@[go_sem] theorem aQa : aggT Tryz.prog 109 = false := by kernel_rfl
@[go_sem] theorem aI2 : bD Tryz.prog 109 = true := by kernel_rfl
@[go_sem] theorem aQu : mapT Tryz.prog 109 = some (3, 3) := by kernel_rfl
@[go_sem] theorem aKi : aO Tryz.prog 110 = 1 := by kernel_rfl
@[go_sem] theorem aOn : aggT Tryz.prog 110 = false := by kernel_rfl
@[go_sem] theorem aId : bD Tryz.prog 110 = true := by kernel_rfl
@[go_sem] theorem aM9 : eZ Tryz.prog 110 = some 160 := by kernel_rfl
@[go_sem] theorem aLt : aO Tryz.prog 111 = 1 := by kernel_rfl
@[go_sem] theorem aOr : aggT Tryz.prog 111 = false := by kernel_rfl
@[go_sem] theorem aJf : bD Tryz.prog 111 = true := by kernel_rfl
@[go_sem] theorem aMv : eZ Tryz.prog 111 = some 147 := by kernel_rfl
@[go_sem] theorem aLq (K : List AV → Prop) : bG Tryz.prog 113 K = K [.r (.v (.slice none 0 0)), .r (.v (.slice none 0 0)), .r (.v (.slice none 0 0)), .r (.v (.pointer none)), .r (.v (.slice none 0 0)), .r (.v (.slice none 0 0)), .r (.v (.map none))] := by kernel_rfl
@[go_sem] theorem aQq : jO Tryz.prog 113 = true := by kernel_rfl
@[go_sem] theorem aQd : bE Tryz.prog 113 0 = some (0, 3) := by kernel_rfl
@[go_sem] theorem aEg : bX Tryz.prog 113 0 = some (0, 3) := by kernel_rfl
@[go_sem] theorem aOc : bE Tryz.prog 113 1 = some (3, 1) := by kernel_rfl
@[go_sem] theorem aHq : bX Tryz.prog 113 1 = some (3, 1) := by kernel_rfl
@[go_sem] theorem aOm : bE Tryz.prog 113 2 = some (4, 1) := by kernel_rfl
@[go_sem] theorem aPz : bE Tryz.prog 113 3 = some (5, 1) := by kernel_rfl
@[go_sem] theorem aOj : bE Tryz.prog 113 4 = some (6, 1) := by kernel_rfl
@[go_sem] theorem aE7 : bX Tryz.prog 113 4 = some (6, 1) := by kernel_rfl
@[go_sem] theorem aMq : aO Tryz.prog 127 = 3 := by kernel_rfl
@[go_sem] theorem aQe : aggT Tryz.prog 127 = true := by kernel_rfl
@[go_sem] theorem aJg : bD Tryz.prog 127 = true := by kernel_rfl
@[go_sem] theorem aIi : dX Tryz.prog 127 = 24 := by kernel_rfl
@[go_sem] theorem aMu (K : List AV → Prop) : bG Tryz.prog 127 K = K [.r (.v (.int .i64 0)), .r (.v (.int .i64 0)), .r (.v (.int .i64 0))] := by kernel_rfl
@[go_sem] theorem aQn : (gH Tryz.prog 127).isSome = true := by kernel_rfl
@[go_sem] theorem aF0 : nZ Tryz.prog 127 = true := by kernel_rfl
@[go_sem] theorem aPj : Tryz.prog.eqGuardType Tryz.prog.depth 127 = false := by kernel_rfl
@[go_sem] theorem aO4 : bE Tryz.prog 127 0 = some (0, 1) := by kernel_rfl
@[go_sem] theorem aQc : bE Tryz.prog 127 1 = some (1, 2) := by kernel_rfl
@[go_sem] theorem aHz : fL Tryz.prog 8 127 = some [0, 0, 0] := by kernel_rfl
@[go_sem] theorem aK6 : eZ Tryz.prog 131 = some 185 := by kernel_rfl
@[go_sem] theorem aKf : aO Tryz.prog 147 = 1 := by kernel_rfl
@[go_sem] theorem aQs : aggT Tryz.prog 147 = false := by kernel_rfl
@[go_sem] theorem aJx : bD Tryz.prog 147 = true := by kernel_rfl
@[go_sem] theorem aH9 : dX Tryz.prog 147 = 24 := by kernel_rfl
@[go_sem] theorem aL9 (K : List AV → Prop) : bG Tryz.prog 147 K = K [.r (.v (.slice none 0 0))] := by kernel_rfl
@[go_sem] theorem aKb : gH Tryz.prog 147 = some (.slice none 0 0) := by kernel_rfl
@[go_sem] theorem aM5 : eZ Tryz.prog 147 = some 4 := by kernel_rfl
@[go_sem] theorem aOp : mapT Tryz.prog 154 = some (9, 3) := by kernel_rfl
@[go_sem] theorem aJy : aO Tryz.prog 158 = 8 := by kernel_rfl
@[go_sem] theorem aP3 : aggT Tryz.prog 158 = true := by kernel_rfl
@[go_sem] theorem aIc : bD Tryz.prog 158 = true := by kernel_rfl
@[go_sem] theorem aKg (K : List AV → Prop) : bG Tryz.prog 158 K = K [.r (.v (.slice none 0 0)), .r (.v (.slice none 0 0)), .r (.v (.slice none 0 0)), .r (.v (.int .i64 0)), .r (.v (.int .i64 0)), .r (.v (.bool false)), .r (.v (.slice none 0 0)), .r (.v (.slice none 0 0))] := by kernel_rfl
@[go_sem] theorem aN7 : jO Tryz.prog 158 = true := by kernel_rfl
@[go_sem] theorem aPf : bE Tryz.prog 158 0 = some (0, 3) := by kernel_rfl
@[go_sem] theorem aHr : bX Tryz.prog 158 0 = some (0, 3) := by kernel_rfl
@[go_sem] theorem aO1 : bE Tryz.prog 158 1 = some (3, 5) := by kernel_rfl
@[go_sem] theorem aHn : bX Tryz.prog 158 1 = some (3, 5) := by kernel_rfl
@[go_sem] theorem aMr : aO Tryz.prog 160 = 1 := by kernel_rfl
@[go_sem] theorem aP4 : aggT Tryz.prog 160 = false := by kernel_rfl
@[go_sem] theorem aI9 : bD Tryz.prog 160 = true := by kernel_rfl
@[go_sem] theorem aI8 : dX Tryz.prog 160 = 24 := by kernel_rfl
@[go_sem] theorem aLs (K : List AV → Prop) : bG Tryz.prog 160 K = K [.r (.v (.slice none 0 0))] := by kernel_rfl
@[go_sem] theorem aNb : gH Tryz.prog 160 = some (.slice none 0 0) := by kernel_rfl
@[go_sem] theorem aN1 : eZ Tryz.prog 160 = some 59 := by kernel_rfl
@[go_sem] theorem aMk (K : List AV → Prop) : bG Tryz.prog 182 K = K [.r (.v (.int .i64 0)), .r (.v (.int .i64 0)), .r (.v (.int .i64 0))] := by kernel_rfl
@[go_sem] theorem aN6 : arrT Tryz.prog 182 = some (3, 3) := by kernel_rfl
@[go_sem] theorem aN4 : jO Tryz.prog 182 = true := by kernel_rfl
@[go_sem] theorem aHy : bX Tryz.prog 182 0 = some (0, 1) := by kernel_rfl
@[go_sem] theorem aEd : bX Tryz.prog 182 1 = some (1, 1) := by kernel_rfl
@[go_sem] theorem aD5 : bX Tryz.prog 182 2 = some (2, 1) := by kernel_rfl
@[go_sem] theorem aMg : aO Tryz.prog 185 = 2 := by kernel_rfl
@[go_sem] theorem aIn : bD Tryz.prog 185 = true := by kernel_rfl
@[go_sem] theorem aJh : dX Tryz.prog 185 = 32 := by kernel_rfl
@[go_sem] theorem aNh (K : List AV → Prop) : bG Tryz.prog 185 K = K [.r (.v (.bool false)), .r (.v (.slice none 0 0))] := by kernel_rfl
@[go_sem] theorem aOg : jO Tryz.prog 185 = true := by kernel_rfl
@[go_sem] theorem aP5 : bE Tryz.prog 185 0 = some (0, 1) := by kernel_rfl
@[go_sem] theorem aHe : bX Tryz.prog 185 0 = some (0, 1) := by kernel_rfl
@[go_sem] theorem aQ0 : bE Tryz.prog 185 1 = some (1, 1) := by kernel_rfl
@[go_sem] theorem aEk : bX Tryz.prog 185 1 = some (1, 1) := by kernel_rfl
@[go_sem] theorem aMi (K : List AV → Prop) : bG Tryz.prog 206 K = K [.r (.v (.int .i64 0)), .r (.v (.int .i64 0)), .r (.v (.bool false)), .r (.v (.slice none 0 0)), .r (.v (.slice none 0 0)), .r (.v (.slice none 0 0)), .r (.v (.slice none 0 0)), .r (.v (.slice none 0 0)), .r (.v (.bool false))] := by kernel_rfl
@[go_sem] theorem aOi : jO Tryz.prog 206 = true := by kernel_rfl
@[go_sem] theorem aPq : bE Tryz.prog 206 0 = some (0, 5) := by kernel_rfl
@[go_sem] theorem aF3 : bX Tryz.prog 206 0 = some (0, 5) := by kernel_rfl
@[go_sem] theorem aQv : bE Tryz.prog 206 1 = some (5, 1) := by kernel_rfl
@[go_sem] theorem aEw : bX Tryz.prog 206 1 = some (5, 1) := by kernel_rfl
@[go_sem] theorem aO2 : bE Tryz.prog 206 2 = some (6, 1) := by kernel_rfl
@[go_sem] theorem aFs : bX Tryz.prog 206 2 = some (6, 1) := by kernel_rfl
@[go_sem] theorem aPg : bE Tryz.prog 206 3 = some (7, 1) := by kernel_rfl
@[go_sem] theorem aPi : bE Tryz.prog 206 4 = some (8, 1) := by kernel_rfl
@[go_sem] theorem aP8 : mapT Tryz.prog 209 = some (97, 3) := by kernel_rfl
@[go_sem] theorem aQw : intT Tryz.prog 221 = some .u64 := by kernel_rfl
@[go_sem] theorem aM2 : aO Tryz.prog 226 = 39 := by kernel_rfl
@[go_sem] theorem aIk : bD Tryz.prog 226 = true := by kernel_rfl
@[go_sem] theorem aL4 (K : List AV → Prop) : bG Tryz.prog 226 K = K [.r (.v (.string ⟨#[]⟩)), .r (.v (.string ⟨#[]⟩)), .r (.v (.string ⟨#[]⟩)), .r (.v (.string ⟨#[]⟩)), .r (.v (.string ⟨#[]⟩)), .r (.v (.string ⟨#[]⟩)), .r (.v (.string ⟨#[]⟩)), .r (.v (.string ⟨#[]⟩)), .r (.v (.string ⟨#[]⟩)), .r (.v (.string ⟨#[]⟩)), .r (.v (.string ⟨#[]⟩)), .r (.v (.string ⟨#[]⟩)), .r (.v (.string ⟨#[]⟩)), .r (.v (.string ⟨#[]⟩)), .r (.v (.string ⟨#[]⟩)), .r (.v (.string ⟨#[]⟩)), .r (.v (.string ⟨#[]⟩)), .r (.v (.string ⟨#[]⟩)), .r (.v (.string ⟨#[]⟩)), .r (.v (.string ⟨#[]⟩)), .r (.v (.string ⟨#[]⟩)), .r (.v (.string ⟨#[]⟩)), .r (.v (.string ⟨#[]⟩)), .r (.v (.string ⟨#[]⟩)), .r (.v (.string ⟨#[]⟩)), .r (.v (.string ⟨#[]⟩)), .r (.v (.string ⟨#[]⟩)), .r (.v (.string ⟨#[]⟩)), .r (.v (.string ⟨#[]⟩)), .r (.v (.string ⟨#[]⟩)), .r (.v (.string ⟨#[]⟩)), .r (.v (.string ⟨#[]⟩)), .r (.v (.string ⟨#[]⟩)), .r (.v (.string ⟨#[]⟩)), .r (.v (.string ⟨#[]⟩)), .r (.v (.string ⟨#[]⟩)), .r (.v (.string ⟨#[]⟩)), .r (.v (.string ⟨#[]⟩)), .r (.v (.string ⟨#[]⟩))] := by kernel_rfl
@[go_sem] theorem aPu : arrT Tryz.prog 226 = some (39, 9) := by kernel_rfl
@[go_sem] theorem aO7 : jO Tryz.prog 226 = true := by kernel_rfl
@[go_sem] theorem aGt : bX Tryz.prog 226 0 = some (0, 1) := by kernel_rfl
@[go_sem] theorem aFu : bX Tryz.prog 226 1 = some (1, 1) := by kernel_rfl
@[go_sem] theorem aHo : bX Tryz.prog 226 2 = some (2, 1) := by kernel_rfl
@[go_sem] theorem aE2 : bX Tryz.prog 226 3 = some (3, 1) := by kernel_rfl
@[go_sem] theorem aD2 : bX Tryz.prog 226 4 = some (4, 1) := by kernel_rfl
@[go_sem] theorem aFg : bX Tryz.prog 226 5 = some (5, 1) := by kernel_rfl
@[go_sem] theorem aFc : bX Tryz.prog 226 6 = some (6, 1) := by kernel_rfl
@[go_sem] theorem aGg : bX Tryz.prog 226 7 = some (7, 1) := by kernel_rfl
@[go_sem] theorem aHv : bX Tryz.prog 226 8 = some (8, 1) := by kernel_rfl
@[go_sem] theorem aD3 : bX Tryz.prog 226 9 = some (9, 1) := by kernel_rfl
@[go_sem] theorem aDq : bX Tryz.prog 226 10 = some (10, 1) := by kernel_rfl
@[go_sem] theorem aCq : bX Tryz.prog 226 11 = some (11, 1) := by kernel_rfl
@[go_sem] theorem aDa : bX Tryz.prog 226 12 = some (12, 1) := by kernel_rfl
@[go_sem] theorem aDf : bX Tryz.prog 226 13 = some (13, 1) := by kernel_rfl
@[go_sem] theorem aCr : bX Tryz.prog 226 14 = some (14, 1) := by kernel_rfl
@[go_sem] theorem aCt : bX Tryz.prog 226 15 = some (15, 1) := by kernel_rfl
@[go_sem] theorem aCm : bX Tryz.prog 226 16 = some (16, 1) := by kernel_rfl
@[go_sem] theorem aDk : bX Tryz.prog 226 17 = some (17, 1) := by kernel_rfl
@[go_sem] theorem aCv : bX Tryz.prog 226 18 = some (18, 1) := by kernel_rfl
@[go_sem] theorem aDd : bX Tryz.prog 226 19 = some (19, 1) := by kernel_rfl
@[go_sem] theorem aC9 : bX Tryz.prog 226 20 = some (20, 1) := by kernel_rfl
@[go_sem] theorem aCu : bX Tryz.prog 226 21 = some (21, 1) := by kernel_rfl
@[go_sem] theorem aCs : bX Tryz.prog 226 22 = some (22, 1) := by kernel_rfl
@[go_sem] theorem aC1 : bX Tryz.prog 226 23 = some (23, 1) := by kernel_rfl
@[go_sem] theorem aCp : bX Tryz.prog 226 24 = some (24, 1) := by kernel_rfl
@[go_sem] theorem aDr : bX Tryz.prog 226 25 = some (25, 1) := by kernel_rfl
@[go_sem] theorem aC4 : bX Tryz.prog 226 26 = some (26, 1) := by kernel_rfl
@[go_sem] theorem aDh : bX Tryz.prog 226 27 = some (27, 1) := by kernel_rfl
@[go_sem] theorem aC6 : bX Tryz.prog 226 28 = some (28, 1) := by kernel_rfl
@[go_sem] theorem aDj : bX Tryz.prog 226 29 = some (29, 1) := by kernel_rfl
@[go_sem] theorem aCo : bX Tryz.prog 226 30 = some (30, 1) := by kernel_rfl
@[go_sem] theorem aC3 : bX Tryz.prog 226 31 = some (31, 1) := by kernel_rfl
@[go_sem] theorem aDo : bX Tryz.prog 226 32 = some (32, 1) := by kernel_rfl
@[go_sem] theorem aDm : bX Tryz.prog 226 33 = some (33, 1) := by kernel_rfl
@[go_sem] theorem aDl : bX Tryz.prog 226 34 = some (34, 1) := by kernel_rfl
@[go_sem] theorem aDn : bX Tryz.prog 226 35 = some (35, 1) := by kernel_rfl
@[go_sem] theorem aC7 : bX Tryz.prog 226 36 = some (36, 1) := by kernel_rfl
@[go_sem] theorem aCx : bX Tryz.prog 226 37 = some (37, 1) := by kernel_rfl
@[go_sem] theorem aCy : bX Tryz.prog 226 38 = some (38, 1) := by kernel_rfl
theorem en2 : aF Tryz.prog 2 := Tryz.call2
theorem en16 : aF Tryz.prog 16 := Tryz.call16
theorem en19 : aF Tryz.prog 19 := Tryz.call19
theorem en21 : aF Tryz.prog 21 := Tryz.call21
theorem en23 : aF Tryz.prog 23 := Tryz.call23
theorem en25 : aF Tryz.prog 25 := Tryz.call25
theorem en26 : aF Tryz.prog 26 := Tryz.call26
theorem en27 : aF Tryz.prog 27 := Tryz.call27
theorem en28 : aF Tryz.prog 28 := Tryz.call28
theorem en30 : aF Tryz.prog 30 := Tryz.call30
theorem en31 : aF Tryz.prog 31 := Tryz.call31
theorem en34 : aF Tryz.prog 34 := Tryz.call34
theorem en35 : aF Tryz.prog 35 := Tryz.call35
theorem en37 : aF Tryz.prog 37 := Tryz.call37
theorem en38 : aF Tryz.prog 38 := Tryz.call38
theorem en41 : aF Tryz.prog 41 := Tryz.call41
theorem en43 : aF Tryz.prog 43 := Tryz.call43
theorem en44 : aF Tryz.prog 44 := Tryz.call44
theorem en45 : aF Tryz.prog 45 := Tryz.call45
theorem en48 : aF Tryz.prog 48 := Tryz.call48
theorem en51 : aF Tryz.prog 51 := Tryz.call51
theorem en52 : aF Tryz.prog 52 := Tryz.call52
theorem en53 : aF Tryz.prog 53 := Tryz.call53
theorem en54 : aF Tryz.prog 54 := Tryz.call54
theorem en55 : aF Tryz.prog 55 := Tryz.call55
theorem en57 : aF Tryz.prog 57 := Tryz.call57
theorem en58 : aF Tryz.prog 58 := Tryz.call58
theorem en59 : aF Tryz.prog 59 := Tryz.call59
theorem en60 : aF Tryz.prog 60 := Tryz.call60
theorem en61 : aF Tryz.prog 61 := Tryz.call61
theorem en68 : aF Tryz.prog 68 := Tryz.call68
theorem en72 : aF Tryz.prog 72 := Tryz.call72
theorem en73 : aF Tryz.prog 73 := Tryz.call73
theorem en74 : aF Tryz.prog 74 := Tryz.call74
theorem en75 : aF Tryz.prog 75 := Tryz.call75
theorem en76 : aF Tryz.prog 76 := Tryz.call76
theorem en77 : aF Tryz.prog 77 := Tryz.call77
theorem en78 : aF Tryz.prog 78 := Tryz.call78
theorem en79 : aF Tryz.prog 79 := Tryz.call79
theorem en80 : aF Tryz.prog 80 := Tryz.call80
theorem en81 : aF Tryz.prog 81 := Tryz.call81
theorem en82 : aF Tryz.prog 82 := Tryz.call82
theorem en83 : aF Tryz.prog 83 := Tryz.call83
theorem en84 : aF Tryz.prog 84 := Tryz.call84
theorem en86 : aF Tryz.prog 86 := Tryz.call86
theorem en87 : aF Tryz.prog 87 := Tryz.call87
theorem en88 : aF Tryz.prog 88 := Tryz.call88
theorem en90 : aF Tryz.prog 90 := Tryz.call90
theorem en91 : aF Tryz.prog 91 := Tryz.call91
theorem en93 : aF Tryz.prog 93 := Tryz.call93
theorem en94 : aF Tryz.prog 94 := Tryz.call94
theorem en97 : aF Tryz.prog 97 := Tryz.call97
theorem en98 : aF Tryz.prog 98 := Tryz.call98
theorem en99 : aF Tryz.prog 99 := Tryz.call99
theorem aXq : aF Tryz.prog 100 := Tryz.call100
theorem aSu : aF Tryz.prog 101 := Tryz.call101
theorem Lw : aF Tryz.prog 102 := Tryz.call102
theorem aXb : aF Tryz.prog 103 := Tryz.call103
theorem aSg : aF Tryz.prog 104 := Tryz.call104
theorem aVb : aF Tryz.prog 105 := Tryz.call105
theorem aWh : aF Tryz.prog 106 := Tryz.call106
theorem aQ8 : aF Tryz.prog 107 := Tryz.call107
theorem aWt : aF Tryz.prog 108 := Tryz.call108
theorem aU9 : aF Tryz.prog 109 := Tryz.call109
theorem aU6 : aF Tryz.prog 110 := Tryz.call110
theorem aRj : aF Tryz.prog 111 := Tryz.call111
theorem aVa : aF Tryz.prog 112 := Tryz.call112
theorem Zs : aF Tryz.prog 113 := Tryz.call113
theorem aSm : aF Tryz.prog 114 := Tryz.call114
theorem aXt : aF Tryz.prog 115 := Tryz.call115
theorem aS9 : aF Tryz.prog 116 := Tryz.call116
theorem aV3 : aF Tryz.prog 117 := Tryz.call117
theorem aU5 : aF Tryz.prog 118 := Tryz.call118
theorem aVi : aF Tryz.prog 119 := Tryz.call119
theorem aRf : aF Tryz.prog 120 := Tryz.call120
theorem aXk : aF Tryz.prog 121 := Tryz.call121
theorem aIu : aF Tryz.prog 122 := Tryz.call122
theorem aUj : aF Tryz.prog 123 := Tryz.call123
theorem aWp : aF Tryz.prog 124 := Tryz.call124
theorem aTq : aF Tryz.prog 125 := Tryz.call125
theorem aVt : aF Tryz.prog 126 := Tryz.call126
theorem aTz : aF Tryz.prog 127 := Tryz.call127
theorem aR3 : aF Tryz.prog 130 := Tryz.call130
theorem aWs : aF Tryz.prog 131 := Tryz.call131
theorem aRq : aF Tryz.prog 132 := Tryz.call132
theorem aTi : aF Tryz.prog 133 := Tryz.call133
theorem aSc : aF Tryz.prog 134 := Tryz.call134
theorem aWc : aF Tryz.prog 135 := Tryz.call135
theorem En : aF Tryz.prog 136 := Tryz.call136
theorem aVp : aF Tryz.prog 137 := Tryz.call137
theorem aSa : aF Tryz.prog 138 := Tryz.call138
theorem aTr : aF Tryz.prog 139 := Tryz.call139
theorem aTd : aF Tryz.prog 140 := Tryz.call140
theorem aSd : aF Tryz.prog 141 := Tryz.call141
theorem aUs : aF Tryz.prog 143 := Tryz.call143
theorem aUv : aF Tryz.prog 144 := Tryz.call144
theorem aQ1 : aF Tryz.prog 150 := Tryz.call150
theorem aT4 : aF Tryz.prog 151 := Tryz.call151
theorem aRt : aF Tryz.prog 152 := Tryz.call152
theorem aRw : aF Tryz.prog 153 := Tryz.call153
theorem aVc : aF Tryz.prog 154 := Tryz.call154
theorem aVf : aF Tryz.prog 155 := Tryz.call155
theorem aTm : aF Tryz.prog 156 := Tryz.call156
theorem aWf : aF Tryz.prog 157 := Tryz.call157
theorem aVn : aF Tryz.prog 158 := Tryz.call158
theorem aVx : aF Tryz.prog 159 := Tryz.call159
theorem aUd : aF Tryz.prog 160 := Tryz.call160
theorem aVh : aF Tryz.prog 161 := Tryz.call161
theorem aUr : aF Tryz.prog 162 := Tryz.call162
theorem aW7 : aF Tryz.prog 163 := Tryz.call163
theorem aIh : aF Tryz.prog 164 := Tryz.call164
theorem aQ6 : aF Tryz.prog 165 := Tryz.call165
theorem aSh : aF Tryz.prog 166 := Tryz.call166
theorem aSe : aF Tryz.prog 167 := Tryz.call167
theorem aT7 : aF Tryz.prog 168 := Tryz.call168
theorem aXu : aF Tryz.prog 169 := Tryz.call169
theorem aQ2 : aF Tryz.prog 170 := Tryz.call170
theorem aWj : aF Tryz.prog 171 := Tryz.call171
theorem aV1 : aF Tryz.prog 172 := Tryz.call172
theorem aUy : aF Tryz.prog 173 := Tryz.call173
theorem aUw : aF Tryz.prog 174 := Tryz.call174
theorem aIr : aF Tryz.prog 175 := Tryz.call175
theorem aVs : aF Tryz.prog 176 := Tryz.call176
theorem aJt : aF Tryz.prog 178 := Tryz.call178
theorem aIs : aF Tryz.prog 179 := Tryz.call179
theorem aU0 : aF Tryz.prog 182 := Tryz.call182
theorem aSj : aF Tryz.prog 183 := Tryz.call183
theorem aT6 : aF Tryz.prog 184 := Tryz.call184
theorem aSx : aF Tryz.prog 185 := Tryz.call185
theorem aSw : aF Tryz.prog 186 := Tryz.call186
theorem aSb : aF Tryz.prog 187 := Tryz.call187
theorem aXr : aF Tryz.prog 188 := Tryz.call188
theorem aXh : aF Tryz.prog 189 := Tryz.call189
theorem aV2 : aF Tryz.prog 191 := Tryz.call191
theorem aS4 : aF Tryz.prog 192 := Tryz.call192
abbrev lv10 : List (Nat × List Nat) := [(0,[0,1,2,3,4,5]),(1,[2,5,6,7,9,10]),(2,[2,5,6,7,9,10,13,14,15]),(3,[2,5,6,7,9,10,13,14,15,16]),(4,[2,5,6,7,9,10,13,14,15,16]),(5,[2,5,6,7,9,10,13,14,15,16,17]),(6,[2,5,6,7,9,10,13,14,15]),(7,[2,5,6,7,9,10,13,14,15,16]),(8,[2,5,6,7,9,10,13,14,15]),(9,[2,5,6,7,9,10,13,14,15,16]),(10,[2,5,6,7,9,10,13,14,15]),(11,[2,5,6,7,9,10,13,14,15,16]),(12,[2,5,6,7,9,10,13,14,15,16,18]),(13,[2,5,6,7,9,10,13,14,15,16,18,19]),(14,[2,5,6,7,9,10,13,14,15,16,18]),(15,[2,5,6,7,9,10,13,14,15,16,18]),(16,[13,14,15,16,18,19,20]),(17,[13,14,15,18]),(18,[13,14,15,16,18,19])]
abbrev lv16 : List (Nat × List Nat) := [(0,[0]),(1,[1]),(2,[]),(3,[1]),(4,[]),(5,[1]),(6,[]),(7,[])]
abbrev lv19 : List (Nat × List Nat) := [(0,[0,1]),(1,[2,3]),(2,[2,3,5]),(3,[5]),(4,[2,3]),(5,[2,3,6]),(6,[6]),(7,[2,3]),(8,[]),(9,[2,3]),(10,[2,7]),(11,[7]),(12,[]),(13,[])]
abbrev lv21 : List (Nat × List Nat) := [(0,[0]),(1,[0]),(2,[]),(3,[0])]
abbrev lv23 : List (Nat × List Nat) := [(0,[0]),(1,[0]),(2,[]),(3,[0])]
abbrev lv25 : List (Nat × List Nat) := [(0,[0]),(1,[0]),(2,[]),(3,[0])]
abbrev lv26 : List (Nat × List Nat) := [(0,[0]),(1,[0]),(2,[]),(3,[0])]
abbrev lv27 : List (Nat × List Nat) := [(0,[0]),(1,[0]),(2,[]),(3,[0])]
abbrev lv28 : List (Nat × List Nat) := [(0,[0]),(1,[1]),(2,[1,3]),(3,[1,3,36,37,38]),(4,[1,3,36,37,38]),(5,[1,3,5,36,37,38]),(6,[1,3,36,37,38]),(7,[1,3]),(8,[1,3,50,51,52]),(9,[1,3,50,51,52]),(10,[1,3,7,50,51,52]),(11,[1,3,50,51,52]),(12,[1,3]),(13,[]),(14,[1]),(15,[1,8]),(16,[1,8,81,82,83]),(17,[1,8,81,82,83]),(18,[1,8,9,10,81,82,83]),(19,[1,8,9,10,81,82,83]),(20,[1,8,10,81,82,83,104,105,106]),(21,[1,8,10,81,82,83,104,105,106]),(22,[1,8,10,12,81,82,83,104,105,106]),(23,[1,8,10,81,82,83,104,105,106]),(24,[1,8,81,82,83]),(25,[1,8]),(26,[1,8,119,120,121]),(27,[1,8,119,120,121]),(28,[1,8,14,119,120,121]),(29,[1,8,119,120,121]),(30,[1,8]),(31,[1,8,150,151,152]),(32,[1,8,150,151,152]),(33,[1,8,15,16,150,151,152]),(34,[1,8,15,16,150,151,152]),(35,[1,8,16,150,151,152]),(36,[1,8,16,150,151,152]),(37,[]),(38,[1,8,16,150,151,152]),(39,[1,8,16,150,151,152,192,193,194]),(40,[1,8,16,150,151,152,192,193,194]),(41,[1,8,16,17,18,150,151,152,192,193,194]),(42,[1,8,16,150,151,152,192,193,194]),(43,[1,8,16,150,151,152]),(44,[]),(45,[1,16,150,151,152]),(46,[1,8,150,151,152]),(47,[8]),(48,[]),(49,[])]
abbrev lv30 : List (Nat × List Nat) := [(0,[0,1]),(1,[2,3]),(2,[]),(3,[2,3]),(4,[3,36,37,38]),(5,[3,36,37,38]),(6,[3,5,6,36,37,38]),(7,[3,6,7,36,37,38]),(8,[]),(9,[3,36,37,38]),(10,[])]
abbrev lv31 : List (Nat × List Nat) := [(0,[0,1]),(1,[2,3]),(2,[2,3,5]),(3,[5]),(4,[2,3]),(5,[2,3,6]),(6,[6]),(7,[2,3]),(8,[2,3,7]),(9,[2,3,7,38,39,40]),(10,[2,3,7,38,39,40]),(11,[2,3,7,9,38,39,40]),(12,[2,3,7,38,39,40]),(13,[2,3,7]),(14,[]),(15,[2,3]),(16,[2,3,10]),(17,[2,3,10,77,78,79]),(18,[2,3,10,77,78,79]),(19,[2,3,10,11,12,77,78,79]),(20,[2,3,10,77,78,79]),(21,[2,3,10]),(22,[]),(23,[2,3,10]),(24,[2,3,10,13]),(25,[2,3,10,13,99,100,101]),(26,[2,3,10,13,99,100,101]),(27,[2,3,10,13,14,15,99,100,101]),(28,[2,3,10,13,15,99,100,101,108,109,110]),(29,[2,3,10,13,15,99,100,101,108,109,110]),(30,[2,3,10,13,15,17,99,100,101,108,109,110]),(31,[2,3,10,13,15,99,100,101,108,109,110]),(32,[2,3,10,13,99,100,101]),(33,[2,3,10,13]),(34,[2,3,10,13,123,124,125]),(35,[2,3,10,13,123,124,125]),(36,[2,3,10,13,18,19,123,124,125]),(37,[2,3,10,13,18,19,123,124,125,131]),(38,[2,3,10,13,19,123,124,125]),(39,[2,3,10,13,18,19,123,124,125,131]),(40,[2,3,10,13,18,19,123,124,125]),(41,[2,3,10,13,18,19,123,124,125]),(42,[2,3,10,13,18,19,20,123,124,125]),(43,[2,3,10,13,18,19,123,124,125]),(44,[2,3,10,13,18,123,124,125]),(45,[2,3,10,13,123,124,125]),(46,[2,3,10]),(47,[2,3,10,229,230,231]),(48,[2,3,10,229,230,231]),(49,[2,3,10,22,229,230,231]),(50,[2,3,10,229,230,231]),(51,[10]),(52,[]),(53,[])]
abbrev lv34 : List (Nat × List Nat) := [(0,[0,1,2]),(1,[0,1,2])]
abbrev lv35 : List (Nat × List Nat) := [(0,[0,1]),(1,[2,3]),(2,[]),(3,[2,3]),(4,[2,3]),(5,[2,3])]
abbrev lv37 : List (Nat × List Nat) := [(0,[0,1,2]),(1,[2,3,4,6]),(2,[2,3,4,6,7]),(3,[2,3,4,6,7,8]),(4,[2,3,4,6,7,8]),(5,[3,6,7,9]),(6,[3,6,7,9]),(7,[6,7])]
abbrev lv38 : List (Nat × List Nat) := [(0,[0,1]),(1,[0,1]),(2,[]),(3,[0,1]),(4,[0,1,12,13]),(5,[0,1,12,13]),(6,[0,1,5,12,13]),(7,[]),(8,[0,1,12,13]),(9,[])]
abbrev lv41 : List (Nat × List Nat) := [(0,[0,1,2]),(1,[2,3,4]),(2,[2,4,7]),(3,[2,4,7]),(4,[]),(5,[2,4,7]),(6,[]),(7,[7])]
abbrev lv43 : List (Nat × List Nat) := [(0,[0,1,2,3,4,5]),(1,[2,5,6,7,9,10,12]),(2,[2,5,6,7,9,10,12,15]),(3,[12,15]),(4,[2,5,6,7,9,10,12]),(5,[12]),(6,[2,5,6,7,9,10,12]),(7,[12]),(8,[2,5,6,7,9,10,12]),(9,[12]),(10,[2,5,6,7,9,10,12]),(11,[2,5,6,7,9,10,12]),(12,[7,12,16,17]),(13,[12]),(14,[7,12,16])]
abbrev lv44 : List (Nat × List Nat) := [(0,[0,1,2]),(1,[2,3,4])]
abbrev lv45 : List (Nat × List Nat) := [(0,[0,1,2,3,4,5,6]),(1,[2,3,5,7,8,11,13,14]),(2,[2,5,8,14]),(3,[2,3,5,7,8,11,13,14]),(4,[8,14]),(5,[2,3,5,7,8,11,13,14]),(6,[2,3,5,7,8,11,13,14]),(7,[2,3,5,7,8,11,13,14,17]),(8,[2,3,7,8,11,13,14,17]),(9,[2,3,7,8,11,13,14,17]),(10,[2,3,8,11,13,14,17]),(11,[2,3,8,11,13,14,17]),(12,[3,8,11,13,14])]
abbrev lv48 : List (Nat × List Nat) := [(0,[0,1]),(1,[0,1])]
abbrev lv51 : List (Nat × List Nat) := [(0,[0]),(1,[1])]
abbrev lv52 : List (Nat × List Nat) := [(0,[0]),(1,[1]),(2,[1,3]),(3,[]),(4,[1]),(5,[1,4]),(6,[1,4,26,27,28]),(7,[1,4,26,27,28]),(8,[1,4,6,26,27,28]),(9,[]),(10,[1,4,6,26,27,28]),(11,[1,4,26,27,28]),(12,[1])]
abbrev lv53 : List (Nat × List Nat) := [(0,[0,1]),(1,[0,1])]
abbrev lv54 : List (Nat × List Nat) := [(0,[0,1]),(1,[1,2])]
abbrev lv55 : List (Nat × List Nat) := [(0,[0,1]),(1,[2,3]),(2,[3,5]),(3,[]),(4,[3,5]),(5,[3,5,30,31,32]),(6,[3,5,30,31,32]),(7,[3,5,6,7,30,31,32]),(8,[]),(9,[3,5,30,31,32]),(10,[3]),(11,[10])]
abbrev lv57 : List (Nat × List Nat) := [(0,[0]),(1,[1]),(2,[]),(3,[1]),(4,[1,3]),(5,[3]),(6,[1]),(7,[]),(8,[1]),(9,[]),(10,[1]),(11,[]),(12,[])]
abbrev lv58 : List (Nat × List Nat) := [(0,[0,1]),(1,[0,1])]
abbrev lv59 : List (Nat × List Nat) := [(0,[0]),(1,[1])]
abbrev lv60 : List (Nat × List Nat) := [(0,[0]),(1,[1]),(2,[1,4]),(3,[1,4,5]),(4,[4,5,12,13,14]),(5,[4,5,12,13,14]),(6,[4,5,7,12,13,14]),(7,[4,5,8,9,12,13,14]),(8,[4,5,12,13,14]),(9,[4,5])]
abbrev lv61 : List (Nat × List Nat) := [(0,[0]),(1,[1]),(2,[1,3]),(3,[]),(4,[1]),(5,[]),(6,[1]),(7,[1,99,100,101]),(8,[1,99,100,101]),(9,[1,4,5,99,100,101]),(10,[]),(11,[1,99,100,101]),(12,[])]
abbrev lv68 : List (Nat × List Nat) := [(0,[0,1]),(1,[0,1]),(2,[]),(3,[0,1]),(4,[0,1,12,13]),(5,[0,1,12,13]),(6,[0,1,5,12,13]),(7,[]),(8,[0,1,12,13]),(9,[])]
abbrev lv72 : List (Nat × List Nat) := [(0,[]),(1,[])]
abbrev lv73 : List (Nat × List Nat) := [(0,[0]),(1,[1]),(2,[1,4]),(3,[1]),(4,[1,4]),(5,[1]),(6,[1,4]),(7,[1]),(8,[1,4]),(9,[1]),(10,[1,4]),(11,[1,4]),(12,[1]),(13,[1,4]),(14,[1]),(15,[])]
abbrev lv74 : List (Nat × List Nat) := [(0,[0,1,2,3]),(1,[2,4,5,7]),(2,[2,4,5,7,9]),(3,[]),(4,[2,4,5,7,9]),(5,[2,4,5,7,9,32,33]),(6,[2,4,5,7,9,32,33]),(7,[2,4,5,7,9,10,11,32,33]),(8,[2,4,5,7,9,10,11,12,32,33]),(9,[]),(10,[2,4,5,7,9,32,33]),(11,[2,4,5,7]),(12,[2,4,5,7,60]),(13,[2,7]),(14,[4,5,7,60]),(15,[5,7]),(16,[4,5,7,60]),(17,[5,7]),(18,[4,5,7,60]),(19,[5]),(20,[4,5,7,60]),(21,[4,5,7]),(22,[5,99,100,101]),(23,[5,99,100,101]),(24,[5,14,99,100,101]),(25,[]),(26,[5,99,100,101]),(27,[])]
abbrev lv75 : List (Nat × List Nat) := [(0,[0]),(1,[1]),(2,[1,4]),(3,[1,4,5]),(4,[]),(5,[1,4,5]),(6,[1,4,5]),(7,[1,4,5,6]),(8,[1,4,5]),(9,[1,4,5,6]),(10,[1,4,5,6,27,28,29]),(11,[1,4,5,6,27,28,29]),(12,[1,4,5,6,7,8,27,28,29]),(13,[1,4,5,6,7,8,27,28,29]),(14,[1,4,5,6,7,8,9,27,28,29]),(15,[1,4,5,6,7,8,9,27,28,29]),(16,[1,4,5,6,7,8,9,27,28,29]),(17,[1,4,5,6,7,8,9,27,28,29]),(18,[1,4,5,6,7,9,27,28,29]),(19,[1,4,5,6,7,8,9,27,28,29,47]),(20,[1,4,5,6,7,8,9,27,28,29,47]),(21,[1,4,5,6,7,8,9,27,28,29,47]),(22,[1,4,5,6,7,8,9,27,28,29,47]),(23,[1,4,5,6,8,9,27,28,29]),(24,[1,4,5,6,7,8,9,27,28,29,47]),(25,[1,4,5,6,7,8,9,27,28,29]),(26,[1,4,5,6,7,8,9,27,28,29,47]),(27,[1,4,5,6,7,8,9,27,28,29]),(28,[1,4,5,6,7,8,9,10,27,28,29]),(29,[1,4,5,6,7,9,27,28,29,47]),(30,[1,4,5,6,7,9,27,28,29]),(31,[]),(32,[1,4,5,6,7,9,27,28,29]),(33,[1,4,5,6,11,12,27,28,29]),(34,[1,4,5,6,12,27,28,29,108,109,110]),(35,[1,4,5,6,12,27,28,29,108,109,110]),(36,[1,4,5,6,12,13,14,27,28,29,108,109,110]),(37,[]),(38,[1,4,5,6,12,13,14,27,28,29,108,109,110]),(39,[1,4,5,6,12,13,14,27,28,29,108,109,110]),(40,[1,4,5,6,12,27,28,29,108,109,110]),(41,[1,4,5,6,27,28,29]),(42,[5])]
abbrev lv76 : List (Nat × List Nat) := [(0,[0,1]),(1,[2,3]),(2,[]),(3,[2,3]),(4,[2,3,54,55,56]),(5,[2,3,54,55,56]),(6,[2,3,5,6,54,55,56]),(7,[2,3,6,7,54,55,56]),(8,[]),(9,[2,3,54,55,56]),(10,[2,3]),(11,[2,3,97,98]),(12,[2,3,97,98]),(13,[2,3,8,97,98]),(14,[]),(15,[2,3,97,98]),(16,[2,3]),(17,[2,3,115,116]),(18,[2,3,115,116]),(19,[2,3,9,115,116]),(20,[]),(21,[2,3,115,116]),(22,[2,3]),(23,[2,3,133,134]),(24,[2,3,133,134]),(25,[2,3,10,133,134]),(26,[]),(27,[2,3,133,134]),(28,[])]
abbrev lv77 : List (Nat × List Nat) := [(0,[0,1]),(1,[0,1]),(2,[]),(3,[0,1]),(4,[1,14,15,16]),(5,[1,14,15,16]),(6,[1,5,6,14,15,16]),(7,[1,6,7,14,15,16]),(8,[]),(9,[1,6,7,14,15,16]),(10,[1,6,7,14,15,16,77,78]),(11,[1,6,7,14,15,16,77,78]),(12,[1,6,7,8,14,15,16,77,78]),(13,[]),(14,[1,6,7,14,15,16,77,78]),(15,[1,14,15,16]),(16,[])]
abbrev lv78 : List (Nat × List Nat) := [(0,[0]),(1,[1]),(2,[1,3]),(3,[1,3,46,47,48]),(4,[1,3,46,47,48]),(5,[1,3,5,46,47,48]),(6,[1,3,46,47,48]),(7,[1,3]),(8,[1,3,60,61,62]),(9,[1,3,60,61,62]),(10,[1,3,7,60,61,62]),(11,[1,3,7,8,60,61,62]),(12,[1,3,7,60,61,62]),(13,[1,3,7,8,60,61,62]),(14,[1,3,60,61,62]),(15,[1,3]),(16,[]),(17,[1]),(18,[1,9]),(19,[9]),(20,[1]),(21,[1,10]),(22,[1,10,90,91,92]),(23,[1,10,90,91,92]),(24,[1,10,11,12,90,91,92]),(25,[1,10,11,12,90,91,92]),(26,[1,10,12,90,91,92,113,114,115]),(27,[1,10,12,90,91,92,113,114,115]),(28,[1,10,12,14,90,91,92,113,114,115]),(29,[1,10,12,90,91,92,113,114,115]),(30,[1,10,90,91,92]),(31,[1,10]),(32,[1,10,128,129,130]),(33,[1,10,128,129,130]),(34,[1,10,16,128,129,130]),(35,[1,10,128,129,130]),(36,[1,10]),(37,[1,10,145,146,147]),(38,[1,10,145,146,147]),(39,[1,10,18,145,146,147]),(40,[1,10,145,146,147]),(41,[1,10]),(42,[1,10,159,160,161]),(43,[1,10,159,160,161]),(44,[1,10,20,159,160,161]),(45,[1,10,159,160,161]),(46,[1,10]),(47,[1,10,178,179,180]),(48,[1,10,178,179,180]),(49,[1,10,22,178,179,180]),(50,[1,10,178,179,180]),(51,[10]),(52,[]),(53,[])]
abbrev lv79 : List (Nat × List Nat) := [(0,[0]),(1,[1]),(2,[1,3]),(3,[3,9,10,11]),(4,[3,9,10,11]),(5,[3,5,9,10,11]),(6,[3,9,10,11,16,17,18]),(7,[3,9,10,11,16,17,18]),(8,[3,7,9,10,11,16,17,18]),(9,[3,7,9,10,11,16,17,18]),(10,[3,9,10,11,16,17,18]),(11,[3,9,10,11]),(12,[3])]
abbrev lv80 : List (Nat × List Nat) := [(0,[0,1,2]),(1,[3,4,5]),(2,[]),(3,[3,4,5]),(4,[4,5,7]),(5,[4,5,7,8]),(6,[]),(7,[4,5]),(8,[4,89,90,91]),(9,[4,89,90,91]),(10,[4,11,89,90,91]),(11,[]),(12,[4,89,90,91]),(13,[])]
abbrev lv81 : List (Nat × List Nat) := [(0,[0,1]),(1,[0,1]),(2,[1,7,8,9]),(3,[1,7,8,9]),(4,[1,6,7,8,9]),(5,[]),(6,[1,7,8,9]),(7,[])]
abbrev lv82 : List (Nat × List Nat) := [(0,[0,1,2]),(1,[3,4,5]),(2,[3,4,5,7]),(3,[]),(4,[3,4,5]),(5,[3,4,5]),(6,[]),(7,[3,4,5,50]),(8,[3,4,5]),(9,[]),(10,[3,4,5,50]),(11,[3,4,5]),(12,[]),(13,[3,4,5]),(14,[3,4,5,73,74,75]),(15,[3,4,5,73,74,75]),(16,[3,4,5,8,9,73,74,75]),(17,[]),(18,[3,4,5,8,9,73,74,75]),(19,[3,4,5,8,9,10,73,74,75]),(20,[3,4,5,8,9,73,74,75]),(21,[3,4,5,8,9,10,73,74,75]),(22,[]),(23,[3,4,5,8,9,73,74,75]),(24,[3,4,5,8,9,11,73,74,75]),(25,[]),(26,[3,4,5,8,9,11,73,74,75]),(27,[]),(28,[3,4,5,73,74,75]),(29,[])]
abbrev lv83 : List (Nat × List Nat) := [(0,[0,1]),(1,[0,3])]
abbrev lv84 : List (Nat × List Nat) := [(0,[0]),(1,[1,2]),(2,[1,2]),(3,[1,2,31,32]),(4,[1,2,31,32]),(5,[1,2,3,31,32]),(6,[1,2,31,32]),(7,[1,2]),(8,[1,2,62,63]),(9,[1,2,62,63]),(10,[1,2,4,62,63]),(11,[1,2,62,63]),(12,[1,2])]
abbrev lv86 : List (Nat × List Nat) := [(0,[0,1,2]),(1,[0,1,2,6]),(2,[0,1,2,6,7]),(3,[0,6,7,8]),(4,[0,6,7,8]),(5,[0,6,7,9]),(6,[6,7])]
abbrev lv87 : List (Nat × List Nat) := [(0,[0]),(1,[1,2]),(2,[1,2,3]),(3,[1,2,3,4]),(4,[1,2,3,4,11,12,13]),(5,[1,2,3,4,11,12,13]),(6,[1,2,3,4,6,11,12,13]),(7,[1,2,3,4,6,11,12,13]),(8,[1,2,3,4,11,12,13]),(9,[1,2,3,4]),(10,[1,2,3,4,7]),(11,[1,2,3,4,7,33,34,35]),(12,[1,2,3,4,7,33,34,35]),(13,[1,2,3,4,7,9,33,34,35]),(14,[1,2,3,4,7,9,33,34,35]),(15,[1,2,3,4,7,33,34,35]),(16,[1,2,4,7]),(17,[1,2]),(18,[1,2]),(19,[1,2])]
abbrev lv88 : List (Nat × List Nat) := [(0,[0,1,2,3,4,5]),(1,[1,2,3,6,10,11,12]),(2,[6,12])]
abbrev lv90 : List (Nat × List Nat) := [(0,[0,1,2]),(1,[2,3,4]),(2,[2,4,7]),(3,[7]),(4,[2,4]),(5,[]),(6,[2,4]),(7,[]),(8,[])]
abbrev lv91 : List (Nat × List Nat) := [(0,[0,1]),(1,[1,2,4]),(2,[4,5])]
abbrev lv93 : List (Nat × List Nat) := [(0,[0,1,2,3]),(1,[1,2,4,7,8]),(2,[4,8]),(3,[1,2,4,7,8]),(4,[1,2,4,7,8]),(5,[2,4,7,8,9]),(6,[4,8])]
abbrev lv94 : List (Nat × List Nat) := [(0,[0,1,2,3,4,5,6]),(1,[0,1,2,3,5,11,13]),(2,[0,3,5,11,13,16,17]),(3,[5,16]),(4,[]),(5,[0,3,5,11,13,16,17]),(6,[]),(7,[0,3,5,11,13,16,17]),(8,[0,3,5,11,13,16,17,18]),(9,[0,3,11,13,16,17,18]),(10,[0,3,11,13,16,17,18]),(11,[3,11,13,16,17,18]),(12,[3,11,13,16,18]),(13,[3,11,13]),(14,[13])]
abbrev lv97 : List (Nat × List Nat) := [(0,[0,1]),(1,[0,1]),(2,[0,1,7,8]),(3,[0,1,7,8]),(4,[0,1,5,7,8]),(5,[5]),(6,[0,1,7,8]),(7,[])]
abbrev lv98 : List (Nat × List Nat) := [(0,[]),(1,[])]
abbrev lv99 : List (Nat × List Nat) := [(0,[0,1]),(1,[0,1])]
abbrev aXy : List (Nat × List Nat) := [(0,[0]),(1,[0])]
abbrev aXm : List (Nat × List Nat) := [(0,[0]),(1,[1])]
abbrev aWv : List (Nat × List Nat) := [(0,[0,1]),(1,[0,1])]
abbrev aXs : List (Nat × List Nat) := [(0,[0,1]),(1,[1,2])]
abbrev aW0 : List (Nat × List Nat) := [(0,[0]),(1,[1]),(2,[1,4]),(3,[1]),(4,[1,4]),(5,[1]),(6,[1,4]),(7,[1]),(8,[1,4]),(9,[1]),(10,[1,4]),(11,[1,4]),(12,[1]),(13,[1,4]),(14,[1]),(15,[])]
abbrev Rl : List (Nat × List Nat) := [(0,[0,1]),(1,[0,1]),(2,[0,1,7,8]),(3,[0,1,7,8]),(4,[0,1,5,7,8]),(5,[5]),(6,[0,1,7,8]),(7,[])]
abbrev rQ : List (Nat × List Nat) := [(0,[0,1,2]),(1,[1,3,5]),(2,[1,3,5,7]),(3,[]),(4,[1,3,5]),(5,[1,3,5,47]),(6,[1,5]),(7,[3,5,47]),(8,[3,5]),(9,[3,5,47]),(10,[3,5]),(11,[3,5,47]),(12,[3,5]),(13,[3,47]),(14,[3]),(15,[])]
abbrev Ml : List (Nat × List Nat) := [(0,[0]),(1,[1]),(2,[5]),(3,[5]),(4,[5]),(5,[5,6]),(6,[5,6]),(7,[5])]
abbrev aS3 : List (Nat × List Nat) := [(0,[0]),(1,[0])]
abbrev tW : List (Nat × List Nat) := [(0,[0]),(1,[0]),(2,[]),(3,[0]),(4,[]),(5,[0]),(6,[0,3]),(7,[0,3,21,22,23]),(8,[0,3,21,22,23]),(9,[0,3,4,5,21,22,23]),(10,[]),(11,[0,3,5,21,22,23]),(12,[0,3,21,22,23]),(13,[])]
abbrev Fa : List (Nat × List Nat) := [(0,[0]),(1,[0]),(2,[0,3]),(3,[0,3,4]),(4,[0,3,4,9,10,11]),(5,[0,3,4,9,10,11]),(6,[0,3,4,5,6,9,10,11]),(7,[]),(8,[0,3,4,6,9,10,11]),(9,[0,3,4,9,10,11]),(10,[0,3])]
abbrev aSs : List (Nat × List Nat) := [(0,[0,1]),(1,[0,1])]
abbrev aRm : List (Nat × List Nat) := [(0,[0,1]),(1,[1,2])]
abbrev aV6 : List (Nat × List Nat) := [(0,[0,1]),(1,[0,1])]
abbrev aXg : List (Nat × List Nat) := [(0,[0,1]),(1,[1,2])]
abbrev pK : List (Nat × List Nat) := [(0,[0,1]),(1,[2,3]),(2,[2,3,5,6,7]),(3,[]),(4,[2,3,5,6,7,16]),(5,[2,3,5,6,7,16]),(6,[2,3,7]),(7,[2,3,5,7]),(8,[2,3,5,6,7,16]),(9,[2,3,5,7]),(10,[2,3,5,6,7,16]),(11,[2,3,5,7]),(12,[2,3,5,6,7,16]),(13,[2,3,7]),(14,[2,3,5,7]),(15,[2,3,5,6,7,16]),(16,[2,3,6,7]),(17,[2,3,5,6,7]),(18,[2,3,5,6]),(19,[2,3,5,6,7,16]),(20,[2,3,6,7]),(21,[2,3,5,7,16]),(22,[2,3,5,7]),(23,[2,3,5,6,7]),(24,[]),(25,[2,3])]
abbrev aTa : List (Nat × List Nat) := [(0,[0,1]),(1,[1,2])]
abbrev Kj : List (Nat × List Nat) := [(0,[0,1]),(1,[0,3]),(2,[]),(3,[0,3]),(4,[0,3]),(5,[0,3]),(6,[0,3]),(7,[])]
abbrev aVd : List (Nat × List Nat) := [(0,[0,1]),(1,[0,1])]
abbrev aTt : List (Nat × List Nat) := [(0,[0,1]),(1,[1,2])]
abbrev aRo : List (Nat × List Nat) := [(0,[0,1,2]),(1,[0,1,2])]
abbrev Zx : List (Nat × List Nat) := [(0,[0,1,2]),(1,[0,2,4])]
abbrev yY : List (Nat × List Nat) := [(0,[0,1]),(1,[0,1]),(2,[0,1,7,8]),(3,[0,1,7,8]),(4,[0,1,5,7,8]),(5,[5]),(6,[0,1,7,8]),(7,[])]
abbrev aTs : List (Nat × List Nat) := [(0,[0,1,2]),(1,[0,1,2])]
abbrev aTv : List (Nat × List Nat) := [(0,[0,1]),(1,[1,2])]
abbrev Jr : List (Nat × List Nat) := [(0,[0,1]),(1,[0,3]),(2,[0,3,6]),(3,[0,3]),(4,[0,3,6]),(5,[0,3]),(6,[])]
abbrev aR1 : List (Nat × List Nat) := [(0,[0,1]),(1,[1,2])]
abbrev aVl : List (Nat × List Nat) := [(0,[0,1]),(1,[0,3]),(2,[0,3,5]),(3,[]),(4,[0,3]),(5,[0,3]),(6,[]),(7,[0,3,49]),(8,[0,3]),(9,[0,3,7]),(10,[]),(11,[0,3,49]),(12,[0,3]),(13,[]),(14,[0,3])]
abbrev Ya : List (Nat × List Nat) := [(0,[0,1]),(1,[0,1]),(2,[]),(3,[0,1]),(4,[0,1,12,13]),(5,[0,1,12,13]),(6,[0,1,5,12,13]),(7,[]),(8,[0,1,12,13]),(9,[])]
abbrev aIp : List (Nat × List Nat) := [(0,[0]),(1,[0])]
abbrev aW8 : List (Nat × List Nat) := [(0,[0]),(1,[1])]
abbrev aTx : List (Nat × List Nat) := [(0,[0]),(1,[0]),(2,[3]),(3,[]),(4,[3]),(5,[3]),(6,[3]),(7,[3]),(8,[3]),(9,[3]),(10,[3]),(11,[3]),(12,[]),(13,[3]),(14,[3]),(15,[3]),(16,[3]),(17,[3]),(18,[3]),(19,[3]),(20,[3]),(21,[3]),(22,[3]),(23,[]),(24,[3]),(25,[3]),(26,[]),(27,[3]),(28,[3]),(29,[]),(30,[3]),(31,[3]),(32,[3]),(33,[3]),(34,[3]),(35,[3]),(36,[3]),(37,[3]),(38,[]),(39,[3]),(40,[]),(41,[3]),(42,[]),(43,[3]),(44,[]),(45,[3]),(46,[]),(47,[3]),(48,[]),(49,[3]),(50,[]),(51,[3]),(52,[]),(53,[])]
abbrev aXi : List (Nat × List Nat) := [(0,[0,1,2]),(1,[2,3,4]),(2,[3,4,7]),(3,[4]),(4,[3,4,7]),(5,[3]),(6,[3,4,7]),(7,[3]),(8,[3,4,7]),(9,[4]),(10,[3,4,7]),(11,[4]),(12,[3,4,7]),(13,[3]),(14,[4,7]),(15,[4,7]),(16,[4]),(17,[])]
abbrev aBf : List (Nat × List Nat) := [(0,[0,1]),(1,[0,1]),(2,[]),(3,[0,1]),(4,[0,1,12,13]),(5,[0,1,12,13]),(6,[0,1,5,12,13]),(7,[]),(8,[0,1,12,13]),(9,[])]
abbrev aAf : List (Nat × List Nat) := [(0,[0,1]),(1,[0,1]),(2,[]),(3,[0,1]),(4,[0,1,12,13]),(5,[0,1,12,13]),(6,[0,1,5,12,13]),(7,[]),(8,[0,1,12,13]),(9,[])]
abbrev nO : List (Nat × List Nat) := [(0,[0]),(1,[0]),(2,[]),(3,[0]),(4,[0,10,11,12]),(5,[0,10,11,12]),(6,[0,3,4,10,11,12]),(7,[0,4,10,11,12]),(8,[]),(9,[0,3,4,10,11,12]),(10,[]),(11,[0,3,4,10,11,12]),(12,[0,4,10,11,12,49,50,51]),(13,[0,4,10,11,12,49,50,51]),(14,[0,4,6,10,11,12,49,50,51]),(15,[]),(16,[0,4,10,11,12,49,50,51]),(17,[0,10,11,12]),(18,[0]),(19,[]),(20,[])]
abbrev dS : List (Nat × List Nat) := [(0,[0,1]),(1,[2,3]),(2,[2,3,5]),(3,[2,3]),(4,[2,3,5]),(5,[]),(6,[2,3]),(7,[2,3,32,33,34]),(8,[2,3,32,33,34]),(9,[2,3,7,32,33,34]),(10,[]),(11,[2,3,32,33,34]),(12,[2,3]),(13,[2,3,44,45,46]),(14,[2,3,44,45,46]),(15,[2,3,9,44,45,46]),(16,[2,3,44,45,46,55,56,57]),(17,[2,3,44,45,46,55,56,57]),(18,[2,3,11,44,45,46,55,56,57]),(19,[]),(20,[2,3,44,45,46,55,56,57]),(21,[2,3,44,45,46]),(22,[2,3]),(23,[2,3,12]),(24,[2,3,12,72]),(25,[3,12]),(26,[2,3,12,72]),(27,[2,3]),(28,[2,3,12,72]),(29,[3]),(30,[2,3,12,72]),(31,[3]),(32,[2,3,12,72]),(33,[2,3]),(34,[2,3,121,122,123]),(35,[2,3,121,122,123]),(36,[2,3,14,121,122,123]),(37,[]),(38,[2,3,121,122,123]),(39,[3]),(40,[3,12,72]),(41,[3,12]),(42,[3,12,72]),(43,[3,12]),(44,[3,72]),(45,[3]),(46,[3,154,155,156]),(47,[3,154,155,156]),(48,[3,15,16,154,155,156]),(49,[3,15,16,154,155,156]),(50,[]),(51,[3,15,16,154,155,156]),(52,[3,15,16,17,154,155,156]),(53,[3,15,16,17,154,155,156]),(54,[3,15,16,17,154,155,156]),(55,[]),(56,[3,154,155,156]),(57,[3]),(58,[])]
abbrev Qj : List (Nat × List Nat) := [(0,[0]),(1,[0]),(2,[]),(3,[0])]
abbrev So : List (Nat × List Nat) := [(0,[0]),(1,[0]),(2,[]),(3,[0])]
abbrev Tb : List (Nat × List Nat) := [(0,[0]),(1,[0]),(2,[0]),(3,[0,7,8]),(4,[0,7,8]),(5,[0,3,7,8]),(6,[0,7,8]),(7,[0])]
abbrev Kq : List (Nat × List Nat) := [(0,[0]),(1,[0]),(2,[0,3]),(3,[3,6,7,8]),(4,[3,6,7,8]),(5,[3,5,6,7,8]),(6,[3,5,6,7,8]),(7,[3,6,7,8]),(8,[3])]
abbrev Xu : List (Nat × List Nat) := [(0,[0,1,2]),(1,[0,1,5]),(2,[0,1,5])]
abbrev Su : List (Nat × List Nat) := [(0,[0,1]),(1,[0,1]),(2,[0,1,7,8]),(3,[0,1,7,8]),(4,[0,1,5,7,8]),(5,[5]),(6,[0,1,7,8]),(7,[])]
abbrev Qq : List (Nat × List Nat) := [(0,[0,1]),(1,[0,1]),(2,[0,1,7,8]),(3,[0,1,7,8]),(4,[0,1,5,7,8]),(5,[5]),(6,[0,1,7,8]),(7,[])]
abbrev aR6 : List (Nat × List Nat) := [(0,[0,1,2]),(1,[0,1,2])]
abbrev aVu : List (Nat × List Nat) := [(0,[0]),(1,[1])]
abbrev aBp : List (Nat × List Nat) := [(0,[0]),(1,[0]),(2,[0,3]),(3,[]),(4,[0,3])]
abbrev aS7 : List (Nat × List Nat) := [(0,[0,1,2]),(1,[0,1,2])]
abbrev aUq : List (Nat × List Nat) := [(0,[0,1,2]),(1,[1,2,3]),(2,[2,3,7]),(3,[2,3]),(4,[2,3,7]),(5,[2,3]),(6,[2,3,7]),(7,[2,3]),(8,[2,3,7]),(9,[2,3]),(10,[2,3,7]),(11,[2,3]),(12,[2,3,7]),(13,[2,3]),(14,[2,3,7]),(15,[2,3,7]),(16,[2,3,7]),(17,[2,3]),(18,[2])]
abbrev aSf : List (Nat × List Nat) := [(0,[0,1]),(1,[1,2])]
abbrev aUe : List (Nat × List Nat) := [(0,[0,1]),(1,[2,3])]
abbrev Qu : List (Nat × List Nat) := [(0,[0,1,2]),(1,[0]),(2,[0,1,2]),(3,[0,1,2]),(4,[0,1]),(5,[0,1,2]),(6,[0])]
abbrev tU : List (Nat × List Nat) := [(0,[0,1]),(1,[0,1,4,5]),(2,[0,1,4,5,22]),(3,[0,1,4,5,22]),(4,[0,1,4,5,22]),(5,[0,1,4,5,22]),(6,[0,4,5]),(7,[0,1,4,5,22]),(8,[0,1,4,5]),(9,[0,1,4,5,22]),(10,[0,1,4,5]),(11,[0,1,4,5]),(12,[0,1,5,22]),(13,[0,1,5]),(14,[0]),(15,[0,1,5]),(16,[0,1,5])]
abbrev aRv : List (Nat × List Nat) := [(0,[0]),(1,[0])]
abbrev aTu : List (Nat × List Nat) := [(0,[0]),(1,[1])]
abbrev Zq : List (Nat × List Nat) := [(0,[0,1]),(1,[0,1]),(2,[0,1,5]),(3,[0,1,5]),(4,[0,1,5]),(5,[5]),(6,[5])]
abbrev Sq : List (Nat × List Nat) := [(0,[0,1]),(1,[0,1]),(2,[0,1,7,8]),(3,[0,1,7,8]),(4,[0,1,5,7,8]),(5,[5]),(6,[0,1,7,8]),(7,[])]
abbrev Pz : List (Nat × List Nat) := [(0,[0,1]),(1,[0,1]),(2,[0,1,7,8]),(3,[0,1,7,8]),(4,[0,1,5,7,8]),(5,[5]),(6,[0,1,7,8]),(7,[])]
abbrev Rg : List (Nat × List Nat) := [(0,[0,1]),(1,[0,1]),(2,[]),(3,[0,1])]
abbrev aRh : List (Nat × List Nat) := [(0,[0,1]),(1,[1,2])]
abbrev Ku : List (Nat × List Nat) := [(0,[1]),(1,[1]),(2,[1,5]),(3,[1,5,6]),(4,[1,5,6]),(5,[1,5,6]),(6,[]),(7,[1,5,6]),(8,[1])]
abbrev aS0 : List (Nat × List Nat) := [(0,[0,1]),(1,[1,2])]
abbrev aT5 : List (Nat × List Nat) := [(0,[0,1]),(1,[0,1])]
abbrev aRn : List (Nat × List Nat) := [(0,[0,1]),(1,[1,2])]
abbrev Qb : List (Nat × List Nat) := [(0,[0,1]),(1,[0,1]),(2,[0,1,7,8]),(3,[0,1,7,8]),(4,[0,1,5,7,8]),(5,[5]),(6,[0,1,7,8]),(7,[])]
abbrev Zv : List (Nat × List Nat) := [(0,[0,1]),(1,[0,3]),(2,[]),(3,[0,3])]
abbrev Mr : List (Nat × List Nat) := [(0,[0,1,2]),(1,[0,2,4,6]),(2,[6]),(3,[0,4,6])]
abbrev jE : List (Nat × List Nat) := [(0,[0,1]),(1,[0,1]),(2,[0,1,11,12,13]),(3,[0,1,11,12,13]),(4,[0,1,5,6,11,12,13]),(5,[0,1,5,6,7,11,12,13]),(6,[0,1,5,6,11,12,13]),(7,[0,1,5,6,7,11,12,13]),(8,[0,1,5,6,7,8,11,12,13]),(9,[]),(10,[0,1,5,6,8,11,12,13]),(11,[0,1,5,6,11,12,13]),(12,[0,1,5,6,9,10,11,12,13]),(13,[]),(14,[0,1,6,11,12,13]),(15,[0,1,11,12,13]),(16,[])]
abbrev aJc : List (Nat × List Nat) := [(0,[0,1]),(1,[0,1]),(2,[]),(3,[0,1])]
abbrev Py : List (Nat × List Nat) := [(0,[0]),(1,[0]),(2,[]),(3,[0])]
abbrev aR4 : List (Nat × List Nat) := [(0,[0,1]),(1,[1,2])]
abbrev aXj : List (Nat × List Nat) := [(0,[0,1]),(1,[1,2])]
abbrev aUu : List (Nat × List Nat) := [(0,[0,1]),(1,[0,1])]
abbrev aWi : List (Nat × List Nat) := [(0,[0,1]),(1,[0,1])]
abbrev Yv : List (Nat × List Nat) := [(0,[0]),(1,[0,2,3]),(2,[0,2,3]),(3,[0,2,3])]
abbrev aQ7 : List (Nat × List Nat) := [(0,[0,1]),(1,[1,2])]
abbrev Ry : List (Nat × List Nat) := [(0,[0,1]),(1,[0,1]),(2,[0,1,7,8]),(3,[0,1,7,8]),(4,[0,1,5,7,8]),(5,[5]),(6,[0,1,7,8]),(7,[])]
abbrev Bl : List (Nat × List Nat) := [(0,[0,1]),(1,[2,3]),(2,[]),(3,[2,3]),(4,[2,3,5]),(5,[2,3,5,6,7]),(6,[]),(7,[2,3])]
abbrev Sa : List (Nat × List Nat) := [(0,[0,1]),(1,[0,1]),(2,[0,1,7,8]),(3,[0,1,7,8]),(4,[0,1,5,7,8]),(5,[5]),(6,[0,1,7,8]),(7,[])]
abbrev aVv : List (Nat × List Nat) := [(0,[0,1]),(1,[1,2])]
abbrev VV (k n : Int) : AV := .agg [Iv k, Iv n]
attribute [go_sem ↓] reduceIte
attribute [go_sem] Nat.reduceEqDiff Nat.reduceAdd Nat.reduceSub Nat.reduceMul Nat.reduceLT Nat.reduceLeDiff reduceCtorEq Int.reduceLT Int.reduceLE Int.reduceAdd Int.reduceSub Int.reduceMul Int.reduceToNat Int.reduceNeg Int.reduceEq
attribute [go_sem ↓] opG opK valK
attribute [go_sem] List.set_cons_zero List.set_cons_succ
attribute [go_sem] Am updK keyK Ip
attribute [go_sem] frz frzL frzT frzR rK hJ roL Ws bmp bmpL bmpT bmpR rL De vA mpS mpD dQ jT ndB
attribute [go_sem] isNd noNd fnAV aXl aFn spQ Qz nvC
attribute [go_sem] FinF FinO FinM nil1 nilL nilR own1 ownL subR kO ren renL aX
attribute [go_sem] Em vY sA gB oM nS resG FinK resV kZ Ck Zu bK aX
attribute [go_sem] fZ addN dH bM ev bB putT aB putR St.set St.upd St.cur Sd binI binS eqOr unAV Gk eq1 zV vJ wk
attribute [go_sem] rd avCells fQ cW dR uB Fh Mt srcK nE Aa Rm rC qP Hj Hb sV oC Hm roK argT
attribute [go_sem] List.length_cons List.length_nil List.take_succ_cons List.take_zero List.take_nil List.drop_succ_cons List.drop_zero List.map_cons List.map_nil List.getD_cons_zero List.getD_cons_succ List.append_nil List.nil_append List.cons_append List.isEmpty_nil List.isEmpty_cons Bool.true_or Bool.false_or Bool.or_true Bool.or_false
@[go_sem] theorem aYv (k : IntKind) (n : Int) : (Value.int k n).oneCell' = true := rfl
@[go_sem] theorem aX6 (b : Bool) : (Value.bool b).oneCell' = true := rfl
@[go_sem] theorem aOt (b : ByteArray) : (Value.string b).oneCell' = true := rfl
@[go_sem] theorem aRb (k : FloatKind) (b : Nat) : (Value.float k b).oneCell' = true := rfl
@[go_sem] theorem aV7 (a : Option Addr) (n c : Nat) : (Value.slice a n c).oneCell' = true := rfl
@[go_sem] theorem aNd (a : Option Addr) : (Value.pointer a).oneCell' = true := rfl
@[go_sem] theorem aY2 (a : Option Nat) : (Value.map a).oneCell' = true := rfl
@[go_sem] theorem aOe (st : St) (cs : List AV) (K : List Loc → AV → Prop) : vT st (.agg cs) K = (noNd cs = true ∧ oM (gB 4 st) cs fun l ys => K l (.agg (ys.map .r))) := rfl
@[go_sem] theorem aXw (st : St) (f : Nat) (cs : List AV) (K : List Loc → AV → Prop) : vT st (.cl f cs) K = (noNd cs = true ∧ oM (gB 4 st) cs fun l ys => K l (.r (.fn f ys))) := rfl
@[go_sem] theorem aOs (st : St) (K : List Loc → AV → Prop) : vT st .any K = K [] .any := rfl
@[go_sem] theorem aEj (st : St) (x : RV) (K : List Loc → AV → Prop) : vT st (.r x) K = K [] (.r x) := rfl
@[go_sem] theorem aW6 (st : St) (k ver : Nat) (K : List Loc → AV → Prop) : vT st (.os k ver) K = gB 4 st (.os k ver) fun l y => K l (.r y) := rfl
@[go_sem] theorem aUb (st : St) (k ver off : Nat) (K : List Loc → AV → Prop) : vT st (.rf k ver off) K = gB 4 st (.rf k ver off) fun l y => K l (.r y) := rfl
attribute [go_sem] decide_true decide_false Nat.lt_irrefl Nat.le_refl eq_self true_and and_true Bool.and_true Bool.true_and Bool.false_and Bool.and_false cond_true cond_false Bool.not_true Bool.not_false beq_self_eq_true RV.v.injEq beq_true beq_false
attribute [go_sem] Vb oneK memN cG
@[go_sem] theorem aYa (q b : Bool) (K : Bool → Prop) : mC (.r (.v (.bool q))) b K = K (q == b) := rfl
@[go_sem] theorem aYk (b : Bool) (K : Bool → Prop) : mC UD b K = K false := rfl
@[go_sem] theorem aPb (c p b : Bool) (K : Bool → Prop) : mC (bif c then UD else .r (.v (.bool p))) b K = K (!c && (p == b)) := by cases c <;> rfl
@[go_sem] theorem aX0 (q p r : Bool) : mA q (.r (.v (.bool p))) (.r (.v (.bool r))) = .r (.v (.bool (bif q then p else r))) := rfl
@[go_sem] theorem aYw (x y : AV) : mA true x y = x := by unfold mA; split <;> simp_all
@[go_sem] theorem aYz (x y : AV) : mA false x y = y := by unfold mA; split <;> simp_all
@[go_sem] theorem aK4 (q p r : Bool) : mA q (bif q then .r (.v (.bool p)) else UD) (.r (.v (.bool r))) = .r (.v (.bool (bif q then p else r))) := by cases q <;> rfl
@[go_sem] theorem aKq (q p r : Bool) : mA q (.r (.v (.bool r))) (bif q then UD else .r (.v (.bool p))) = .r (.v (.bool (bif q then r else p))) := by cases q <;> rfl
@[go_sem] theorem aIg (q p r : Bool) : mA (!q) (bif q then UD else .r (.v (.bool p))) (.r (.v (.bool r))) = .r (.v (.bool (bif q then r else p))) := by cases q <;> rfl
@[go_sem] theorem aJb (q p r : Bool) : mA (!q) (.r (.v (.bool r))) (bif q then .r (.v (.bool p)) else UD) = .r (.v (.bool (bif q then p else r))) := by cases q <;> rfl
@[go_sem] theorem aY3 (q p : Bool) : (bif q then false else p) = (!q && p) := by cases q <;> rfl
@[go_sem] theorem aYs (q p : Bool) : (bif q then p else true) = (!q || p) := by cases q <;> rfl
@[go_sem] theorem aX1 (q : Bool) (x y : AV) : (bif !q then x else y) = bif q then y else x := by cases q <;> rfl
@[go_sem] theorem aYx (q p : Bool) : (bif q then true else p) = (q || p) := by cases q <;> rfl
@[go_sem] theorem aYb (q p : Bool) : (bif q then p else false) = (q && p) := by cases q <;> rfl
@[go_sem] theorem dK (q : Bool) : (q == true) = q := by cases q <;> rfl
@[go_sem] theorem dC (q : Bool) : (q == false) = !q := by cases q <;> rfl
@[go_sem] theorem aN (n : Int) (h1 : -9223372036854775808 ≤ n) (h2 : n ≤ 9223372036854775807) : IntKind.i64.wrap n = n := by
 have e : IntKind.i64.wrap n = if n % 18446744073709551616 ≥ 9223372036854775808 then n % 18446744073709551616 - 18446744073709551616 else n % 18446744073709551616 := by
  by_cases h : n % 18446744073709551616 ≥ 9223372036854775808 <;> simp [IntKind.wrap, IntKind.bits, IntKind.signed, h]
 rw [e]
 split <;> omega
attribute [go_sem] Int.cast_ofNat_Int List.range_zero Option.isSome_some Option.getD_some Option.getD_none
theorem mixed : Tryz.prog.follows .mixedOrders = true := by kernel_rfl
theorem Ng : Tryz.prog.globalNamed "strings.asciiSpace" = some 1 := by kernel_rfl
theorem Jb (w w' : World) (h : Lib.TabIs Tryz.prog w "strings.asciiSpace" .u8 Lib.asciiSpaceTab) (hb : ∀ b, b < 1 + 1 → w'.heap[b]? = w.heap[b]?) : Lib.TabIs Tryz.prog w' "strings.asciiSpace" .u8 Lib.asciiSpaceTab := by
 unfold Lib.TabIs World.var? at *
 rw [Ng] at h ⊢
 simp only [Option.bind_some] at h ⊢
 rw [hb _ (Nat.lt_succ_self _)]
 exact h
noncomputable def Cx : Ctx := { P := Tryz.prog, gs := 1 + 1, G := fun w => Lib.TabIs Tryz.prog w "strings.asciiSpace" .u8 Lib.asciiSpaceTab, hG := fun w w' h hb _ => Jb w w' h hb, mixed := mixed }
@[go_sem] theorem Cx_P : Cx.P = Tryz.prog := rfl
inductive Ro (P : Program) : Nat → List RV → Prop
 | int (t : Nat) (k : IntKind) (n : Int) (ht : P.underlying t = some (.int k)) (hw : (Lit.int k n).wf = true) : Ro P t [.v (.int k n)]
 | bool (t : Nat) (b : Bool) (ht : P.underlying t = some .bool) : Ro P t [.v (.bool b)]
 | string (t : Nat) (s : ByteArray) (ht : P.underlying t = some .string) (hs : s.size ≤ maxLen) : Ro P t [.v (.string s)]
 | struct (t : Nat) (fs : Array Field) (rows : List (List RV)) (ht : P.underlying t = some (.struct fs)) (hn : rows.length = fs.toList.length)
   (h : ∀ (i : Nat) (f : Field) (row : List RV), fs.toList[i]? = some f → rows[i]? = some row → Ro P f.type row) : Ro P t rows.flatten
 | slice (t e : Nat) (rows : List (List RV)) (ht : P.underlying t = some (.slice e)) (hl : rows.length ≤ maxLen) (hb : rows.length * P.bytesOf e ≤ reachBytes) (h : ∀ row ∈ rows, Ro P e row) : Ro P t [.rs (P.cellsOf e) rows]
def vF (P : Program) : List Field → Nat → Nat → Bool
 | [], off, n => off == n
 | f :: fs, off, n => f.offset == off && vF P fs (off + P.cellsOf f.type) n
def openB (P : Program) : Nat → Nat → Bool
 | 0, _ => false
 | d + 1, t => match P.underlying t with
  | some (.int _) | some .bool | some .string => P.cellsOf t == 1
  | some (.struct fs) => vF P fs.toList 0 (P.cellsOf t) && fs.toList.all fun f => openB P d f.type
  | some (.slice e) => P.cellsOf t == 1 && decide (0 < P.cellsOf e) && openB P d e
  | _ => false
theorem rP {H : Type} {P : Program} {e : Nat} {d : DataW H} : ∀ {l : List (DataW H)}, d ∈ l → ∀ m ∈ d.weights P e, m ∈ DataW.weightsAll P e l
 | x :: l, h, m, hm => by
  unfold DataW.weightsAll
  rcases List.mem_cons.1 h with rfl | h
  ·exact List.mem_append_left _ hm
  ·exact List.mem_append_right _ (rP h m hm)
theorem wD {P : Program} {W : World} {H : Type} {enc : TypeId × Value → H} {n : Nat}
  (ih : ∀ (t : Nat) (cs : List Value) (x : DataW H × List MemPlace), DataW.trod enc P W 0 (fun _ => true) true n t cs = some x → (∀ m ∈ x.1.weights P t, m ≤ reachBytes) → ∀ d, openB P d t = true → ∃ row, Ro P t row ∧ row.length = P.cellsOf t ∧ cs.length = P.cellsOf t ∧ ∀ (j : Nat) (r : RV) (c : Value), row[j]? = some r → cs[j]? = some c → RR W (fun _ => False) r c) (d : Nat) (cs : List Value) :
  ∀ (fs : List Field) (off : Nat) (xs : List (DataW H × List MemPlace)), (∀ m ∈ DataW.weightsEach P (fs.map (·.type)) (xs.map (·.1)), m ≤ reachBytes) → fs.mapM (fun f => DataW.trod enc P W 0 (fun _ => true) true n f.type ((cs.drop f.offset).take (P.cellsOf f.type))) = some xs → vF P fs off cs.length = true → fs.all (fun f => openB P d f.type) = true →
   ∃ rows : List (List RV), rows.length = fs.length ∧ (∀ (i : Nat) (f : Field) (row : List RV), fs[i]? = some f → rows[i]? = some row → Ro P f.type row) ∧ off + rows.flatten.length = cs.length ∧ ∀ (j : Nat) (r : RV) (c : Value), rows.flatten[j]? = some r → cs[off + j]? = some c → RR W (fun _ => False) r c
 | [], off, xs, _, _, hc, _ => by
  simp only [vF, beq_iff_eq] at hc
  exact ⟨[], rfl, fun i f row h => by simp at h, by simpa using hc, fun j r c h => by simp at h⟩
 | f :: fs, off, xs, hm, h, hc, ha => by
  simp only [vF, Bool.and_eq_true, beq_iff_eq] at hc
  simp only [List.all_cons, Bool.and_eq_true] at ha
  rw [List.mapM_cons] at h
  cases h1 : DataW.trod enc P W 0 (fun _ => true) true n f.type ((cs.drop f.offset).take (P.cellsOf f.type)) with
  | none => rw [h1] at h; simp at h
  | some y =>
   rw [h1] at h
   cases h2 : fs.mapM (fun f => DataW.trod enc P W 0 (fun _ => true) true n f.type ((cs.drop f.offset).take (P.cellsOf f.type))) with
   | none => rw [h2] at h; simp at h
   | some ys =>
    have hxs : xs = y :: ys := by rw [h2] at h; simpa using h.symm
    have hw : DataW.weightsEach P ((f :: fs).map (·.type)) (xs.map (·.1)) = y.1.weights P f.type ++ DataW.weightsEach P (fs.map (·.type)) (ys.map (·.1)) := by rw [hxs]; rfl
    rw [hw] at hm
    obtain ⟨row, r1, r2, r3, r4⟩ := ih _ _ _ h1 (fun m h => hm m (List.mem_append_left _ h)) d ha.1
    obtain ⟨rows, q1, q2, q3, q4⟩ := wD ih d cs fs _ ys (fun m h => hm m (List.mem_append_right _ h)) h2 hc.2 ha.2
    refine ⟨row :: rows, by simp [q1], fun i f' row' hi hr => ?_, by simp only [List.flatten_cons, List.length_append]; omega, fun j r c hj hcj => ?_⟩
    ·cases i with
     | zero => simp at hi hr; subst hi; subst hr; exact r1
     | succ i => exact q2 i f' row' (by simpa using hi) (by simpa using hr)
    ·rw [List.flatten_cons] at hj
     by_cases hjl : j < row.length
     ·rw [List.getElem?_append_left hjl] at hj
      refine r4 j r c hj ?_
      rw [List.getElem?_take, if_pos (by omega), List.getElem?_drop, hc.1]; exact hcj
     ·rw [List.getElem?_append_right (by omega)] at hj
      refine q4 _ r c hj ?_
      have : off + P.cellsOf f.type + (j - row.length) = off + j := by omega
      rw [this]; exact hcj
theorem add2 {a : Addr} (h : a.spot = none) (n m : Nat) : (a.add n).add m = ⟨a.block, a.off + (n + m), none⟩ := by
 obtain ⟨b, o, sp⟩ := a
 simp only at h
 subst h
 by_cases hn : n = 0 <;> by_cases hm : m = 0 <;> simp [Addr.add, hn, hm, Nat.add_assoc]
theorem Er (a : Addr) (n : Nat) : (a.add n).block = a.block := by
 unfold Addr.add; split <;> rfl
theorem aUa {P : Program} {W : World} {H : Type} {enc : TypeId × Value → H} : ∀ (n : Nat) (t : Nat) (cs : List Value) (x : DataW H × List MemPlace), DataW.trod enc P W 0 (fun _ => true) true n t cs = some x → (∀ m ∈ x.1.weights P t, m ≤ reachBytes) → ∀ d, openB P d t = true →
  ∃ row, Ro P t row ∧ row.length = P.cellsOf t ∧ cs.length = P.cellsOf t ∧ ∀ (j : Nat) (r : RV) (c : Value), row[j]? = some r → cs[j]? = some c → RR W (fun _ => False) r c := by
 intro n
 induction n with
 | zero => intro t cs x h _; simp [DataW.trod] at h
 | succ n ih =>
  intro t cs x h hwt d hd
  cases d with
  | zero => simp [openB] at hd
  | succ d =>
   have one : ∀ (r : RV) (c : Value), cs = [c] → RR W (fun _ => False) r c → ∀ (j : Nat) (r' : RV) (c' : Value), [r][j]? = some r' → cs[j]? = some c' → RR W (fun _ => False) r' c' := by
    intro r c hcs hr j r' c' h1 h2
    subst hcs
    cases j with
    | zero => simp at h1 h2; subst h1; subst h2; exact hr
    | succ j => simp at h1
   unfold openB at hd
   split at hd
   ·rename_i k ht
    obtain ⟨m, rfl, hx, hw⟩ := DataW.trod_int ht h
    exact ⟨[.v (.int k m)], .int t k m ht hw, (beq_iff_eq.1 hd).symm, (beq_iff_eq.1 hd).symm, one _ _ rfl (.v _)⟩
   ·rename_i ht
    have : ∃ b, cs = [.bool b] := by
     unfold DataW.trod at h
     rw [ht] at h
     split at h <;> simp_all
    obtain ⟨b, rfl⟩ := this
    exact ⟨[.v (.bool b)], .bool t b ht, (beq_iff_eq.1 hd).symm, (beq_iff_eq.1 hd).symm, one _ _ rfl (.v _)⟩
   ·rename_i ht
    have : ∃ s : ByteArray, cs = [.string s] ∧ s.size ≤ maxLen := by
     unfold DataW.trod at h
     rw [ht] at h
     split at h <;> simp_all
    obtain ⟨s, rfl, hs⟩ := this
    exact ⟨[.v (.string s)], .string t s ht hs, (beq_iff_eq.1 hd).symm, (beq_iff_eq.1 hd).symm, one _ _ rfl (.v _)⟩
   ·rename_i fs ht
    simp only [Bool.and_eq_true] at hd
    have : cs.length = P.cellsOf t ∧ ∃ xs, fs.toList.mapM (fun f => DataW.trod enc P W 0 (fun _ => true) true n f.type ((cs.drop f.offset).take (P.cellsOf f.type))) = some xs ∧ x.1 = .agg (xs.map (·.1)) := by
     unfold DataW.trod at h
     rw [ht] at h
     simp only at h
     split at h
     ·rename_i hl
      cases hm : fs.toList.mapM (fun f => DataW.trod enc P W 0 (fun _ => true) true n f.type ((cs.drop f.offset).take (P.cellsOf f.type))) with
      | none => rw [hm] at h; simp at h
      | some xs => rw [hm] at h; simp at h; exact ⟨hl, xs, rfl, by rw [← h]⟩
     ·simp at h
    obtain ⟨hl, xs, hm, hx1⟩ := this
    have hwe : ∀ m ∈ DataW.weightsEach P (fs.toList.map (·.type)) (xs.map (·.1)), m ≤ reachBytes := fun m h' => hwt m (by rw [hx1]; unfold DataW.weights; rw [ht]; exact h')
    obtain ⟨rows, q1, q2, q3, q4⟩ := wD ih d cs fs.toList 0 xs hwe hm (by rw [hl]; exact hd.1) hd.2
    exact ⟨rows.flatten, .struct t fs rows ht q1 q2, by omega, hl, fun j r c hj hc => q4 j r c hj (by simpa using hc)⟩
   ·rename_i e ht
    simp only [Bool.and_eq_true, beq_iff_eq, decide_eq_true_eq] at hd
    obtain ⟨⟨hd1, hd2⟩, hd3⟩ := hd
    rcases DataW.trod_slice ht h with ⟨rfl, _⟩ | ⟨a, len, cap, elems, rest, n', hn, rfl, hxx, hb, hlc, hcm, hlen, hel, _, _⟩
    ·exact ⟨[.rs (P.cellsOf e) []], .slice t e [] ht (by simp) (by simp) (fun row h => by simp at h), by simpa using hd1.symm, by simpa using hd1.symm, one _ _ rfl (.nil _)⟩
    ·obtain rfl : n = n' := by omega
     have hwx : x.1.weights P t = ((elems.map (·.1)).length + (rest.map (·.1)).length) * P.bytesOf e :: (DataW.weightsAll P e (elems.map (·.1)) ++ DataW.weightsAll P e (rest.map (·.1))) := by rw [hxx]; show DataW.weights P t (.slice _ _) = _; unfold DataW.weights; rw [ht]
     rw [hwx] at hwt
     have hby : len * P.bytesOf e ≤ reachBytes := by
      have := hwt _ (List.mem_cons_self ..)
      rw [List.length_map, hlen] at this
      exact Nat.le_trans (Nat.mul_le_mul_right _ (Nat.le_add_right ..)) this
     have each : ∀ i, ∃ row : List RV, i < len → Ro P e row ∧ row.length = P.cellsOf e ∧ ∀ j, j < P.cellsOf e → ∃ c, W.cell? ((a.add (i * P.cellsOf e)).add j) = some c ∧ ∀ r, row[j]? = some r → RR W (fun _ => False) r c := by
      intro i
      by_cases hi : i < len
      ·have h1 := hel i hi
       rw [List.getElem?_eq_getElem (by omega : i < elems.length)] at h1
       cases h2 : W.cells? 0 (a.add (i * P.cellsOf e)) (P.cellsOf e) with
       | none => rw [h2] at h1; simp at h1
       | some cs' =>
        rw [h2] at h1
        simp only [Option.bind_some] at h1
        obtain ⟨row, r1, r2, r3, r4⟩ := ih _ _ _ h1 (fun m hm => hwt m (List.mem_cons_of_mem _ (List.mem_append_left _ (rP (List.mem_map_of_mem (List.getElem_mem (by omega))) m hm)))) d hd3
        obtain ⟨_, c1, c2⟩ := World.cells?_some h2
        refine ⟨row, fun _ => ⟨r1, r2, fun j hj => ?_⟩⟩
        have h3 : cs'[j]? = some cs'[j] := List.getElem?_eq_getElem (by omega)
        exact ⟨cs'[j], by rw [c2 j hj, h3], fun r hr => r4 j r _ hr h3⟩
      ·exact ⟨[], fun h => absurd h hi⟩
     obtain ⟨f, hf⟩ := Classical.axiomOfChoice each
     have hrows : ∀ (i : Nat) (row : List RV), ((List.range len).map f)[i]? = some row → i < len ∧ row = f i := by
      intro i row hr
      rw [List.getElem?_map] at hr
      by_cases hi : i < len
      ·rw [List.getElem?_range hi] at hr; simp at hr; exact ⟨hi, hr.symm⟩
      ·rw [List.getElem?_eq_none (by simpa using hi)] at hr; simp at hr
     have hmem : ∀ row ∈ (List.range len).map f, ∃ i, i < len ∧ row = f i := by
      intro row hr
      obtain ⟨i, hi, rfl⟩ := List.mem_map.1 hr
      exact ⟨i, List.mem_range.1 hi, rfl⟩
     have hspot : 0 < len → a.spot = none ∧ a.block < W.heap.size := by
      intro h0
      obtain ⟨c, h1, _⟩ := (hf 0 h0).2.2 0 hd2
      unfold World.cell? at h1
      split at h1
      ·rename_i q1 q2 q3 hq
       refine ⟨?_, by have := (Array.getElem?_eq_some_iff.1 hq).1; rwa [Er, Er] at this⟩
       cases hs : a.spot with
       | none => rfl
       | some z => simp [Addr.add, hs] at h1
      ·cases h1
     refine ⟨[.rs (P.cellsOf e) ((List.range len).map f)], .slice t e _ ht (by simp; omega) (by simpa using hby) (fun row hr => ?_), by simpa using hd1.symm, by simpa using hd1.symm, one _ _ rfl ?_⟩
     ·obtain ⟨i, hi, rfl⟩ := hmem row hr
      exact (hf i hi).1
     ·have := RR.rs (w := W) (N := fun _ => False) (P.cellsOf e) ((List.range len).map f) a cap (fun i j => (W.cell? ⟨a.block, a.off + (i * P.cellsOf e + j), none⟩).getD undef) (fun hne => ?_) (by simpa using hlc) (fun row hr => ?_) (fun i j hi hj => ?_) (fun i j row r hi hj => ?_)
      ·simpa using this
      ·have h0 : 0 < len := by
        rcases Nat.eq_zero_or_pos len with h | h
        ·subst h; exact absurd rfl hne
        ·exact h
       exact ⟨(hspot h0).2, fun h => h, (hspot h0).1⟩
      ·obtain ⟨i, hi, rfl⟩ := hmem row hr
       exact (hf i hi).2.1
      ·have hi' : i < len := by simpa using hi
       obtain ⟨c, h1, _⟩ := (hf i hi').2.2 j hj
       have h2 := (hspot (by omega)).1
       have h3 := add2 h2 (i * P.cellsOf e) j
       rw [h3] at h1
       rw [h1]; rfl
      ·obtain ⟨hi', rfl⟩ := hrows i row hi
       have hj' : j < P.cellsOf e := by
        have := (List.getElem?_eq_some_iff.1 hj).1
        rw [(hf i hi').2.1] at this; exact this
       obtain ⟨c, h1, h4⟩ := (hf i hi').2.2 j hj'
       have h2 := (hspot (by omega)).1
       have h3 := add2 h2 (i * P.cellsOf e) j
       rw [h3] at h1
       rw [h1]; exact h4 r hj
   ·simp at hd
end Go.Proofs.YtbhnmolmkembdaaGreatDoor
