/- What an operation on values gives, told of abstract values. No condition: definitions and plain lemmas. -/
import Derived.Test.YtjbhpoolghfhiaaDoorAv3
import Derived.Laws.FloatArith
namespace Go.Proofs.YtjbhpoolghfhiaaDoor
set_option linter.unusedVariables false
set_option linter.unusedSimpArgs false
set_option maxHeartbeats 10000000
open Go

abbrev Iv (n : Int) : AV := .r (.v (.int .i64 n))
abbrev Bv (b : Bool) : AV := .r (.v (.bool b))
abbrev Sv (s : ByteArray) : AV := .r (.v (.string s))
abbrev Fv (b : Nat) : AV := .r (.v (.float .f64 b))
abbrev NilS : AV := .r (.v (.slice none 0 0))

def sizeT (P : Program) (t : Nat) : Nat := match P.info? t with | some i => i.size | none => 0
def aggT (P : Program) (t : Nat) : Bool := match P.underlying t with | some (.struct _) | some (.array _ _) => true | _ => false
def zeroT (P : Program) (t : Nat) : Option Value := match P.info? t with | some i => i.zero | none => none
def fieldT (P : Program) (s f : Nat) : Option (Nat × Nat) := match P.underlying s with
  | some (.struct fs) => match fs[f]? with | some x => some (x.offset, sizeT P x.type) | none => none
  | _ => none
def elemT (P : Program) (t : Nat) : Option Nat := match P.underlying t with | some (.slice e) => some e | _ => none
def arrT (P : Program) (t : Nat) : Option (Nat × Nat) := match P.underlying t with | some (.array n e) => some (n, e) | _ => none
def bytesT (P : Program) (t : Nat) : Nat := match P.info? t with | some i => i.bytes | none => 0
def intT (P : Program) (t : Nat) : Option IntKind := match P.underlying t with | some (.int k) => some k | _ => none
def floatT (P : Program) (t : Nat) : Option FloatKind := match P.underlying t with | some (.float k) => some k | _ => none
def boolT (P : Program) (t : Nat) : Bool := match P.underlying t with | some .bool => true | _ => false
def stringT (P : Program) (t : Nat) : Bool := match P.underlying t with | some .string => true | _ => false
def ptrT (P : Program) (t : Nat) : Bool := match P.underlying t with | some (.pointer _) => true | _ => false
def mapT (P : Program) (t : Nat) : Option (Nat × Nat) := match P.underlying t with | some (.map k e) => some (k, e) | _ => none
def sliceT (P : Program) (t : Nat) : Bool := match P.underlying t with | some (.slice _) => true | _ => false
def knownT (P : Program) (t : Nat) : Bool := (P.underlying t).isSome

def structT (P : Program) (t : Nat) : Bool := match P.underlying t with | some (.struct _) => true | _ => false

/-- The places of a struct's fields. -/
def placesT (P : Program) (t : Nat) : Option (List (Nat × Nat)) := match P.underlying t with
  | some (.struct fs) => fs.toList.mapM (fun f => (P.info? f.type).map fun i => (f.offset, i.size))
  | _ => none

/-- The place of a part of a struct or an array. -/
def partT (P : Program) (t i : Nat) : Option (Nat × Nat) := match P.underlying t with
  | some (.struct fs) => match fs[i]? with | some x => some (x.offset, sizeT P x.type) | none => none
  | some (.array _ e) => some (i * sizeT P e, sizeT P e)
  | _ => none

def buildT (P : Program) (t : Nat) : Bool := match P.underlying t with
  | some (.struct _) => (placesT P t).isSome
  | some (.array _ e) => knownT P e
  | _ => false

def kindsFs (P : Program) (k : Nat → Option (List Nat)) : List Field → Nat → Nat → Option (List Nat)
  | [], off, n => if off = n then some [] else none
  | f :: fs, off, n =>
    if f.name = "_" ∨ f.offset ≠ off then none else
    match k f.type, kindsFs P k fs (off + sizeT P f.type) n with
    | some a, some b => some (a ++ b)
    | _, _ => none

/-- The kinds of a type's cells, where they are plain values that are compared one by one: 0 whole numbers, 1 bools, 2 strings. -/
def kindsT (P : Program) : Nat → Nat → Option (List Nat)
  | 0, _ => none
  | d + 1, t =>
    match P.underlying t with
    | some (.int _) => if sizeT P t = 1 then some [0] else none
    | some .bool => if sizeT P t = 1 then some [1] else none
    | some .string => if sizeT P t = 1 then some [2] else none
    | some (.struct fs) => if P.stoodInHeld t = true then none else kindsFs P (kindsT P d) fs.toList 0 (sizeT P t)
    | _ => none

/-- Comparing values one by one. -/
def eq1 (k : Nat) (x y : AV) (K : Bool → Prop) : Prop :=
  match k, x, y with
  | 0, .r (.v (.int k a)), .r (.v (.int k' b)) => k = k' ∧ K (decide (a = b))
  | 1, .r (.v (.bool a)), .r (.v (.bool b)) => K (a == b)
  | 2, .r (.v (.string a)), .r (.v (.string b)) => K (a.toList == b.toList)
  | _, _, _ => False

def eqCells : List Nat → List AV → List AV → (Bool → Prop) → Prop
  | [], [], [], K => K true
  | k :: ks, x :: xs, y :: ys, K => eq1 k x y fun c => eqCells ks xs ys (fun t => K (c && t))
  | _, _, _, _ => False

/-- A float's operation: a number, or none. -/
def floatRes (op : BinOp) (x y : Nat) : Option Nat :=
  match op with
  | .add => FloatKind.f64.format.add x y
  | .sub => FloatKind.f64.format.sub x y
  | .mul => FloatKind.f64.format.mul x y
  | .quo => FloatKind.f64.format.div x y
  | _ => none

def floatAV (op : BinOp) (x y : Nat) : AV := match floatRes op x y with | some r => Fv r | none => .r .nan

def floatOrd (op : BinOp) (c : Option Ordering) (K : AV → Prop) : Prop :=
  match op with
  | .eql => K (Bv (c == some .eq))
  | .neq => K (Bv (c != some .eq))
  | .lss => K (Bv (c == some .lt))
  | .leq => K (Bv (c == some .lt || c == some .eq))
  | .gtr => K (Bv (c == some .gt))
  | .geq => K (Bv (c == some .gt || c == some .eq))
  | _ => False

def binI (op : BinOp) (k : IntKind) (a b : Int) (K : AV → Prop) : Prop :=
  match op with
  | .add => K (.r (.v (.int k (k.wrap (a + b)))))
  | .sub => K (.r (.v (.int k (k.wrap (a - b)))))
  | .mul => K (.r (.v (.int k (k.wrap (a * b)))))
  | .quo => b ≠ 0 ∧ K (.r (.v (.int k (k.wrap (a.tdiv b)))))
  | .rem => b ≠ 0 ∧ K (.r (.v (.int k (a.tmod b))))
  | .eql => K (Bv (decide (a = b)))
  | .neq => K (Bv (!decide (a = b)))
  | .lss => K (Bv (decide (a < b)))
  | .leq => K (Bv (decide (a ≤ b)))
  | .gtr => K (Bv (decide (b < a)))
  | .geq => K (Bv (decide (b ≤ a)))
  | _ => False

def binS (op : BinOp) (a b : ByteArray) (K : AV → Prop) : Prop :=
  match op with
  | .add => ((a.size + b.size : Nat) : Int) ≤ IntKind.i64.max ∧ K (Sv (a ++ b))
  | .eql => K (Bv (a.toList == b.toList))
  | .neq => K (Bv (!(a.toList == b.toList)))
  | .lss => K (Bv (Op.bytesLess a.toList b.toList))
  | .leq => K (Bv (Op.bytesLess a.toList b.toList || a.toList == b.toList))
  | .gtr => K (Bv (!(Op.bytesLess a.toList b.toList || a.toList == b.toList)))
  | .geq => K (Bv (!Op.bytesLess a.toList b.toList))
  | _ => False

/-- Equal or not, as the operation asks. -/
def eqOr (op : BinOp) (K : AV → Prop) (b : Bool) : Prop :=
  match op with
  | .eql => K (Bv b)
  | .neq => K (Bv (!b))
  | _ => False

def binAV (P : Program) (op : BinOp) (t : Nat) (x y : AV) (K : AV → Prop) : Prop :=
  match x, y with
  | .r (.v (.int k a)), .r (.v (.int k' b)) => k = k' ∧ binI op k a b K
  | .r (.v (.bool a)), .r (.v (.bool b)) => boolT P t = true ∧ eqOr op K (a == b)
  | .r (.v (.string a)), .r (.v (.string b)) => binS op a b K
  | .r (.v (.float .f64 a)), .r (.v (.float .f64 b)) =>
    match op with
    | .add | .sub | .mul | .quo => K (floatAV op a b)
    | _ => floatOrd op (FloatKind.f64.format.order a b) K
  | .r .nan, .r (.v (.float .f64 _)) | .r (.v (.float .f64 _)), .r .nan | .r .nan, .r .nan => floatOrd op none K
  | .agg xs, .agg ys => structT P t = true ∧ P.eqGuardType P.depth t = false ∧ match kindsT P 8 t with
    | some ks => eqCells ks xs ys (eqOr op K)
    | none => False
  | .r (.rs _ rows), .r (.v (.slice none 0 0)) => sliceT P t = true ∧ rows ≠ [] ∧ eqOr op K false
  | .r (.v (.slice none 0 0)), .r (.v (.slice none 0 0)) => sliceT P t = true ∧ eqOr op K true
  | .r (.rp _), .r (.v (.pointer none)) => ptrT P t = true ∧ eqOr op K false
  | .r (.v (.pointer none)), .r (.v (.pointer none)) => ptrT P t = true ∧ eqOr op K true
  | _, _ => False

def unAV (op : UnOp) (x : AV) (K : AV → Prop) : Prop :=
  match op, x with
  | .not, .r (.v (.bool b)) => K (Bv (!b))
  | .neg, .r (.v (.int k n)) => K (.r (.v (.int k (k.wrap (0 - n)))))
  | .neg, .r (.v (.float k b)) => K (.r (.v (.float k (Op.negFloat k b))))
  | _, _ => False

def convAV (P : Program) (src dst : Nat) (x : AV) (K : AV → Prop) : Prop :=
  match x with
  | .r (.v (.int _ n)) =>
    match intT P dst with
    | some k => knownT P src = true ∧ K (.r (.v (.int k (k.wrap n))))
    | none => match floatT P dst with
      | some k => knownT P src = true ∧ K (.r (.v (.float k (k.nearest n))))
      | none => False
  | .r (.v (.string s)) => stringT P dst = true ∧ knownT P src = true ∧ K (Sv s)
  | _ => False

def pickAV (b : Bool) (x y : AV) : AV :=
  match x, y with
  | .r (.v (.bool p)), .r (.v (.bool q)) => .r (.v (.bool (bif b then p else q)))
  | _, _ => bif b then x else y

end Go.Proofs.YtjbhpoolghfhiaaDoor
