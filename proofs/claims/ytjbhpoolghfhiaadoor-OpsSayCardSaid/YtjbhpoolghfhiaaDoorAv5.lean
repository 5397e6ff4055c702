/- Each operation of the machine, told of states: what it reads, what it writes, what it asks. No condition: definitions. -/
import Derived.Test.YtjbhpoolghfhiaaDoorAv4
namespace Go.Proofs.YtjbhpoolghfhiaaDoor
set_option linter.unusedVariables false
set_option linter.unusedSimpArgs false
set_option maxHeartbeats 10000000
open Go

/-- The slots that operands name. -/
def rd : List Operand → List Loc
  | [] => []
  | .tmp d :: l => .T d :: rd l
  | _ :: l => rd l

def avCells : AV → List AV
  | .agg cs => cs
  | x => [x]

/-- May it stand in a cell? -/
def okCell : AV → Bool
  | .r (.v x) => x.oneCell'
  | .r _ => true
  | .os _ _ | .rf _ _ _ | .re _ _ _ _ _ => true
  | _ => false

def okCells : List AV → Bool
  | [] => true
  | x :: l => okCell x && okCells l

/-- Cells written over from a place on. -/
def splice : List AV → Nat → List AV → List AV
  | cs, _, [] => cs
  | [], _, _ => []
  | _ :: cs, 0, v :: vs => v :: splice cs 0 vs
  | c :: cs, n + 1, vs => c :: splice cs n vs

def loadK (P : Program) (t : Nat) (cs : List AV) (K : AV → Prop) : Prop :=
  knownT P t = true ∧ match aggT P t with
  | true => sizeT P t ≤ cs.length ∧ K (.agg (cs.take (sizeT P t)))
  | false => match cs with
    | x :: _ => K x
    | [] => False

def zeroCellsT (P : Program) (t : Nat) (K : List AV → Prop) : Prop :=
  match zeroT P t with
  | some z => K (z.cells.toList.map fun v => .r (.v v))
  | none => False

/-- A struct's parts put in their places. -/
def fillK (P : Program) (t : Nat) : List (Nat × AV) → List AV → (List AV → Prop) → Prop
  | [], cs, K => K cs
  | (i, x) :: l, cs, K =>
    match partT P t i with
    | some (off, n) => okCells (avCells x) = true ∧ (avCells x).length = n ∧ off + n ≤ cs.length ∧ fillK P t l (splice cs off (avCells x)) K
    | none => False

/-- The rows of a slice that is written out. -/
def rowsK (sz : Nat) : List AV → (List (List AV) → Prop) → Prop
  | [], K => K []
  | x :: l, K => okCells (avCells x) = true ∧ (avCells x).length = sz ∧ rowsK sz l (fun r => K (avCells x :: r))

/-- The rows that a source of an append has. -/
def srcK (st : St) (x : AV) (sz : Nat) (K : List Loc → List (List AV) → Prop) : Prop :=
  match x with
  | .r (.rs sz' rows) => sz' = sz ∧ K [] (rows.map fun r => r.map .r)
  | .r (.v (.slice none 0 0)) => K [] []
  | .os k ver => match lookR k st.rs with
    | (cv, .sl _ sz' rows) => ver = cv ∧ sz' = sz ∧ K [.R k] rows
    | _ => False
  | _ => False

def okRows : List (List AV) → Bool
  | [] => true
  | r :: l => okCells r && okRows l

theorem okCells_mem : ∀ {l : List AV}, okCells l = true → ∀ c ∈ l, okCell c = true
  | x :: l, h, c, hc => by
    simp only [okCells, Bool.and_eq_true] at h
    rcases List.mem_cons.1 hc with rfl | hc
    · exact h.1
    · exact okCells_mem h.2 c hc
theorem okRows_mem : ∀ {l : List (List AV)}, okRows l = true → ∀ row ∈ l, ∀ c ∈ row, okCell c = true
  | r :: l, h, row, hr => by
    simp only [okRows, Bool.and_eq_true] at h
    rcases List.mem_cons.1 hr with rfl | hr
    · exact okCells_mem h.1
    · exact okRows_mem h.2 row hr

def appendK (P : Program) (d t : Nat) (st : St) (s x : AV) (rds : List Loc) (K : List Loc → List (Loc × Cont) → Prop) : Prop :=
  match elemT P t with
  | none => False
  | some e => knownT P e = true ∧ 0 < sizeT P e ∧ zeroCellsT P e fun z => z.length = sizeT P e ∧ srcK st x (sizeT P e) fun rx news =>
    okRows news = true ∧ match s with
    | .os k ver => match lookR k st.rs with
      | (cv, .sl e' sz rows) => ver = cv ∧ e' = e ∧ sz = sizeT P e ∧ rows.length + news.length ≤ 9223372036854775807 ∧ (rows.length + news.length) * bytesT P e ≤ 140737488355328 ∧
        K (.R k :: (rx ++ rds)) [(.R k, .s (cv + 1) (.sl e sz (rows ++ news))), (.T d, .a (.os k (cv + 1)))]
      | _ => False
    | .r (.v (.slice none 0 0)) => news.length ≤ 9223372036854775807 ∧ news.length * bytesT P e ≤ 140737488355328 ∧
        K (.R d :: (rx ++ rds)) [(.R d, .s (st.cur d + 1) (.sl e (sizeT P e) news)), (.T d, .a (.os d (st.cur d + 1)))]
    | _ => False

def lenAV (st : St) (P : Program) (t : Nat) (x : AV) (K : List Loc → AV → Prop) : Prop :=
  match x with
  | .r (.rs _ rows) => sliceT P t = true ∧ K [] (Iv rows.length)
  | .r (.v (.slice none 0 0)) => sliceT P t = true ∧ K [] (Iv 0)
  | .r (.ln n) => sliceT P t = true ∧ K [] (Iv n)
  | .r (.v (.string s)) => stringT P t = true ∧ K [] (Iv s.size)
  | .os k ver => match lookR k st.rs with
    | (cv, .sl _ _ rows) => ver = cv ∧ sliceT P t = true ∧ K [.R k] (Iv rows.length)
    | _ => False
  | _ => False

/-- An index of a slice or of an array behind a pointer. -/
def indexAddrK (P : Program) (st : St) (t : Nat) (x : AV) (i : Int) (K : List Loc → AV → Prop) : Prop :=
  match x with
  | .r (.rs sz rows) => match elemT P t with
    | some e => sizeT P e = sz ∧ knownT P e = true ∧ 0 ≤ i ∧ i < rows.length ∧ K [] (.r (.rp (rows.getD i.toNat [])))
    | none => False
  | .os k ver => match lookR k st.rs, elemT P t with
    | (cv, .sl _ sz rows), some e => ver = cv ∧ sizeT P e = sz ∧ knownT P e = true ∧ 0 ≤ i ∧ i < rows.length ∧ K [.R k] (.re k ver sz i.toNat 0)
    | _, _ => False
  | .r (.rp row) => match arrT P t with
    | some (n, e) => 0 ≤ i ∧ i < n ∧ knownT P e = true ∧ i.toNat * sizeT P e < row.length ∧ K [] (.r (.rp (row.drop (i.toNat * sizeT P e))))
    | none => False
  | _ => False

def fieldAddrK (P : Program) (st : St) (s f : Nat) (x : AV) (K : List Loc → AV → Prop) : Prop :=
  match fieldT P s f with
  | none => False
  | some (off, n) => n ≠ 0 ∧ match x with
    | .r (.rp row) => off < row.length ∧ K [] (.r (.rp (row.drop off)))
    | .os k ver => match lookR k st.rs with
      | (cv, .bx _) => ver = cv ∧ K [.R k] (.rf k ver off)
      | _ => False
    | .rf k ver o => ver = st.cur k ∧ K [.R k] (.rf k ver (o + off))
    | .re k ver sz i o => ver = st.cur k ∧ K [.R k] (.re k ver sz i (o + off))
    | _ => False

/-- What stands behind a pointer. -/
def derefK (P : Program) (st : St) (t : Nat) (x : AV) (K : List Loc → AV → Prop) : Prop :=
  match x with
  | .r (.rp row) => loadK P t (row.map .r) (K [])
  | .os k ver => match lookR k st.rs with
    | (cv, .bx cells) => ver = cv ∧ loadK P t cells (K [.R k])
    | _ => False
  | .rf k ver off => match lookR k st.rs with
    | (cv, .bx cells) => ver = cv ∧ loadK P t (cells.drop off) (K [.R k])
    | _ => False
  | .re k ver sz i off => match lookR k st.rs with
    | (cv, .sl _ sz' rows) => ver = cv ∧ sz' = sz ∧ i < rows.length ∧ loadK P t ((rows.getD i []).drop off) (K [.R k])
    | _ => False
  | _ => False

/-- A store. -/
def storeK (P : Program) (st : St) (t : Nat) (x v : AV) (K : List Loc → List (Loc × Cont) → Prop) : Prop :=
  okCells (avCells v) = true ∧ (avCells v).length = sizeT P t ∧ knownT P t = true ∧
  match x with
  | .os k ver => match lookR k st.rs with
    | (cv, .bx cells) => ver = cv ∧ sizeT P t ≤ cells.length ∧ K [.R k] [(.R k, .s cv (.bx (splice cells 0 (avCells v))))]
    | _ => False
  | .rf k ver off => match lookR k st.rs with
    | (cv, .bx cells) => ver = cv ∧ off + sizeT P t ≤ cells.length ∧ K [.R k] [(.R k, .s cv (.bx (splice cells off (avCells v))))]
    | _ => False
  | .re k ver sz i off => match lookR k st.rs with
    | (cv, .sl e sz' rows) => ver = cv ∧ sz' = sz ∧ i < rows.length ∧ off + sizeT P t ≤ sz ∧
        K [.R k] [(.R k, .s cv (.sl e sz (rows.set i (splice (rows.getD i []) off (avCells v)))))]
    | _ => False
  | _ => False

def nilCheckK (st : St) (x : AV) (K : List Loc → AV → Prop) : Prop :=
  match x with
  | .r (.rp row) => K [] (.r (.rp row))
  | .r (.fn f caps) => K [] (.r (.fn f caps))
  | .os k ver => match lookR k st.rs with
    | (cv, .bx _) => ver = cv ∧ K [.R k] (.os k ver)
    | _ => False
  | .rf k ver off => ver = st.cur k ∧ K [.R k] (.rf k ver off)
  | .re k ver sz i off => ver = st.cur k ∧ K [.R k] (.re k ver sz i off)
  | _ => False

/-- A constant bound of a cut. -/
def boundAV (st : St) (x : Option Operand) (dflt : Int) (K : Int → Prop) : Prop :=
  match x with
  | none => K dflt
  | some o => match ev st o with
    | .r (.v (.int _ n)) => K n
    | _ => False

/-- A cut: of a read-only slice anywhere, of an owned one at its end, of a string. -/
def sliceK (P : Program) (st : St) (t : Nat) (x : AV) (lo hi : Option Operand) (K : List Loc → List (Loc × Cont) → AV → Prop) : Prop :=
  match x with
  | .r (.rs sz rows) => match elemT P t with
    | some e => sizeT P e = sz ∧ knownT P e = true ∧ boundAV st lo 0 fun l => boundAV st hi rows.length fun h => 0 ≤ l ∧ l ≤ h ∧ h ≤ rows.length ∧ K [] [] (.r (.rs sz ((rows.take h.toNat).drop l.toNat)))
    | none => False
  | .r (.v (.string s)) => stringT P t = true ∧ boundAV st lo 0 fun l => boundAV st hi s.size fun h => 0 ≤ l ∧ l ≤ h ∧ h ≤ s.size ∧ K [] [] (Sv (s.extract l.toNat h.toNat))
  | .os k ver => match lookR k st.rs, lo, elemT P t with
    | (cv, .sl e sz rows), none, some e' => ver = cv ∧ knownT P e' = true ∧ boundAV st hi rows.length fun h => 0 ≤ h ∧ h ≤ rows.length ∧ K [.R k] [(.R k, .s (cv + 1) (.sl e sz (rows.take h.toNat)))] (.os k (cv + 1))
    | _, _, _ => False
  | _ => False

/-- Operations that give a value and write but their slot. -/
def valK (C : Ctx) (op : Op) (st : St) (K : List Loc → AV → Prop) : Prop :=
  match op with
  | .move x | .assign x => K (rd [x]) (ev st x)
  | .pick c a b => match ev st c with
    | .r (.v (.bool q)) => K (rd [c, a, b]) (pickAV q (ev st a) (ev st b))
    | _ => False
  | .binOp op t x y _ => binAV C.P op t (ev st x) (ev st y) (K (rd [x, y]))
  | .unOp op _ x => unAV op (ev st x) (K (rd [x]))
  | .convert s t x => convAV C.P s t (ev st x) (K (rd [x]))
  | .load t x => derefK C.P st t (ev st x) fun l r => K (l ++ rd [x]) r
  | .fieldAddr s x f => fieldAddrK C.P st s f (ev st x) fun l r => K (l ++ rd [x]) r
  | .indexAddr t x i => match ev st i with
    | .r (.v (.int _ n)) => indexAddrK C.P st t (ev st x) n fun l r => K (l ++ rd [x, i]) r
    | _ => False
  | .index t x i => match ev st x, ev st i with
    | .r (.v (.string s)), .r (.v (.int _ n)) => stringT C.P t = true ∧ 0 ≤ n ∧ n < s.size ∧ K (rd [x, i]) (.r (.v (.int .u8 (s.data.toList.getD n.toNat 0).toNat)))
    | .agg cs, .r (.v (.int _ n)) => match arrT C.P t with
      | some (len, e) => 0 ≤ n ∧ n < len ∧ knownT C.P e = true ∧ loadK C.P e (cs.drop (n.toNat * sizeT C.P e)) (K (rd [x, i]))
      | none => False
    | _, _ => False
  | .extract t i => match ev st t with
    | .tup xs => match xs[i]? with
      | some x => K (rd [t]) x
      | none => False
    | _ => False
  | .nilCheck x => nilCheckK st (ev st x) fun l r => K (l ++ rd [x]) r
  | .build t parts => buildT C.P t = true ∧ zeroCellsT C.P t fun z => fillK C.P t (parts.toList.map fun p => (p.1, ev st p.2)) z fun cs => K (rd (parts.toList.map (·.2))) (.agg cs)
  | .call c => match c.callee, c.args.toList, c.argTypes.toList with
    | .builtin .len, [x], [t] => lenAV st C.P t (ev st x) fun l r => K (l ++ rd [x]) r
    | .builtin .min, [x, y], _ => match ev st x, ev st y with
      | .r (.v (.int k a)), .r (.v (.int k' b)) => k = k' ∧ K (rd [x, y]) (.r (.v (.int k (if b < a then b else a))))
      | _, _ => False
    | .builtin .max, [x, y], _ => match ev st x, ev st y with
      | .r (.v (.int k a)), .r (.v (.int k' b)) => k = k' ∧ K (rd [x, y]) (.r (.v (.int k (if b > a then b else a))))
      | _, _ => False
    | _, _, _ => False
  | _ => False

/-- Read-only values out of slots. -/
def roK : List AV → (List RV → Prop) → Prop
  | [], K => K []
  | .r x :: l, K => roK l (fun r => K (x :: r))
  | _, _ => False

def noBound (st : St) (m : Option Operand) : Prop := match m with | none => True | some _ => st.n = st.n + 1

/-- A key that a map's look-up knows: a whole number, a string, a struct of such. -/
def keyAV (P : Program) (t : Nat) (x : AV) (K : Value → Prop) : Prop :=
  match x with
  | .r (.v (.int k n)) => intT P t = some k ∧ K (.int k n)
  | .r (.v (.string s)) => stringT P t = true ∧ K (.string s)
  | _ => False

/-- An operation: what it reads, what it writes. -/
def opK (C : Ctx) (o : Oper) (st : St) (K : List Loc → List (Loc × Cont) → Prop) : Prop :=
  match o.dst with
  | none => match o.op with
    | .store t x v => storeK C.P st t (ev st x) (ev st v) fun l outs => K (l ++ rd [x, v]) outs
    | _ => False
  | some d => d < st.n ∧ match o.op with
    | .alloc t => knownT C.P t = true ∧ zeroCellsT C.P t fun z => okCells z = true ∧ K [.R d] [(.R d, .s (st.cur d + 1) (.bx z)), (.T d, .a (.os d (st.cur d + 1)))]
    | .box _ x => okCells (avCells (ev st x)) = true ∧ K (.R d :: rd [x]) [(.R d, .s (st.cur d + 1) (.bx (avCells (ev st x)))), (.T d, .a (.os d (st.cur d + 1)))]
    | .buildSlice t len parts => match elemT C.P t with
      | some e => knownT C.P e = true ∧ 0 < sizeT C.P e ∧ (zeroT C.P e).isSome = true ∧ len * sizeT C.P e ≤ 16777216 ∧ parts.toList.map (·.1) = List.range len ∧ rowsK (sizeT C.P e) (parts.toList.map fun p => ev st p.2) fun rows =>
          K (.R d :: rd (parts.toList.map (·.2))) [(.R d, .s (st.cur d + 1) (.sl e (sizeT C.P e) rows)), (.T d, .a (.os d (st.cur d + 1)))]
      | none => False
    | .slice t x lo hi none => sliceK C.P st t (ev st x) lo hi fun l outs r => K (l ++ rd (x :: (lo.toList ++ hi.toList))) (outs ++ [(.T d, .a r)])
    | .makeSlice t l c => match elemT C.P t, ev st l, ev st c with
      | some e, .r (.v (.int .i64 n)), .r (.v (.int .i64 m)) => knownT C.P e = true ∧ 0 < sizeT C.P e ∧ 0 ≤ n ∧ n ≤ m ∧ m ≤ 9223372036854775807 ∧ bytesT C.P e * m ≤ 281474976710656 ∧ zeroCellsT C.P e fun z => z.length = sizeT C.P e ∧ okCells z = true ∧
          K (.R d :: rd [l, c]) [(.R d, .s (st.cur d + 1) (.sl e (sizeT C.P e) (List.replicate n.toNat z))), (.T d, .a (.os d (st.cur d + 1)))]
      | _, _, _ => False
    | .makeFunc (.func f) first captured => first.toList = [] ∧ roK (captured.toList.map (ev st)) fun caps => K (rd captured.toList) [(.T d, .a (.r (.fn f caps)))]
    | .makeMap _ none => K [.R d] [(.R d, .s (st.cur d + 1) (.mp (fun _ => none) 0)), (.T d, .a (.os d (st.cur d + 1)))]
    | .call c => match c.callee, c.args.toList, c.argTypes.toList with
      | .builtin .append, [s, x], [t, t'] => t = t' ∧ appendK C.P d t st (ev st s) (ev st x) (rd [s, x]) K
      | _, _, _ => valK C o.op st fun l x => K l [(.T d, .a x)]
    | _ => valK C o.op st fun l x => K l [(.T d, .a x)]

end Go.Proofs.YtjbhpoolghfhiaaDoor
