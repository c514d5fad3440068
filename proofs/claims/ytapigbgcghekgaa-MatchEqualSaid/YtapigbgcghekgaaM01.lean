import Derived.Below
import Derived.Calls
import Derived.Laws.BytesArg
set_option linter.unusedVariables false
set_option linter.unusedSimpArgs false
/- The ideal machine: values, registers, operations, and the evaluator's proposition W. Definitions alone; nothing is claimed here. -/
namespace Go.Iv

/-- Ideal values. 'un': nothing is known. 'sl': a slice that is read, by value (nl: is it nil?). 'se': a slice of length and capacity 0. 'pi': the address of memory that is read. 'vp': an iterator's block. 'rf', 'pt': a slice, an address, in a register. -/
inductive IV where
  | un
  | b (x : Bool)
  | i (k : IntKind) (n : Int)
  | s (x : ByteArray)
  | np
  | vp (l : Nat)
  | nf
  | sl (nl : Option Bool) (rows : List (List IV))
  | se (nl : Bool)
  | pi (cells : List IV)
  | rf (r ver off len : Nat)
  | pt (r ver row col : Nat)
  | fn (f : Fn) (first caps : List IV)
  | ag (xs : List IV)
  | tu (xs : List IV)
  deriving Inhabited

/-- What a register holds: rows of cells. box: a variable (its cells may lead to other registers); else a slice's array. -/
structure Obj where
  box : Bool
  ety : TypeId
  sz : Nat
  rows : List (List IV)

/-- A register: 'ver' goes up with whatever makes older addresses stale. -/
structure Reg where
  ver : Nat
  obj : Option Obj

def getR : List Reg → Nat → Reg
  | [], _ => ⟨0, none⟩
  | g :: _, 0 => g
  | _ :: R, r + 1 => getR R r
def setR : List Reg → Nat → Reg → List Reg
  | [], 0, g => [g]
  | [], r + 1, g => ⟨0, none⟩ :: setR [] r g
  | _ :: R, 0, g => g :: R
  | x :: R, r + 1, g => x :: setR R r g
def getT : List IV → Nat → IV
  | [], _ => .un
  | x :: _, 0 => x
  | _ :: T, t + 1 => getT T t
def setT : List IV → Nat → IV → List IV
  | [], _, _ => []
  | _ :: T, 0, v => v :: T
  | x :: T, t + 1, v => x :: setT T t v
def putT (T : List IV) (d : Option Nat) (v : IV) : List IV := match d with | some d => setT T d v | none => T

/-- Types. -/
inductive TK where
  | int (k : IntKind) | bool | str
  | slice (e : TypeId)
  | struct (fs : List (Nat × TypeId))
  | arr (n : Nat) (e : TypeId)
  | ptr (e : TypeId)
  | fun_
  | other
structure TI where
  k : TK
  size : Nat
  bytes : Nat
  zero : List IV

def TK.known : TK → Bool | .other => false | _ => true
def TK.agg : TK → Bool | .struct _ | .arr _ _ => true | _ => false
abbrev Tys := List TI

def ofV0 : Value → IV
  | .bool x => .b x
  | .int k n => .i k n
  | .string s => .s s
  | .pointer none => .np
  | .nilFunc => .nf
  | .slice none 0 0 => .sl (some true) []
  | _ => .un
def ofV : Value → IV
  | .agg cs => .ag (cs.toList.map ofV0)
  | .tuple cs => .tu (cs.toList.map ofV0)
  | v => ofV0 v

def evI (T : List IV) : Operand → IV
  | .tmp t => getT T t
  | .const v => ofV v
  | .global _ => .un
  | .func f => .fn (.func f) [] []

def cellsI : IV → List IV
  | .ag xs => xs
  | x => [x]

def pure0 : IV → Bool
  | .rf .. | .pt .. | .fn .. | .ag _ | .tu _ => false
  | _ => true
def pureC : IV → Bool
  | .rf .. | .pt .. => false
  | .fn _ a c => a.all pure0 && c.all pure0
  | .ag xs | .tu xs => xs.all pure0
  | _ => true

/-- An IV made such that it leads to no register: a slice in a register is taken out of it. -/
def fz1 (R : List Reg) : IV → Option (IV × List Reg)
  | .rf r ver off len =>
    match getR R r with
    | ⟨v, some o⟩ => if v = ver ∧ o.box = false then some (.sl none ((o.rows.drop off).take len), setR R r ⟨v, none⟩) else none
    | _ => none
  | .pt .. => none
  | .un => none
  | x => if pureC x then some (x, R) else none
def fzL : List Reg → List IV → Option (List IV × List Reg)
  | R, [] => some ([], R)
  | R, x :: xs => match fz1 R x with
    | some (y, R1) => match fzL R1 xs with
      | some (ys, R2) => some (y :: ys, R2)
      | none => none
    | none => none

def fzParts : List Reg → List (Nat × IV) → Option (List (Nat × List IV) × List Reg)
  | R, [] => some ([], R)
  | R, (i, x) :: xs => match fzL R (cellsI x) with
    | some (ys, R1) => match fzParts R1 xs with
      | some (ps, R2) => some ((i, ys) :: ps, R2)
      | none => none
    | none => none

/-- May it be stored in a cell as one cell? -/
def okCell (R : List Reg) : IV → Bool
  | .ag _ | .tu _ | .un => false
  | .rf r ver _ _ | .pt r ver _ _ => match getR R r with | ⟨v, some _⟩ => v = ver | _ => false
  | _ => true

/-- In which order a region that draws its order is walked: done; an operation whose outcome leans on no register; one that leaves the registers; the only one that is ready; the only two. -/
inductive Plan where
  | done
  | pure (i : Nat) (p : Plan)
  | read (i : Nat) (p : Plan)
  | one (i : Nat) (p : Plan)
  | two (i : Nat) (p : Plan) (j : Nat) (q : Plan)

/-- Where things go: nothing said: by value. -/
inductive An where
  | imm
  | reg (r : Nat)
  | imp (l : List Nat)
  | inl
  | plan (p : Plan)
def An.isImm : An → Bool | .imm => true | _ => false
def anAt (l : List (Nat × Nat × An)) (rid ix : Nat) : An :=
  match l with
  | [] => .imm
  | (a, c, x) :: l => if a = rid then if c = ix then x else anAt l rid ix else anAt l rid ix

def planAt (l : List (Nat × Nat × An)) (rid : Nat) : Plan := match anAt l rid 999 with | .plan p => p | _ => .done

def newR (R : List Reg) (r : Nat) (o : Obj) : List Reg := setR R r ⟨(getR R r).ver + 1, some o⟩
def verR (R : List Reg) (r : Nat) : Nat := (getR R r).ver + 1

def fillRow (row : List IV) (off : Nat) (cs : List IV) : List IV := row.take off ++ cs ++ row.drop (off + cs.length)
def fillI (place : Nat → Option (Nat × Nat)) : List IV → List (Nat × List IV) → Option (List IV)
  | cells, [] => some cells
  | cells, (i, cs) :: ps => match place i with
    | none => none
    | some (off, size) => if cs.length = size ∧ off + cs.length ≤ cells.length then fillI place (fillRow cells off cs) ps else none
def placesI (tys : Tys) : List (Nat × TypeId) → Option (List (Nat × Nat))
  | [] => some []
  | (off, ft) :: fs => match tys[ft]? with
    | some fi => match placesI tys fs with
      | some ps => some ((off, fi.size) :: ps)
      | none => none
    | none => none
/-- A part's cells, if it has as many as are told. -/
def okPart : IV → Bool | .un | .rf .. | .pt .. => false | _ => true
def buildI (tys : Tys) (t : TypeId) (parts : List (Nat × IV)) (R : List Reg) : Option IV :=
  match tys[t]? with
  | some ti => if ti.zero.isEmpty ∨ (parts.all fun p => (cellsI p.2).all fun c => okPart c || okCell R c) = false then none else
    match ti.k with
    | .struct fs => match placesI tys fs with
      | some ps => (fillI (ps[·]?) ti.zero (parts.map fun p => (p.1, cellsI p.2))).map .ag
      | none => none
    | .arr _ e => match tys[e]? with
      | some ei => (fillI (fun i => some (i * ei.size, ei.size)) ti.zero (parts.map fun p => (p.1, cellsI p.2))).map .ag
      | none => none
    | _ => none
  | none => none
def chunk (sz : Nat) : Nat → List IV → List (List IV)
  | 0, _ => []
  | n + 1, l => l.take sz :: chunk sz n (l.drop sz)

def tyK (tys : Tys) (t : TypeId) : TK := match tys[t]? with | some ti => ti.k | none => .other
def tyS (tys : Tys) (t : TypeId) : Option TI := tys[t]?

/-- A value read at a row of cells. -/
def takeI (ti : TI) (cells : List IV) : Option IV :=
  if ti.k.agg then (if ti.size ≤ cells.length then some (.ag (cells.take ti.size)) else none) else if ti.k.known then cells.head? else none

def liveR (R : List Reg) (r ver : Nat) : Option Obj :=
  match getR R r with
  | ⟨v, some o⟩ => if v = ver then some o else none
  | _ => none

def loadI (tys : Tys) (t : TypeId) (a : IV) (R : List Reg) : Option IV :=
  match tys[t]? with
  | none => none
  | some ti => match a with
    | .pi cells => takeI ti cells
    | .pt r ver row col => match liveR R r ver with
      | some o => match o.rows[row]? with
        | some cs => takeI ti (cs.drop col)
        | none => none
      | none => none
    | _ => none

def storeI (tys : Tys) (t : TypeId) (a x : IV) (R : List Reg) : Option (List Reg) :=
  match tys[t]?, a with
  | some ti, .pt r ver row col =>
    match (if ti.k.known then liveR R r ver else none) with
    | some o =>
      if o.box then
        match o.rows[row]? with
        | some cs => if (cellsI x).length = ti.size ∧ col + ti.size ≤ cs.length ∧ (cellsI x).all (okCell R) then
            some (setR R r ⟨ver, some { o with rows := o.rows.set row (fillRow cs col (cellsI x)) }⟩) else none
        | none => none
      else match fzL R (cellsI x) with
        | some (ys, R1) => match liveR R1 r ver with
          | some o => match o.rows[row]? with
            | some cs => if ys.length = ti.size ∧ col + ti.size ≤ cs.length ∧ ys.all (okCell R1) then
                some (setR R1 r ⟨ver, some { o with rows := o.rows.set row (fillRow cs col ys) }⟩) else none
            | none => none
          | none => none
        | none => none
    | none => none
  | _, _ => none

def arithI (op : BinOp) (k : IntKind) (x y : Int) : Option IV :=
  match op with
  | .add => some (.i k (k.wrap (x + y)))
  | .sub => some (.i k (k.wrap (x - y)))
  | .mul => some (.i k (k.wrap (x * y)))
  | .quo => if y = 0 then none else some (.i k (k.wrap (x.tdiv y)))
  | .rem => if y = 0 then none else some (.i k (x.tmod y))
  | .and => some (.i k (k.wrap ((BitVec.ofInt k.bits x) &&& (BitVec.ofInt k.bits y)).toNat))
  | .or => some (.i k (k.wrap ((BitVec.ofInt k.bits x) ||| (BitVec.ofInt k.bits y)).toNat))
  | .xor => some (.i k (k.wrap ((BitVec.ofInt k.bits x) ^^^ (BitVec.ofInt k.bits y)).toNat))
  | .andNot => some (.i k (k.wrap ((BitVec.ofInt k.bits x) &&& ~~~(BitVec.ofInt k.bits y)).toNat))
  | .eql => some (.b (decide (x = y)))
  | .neq => some (.b (!decide (x = y)))
  | .lss => some (.b (decide (x < y)))
  | .leq => some (.b (decide (x ≤ y)))
  | .gtr => some (.b (decide (y < x)))
  | .geq => some (.b (decide (y ≤ x)))
  | _ => none

/-- Is the slice nil? -/
def nilI : IV → Option Bool
  | .sl (some x) _ => some x
  | .sl none (_ :: _) => some false
  | .se x => some x
  | _ => none

def binI (tys : Tys) (op : BinOp) (t : TypeId) (a c : IV) : Option IV :=
  match op, a, c with
  | .shl, .i k x, .i _ y => if y < 0 then none else some (.i k (k.wrap (x * 2 ^ (min y.toNat k.bits))))
  | .shr, .i k x, .i _ y => if y < 0 then none else some (.i k (x.fdiv (2 ^ (min y.toNat k.bits))))
  | _, .i k x, .i k' y => if k = k' then arithI op k x y else none
  | .eql, .b x, .b y => match tyK tys t with | .bool => some (.b (x == y)) | _ => none
  | .neq, .b x, .b y => match tyK tys t with | .bool => some (.b (!(x == y))) | _ => none
  | .eql, .s x, .s y => some (.b (x.toList == y.toList))
  | .neq, .s x, .s y => some (.b (!(x.toList == y.toList)))
  | .eql, x, .sl (some true) [] => match tyK tys t, nilI x with | .slice _, some q => some (.b q) | _, _ => none
  | .neq, x, .sl (some true) [] => match tyK tys t, nilI x with | .slice _, some q => some (.b (!q)) | _, _ => none
  | _, _, _ => none

def unI (op : UnOp) (a : IV) : Option IV :=
  match op, a with
  | .not, .b x => some (.b (!x))
  | .neg, .i k x => some (.i k (k.wrap (0 - x)))
  | _, _ => none

def bytesI (s : ByteArray) : List (List IV) := s.data.toList.map fun c => [.i .u8 (c.toNat : Int)]

/-- A row of bytes, as numbers. -/
def numsI : List (List IV) → Option (List Int)
  | [] => some []
  | [.i .u8 n] :: rows => match numsI rows with | some ns => some (n :: ns) | none => none
  | _ => none

def convI (tys : Tys) (src dst : TypeId) (a : IV) : Option IV :=
  if (tyK tys src).known = false then none else
  match tyK tys dst, a with
  | .int k, .i _ n => some (.i k (k.wrap n))
  | .str, .s x => some (.s x)
  | .str, .sl _ rows => match tyK tys src with
    | .slice e => match tyK tys e, numsI rows with
      | .int .u8, some ns => some (.s (strOfNums ns))
      | _, _ => none
    | _ => none
  | _, _ => none

def natI : IV → Option Nat
  | .i _ n => if 0 ≤ n then some n.toNat else none
  | _ => none

def optI (T : List IV) : Option Operand → Option (Option Nat)
  | none => some none
  | some o => match natI (evI T o) with | some n => some (some n) | none => none

def allLen (sz : Nat) (rows : List (List IV)) : Bool := rows.all fun r => r.length == sz

/-- x[lo:hi] (mx: of three indexes, and just where the last two are 0). -/
def sliceS (ei : TI) (x : IV) (lo hi mx : Option Nat) (R : List Reg) : Option IV :=
  match x, mx with
  | .sl nl rows, none => if lo.getD 0 ≤ hi.getD rows.length ∧ hi.getD rows.length ≤ rows.length ∧ allLen ei.size rows = true then
        some (.sl (if nl = some true then some true else none) ((rows.take (hi.getD rows.length)).drop (lo.getD 0))) else none
  | .sl nl _, some 0 => if lo.getD 0 = 0 ∧ hi = some 0 then (match nl with | some true => some (.se true) | some false => some (.se false) | none => none) else none
  | .se nl, none => if lo.getD 0 = 0 ∧ hi.getD 0 = 0 then some (.se nl) else none
  | .se nl, some 0 => if lo.getD 0 = 0 ∧ hi = some 0 then some (.se nl) else none
  | .rf r ver off len, none => match liveR R r ver with
    | some o =>
      if lo.getD 0 ≤ hi.getD len ∧ off + hi.getD len ≤ o.rows.length ∧ o.sz = ei.size then
        (if lo.getD 0 = 0 then some (.rf r ver off (hi.getD len)) else if lo.getD 0 < hi.getD len then some (.rf r ver (off + lo.getD 0) (hi.getD len - lo.getD 0)) else some (.sl none [])) else none
    | none => none
  | .rf r ver off len, some m => match hi with
    | none => none
    | some u => match liveR R r ver with
      | some o => if lo.getD 0 ≤ u ∧ u ≤ m ∧ off + m ≤ o.rows.length ∧ o.sz = ei.size ∧ 0 < o.rows.length then some .un else none
      | none => none
  | _, _ => none
def sliceI (tys : Tys) (t : TypeId) (x : IV) (lo hi mx : Option Nat) (R : List Reg) : Option IV :=
  match tyK tys t with
  | .str => match x, mx with
    | .s b, none => if lo.getD 0 ≤ hi.getD b.size ∧ hi.getD b.size ≤ b.size then some (.s (b.extract (lo.getD 0) (hi.getD b.size))) else none
    | _, _ => none
  | .slice e => match tys[e]? with
    | some ei => sliceS ei x lo hi mx R
    | none => none
  | _ => none

def fieldAddrI (tys : Tys) (st : TypeId) (x : IV) (f : Nat) (R : List Reg) : Option IV :=
  match tyK tys st with
  | .struct fs => match fs[f]? with
    | some (off, ft) => match tys[ft]? with
      | some fi => if fi.size = 0 then none else match x with
        | .pi cells => some (.pi (cells.drop off))
        | .pt r ver row col => match liveR R r ver with | some _ => some (.pt r ver row (col + off)) | none => none
        | _ => none
      | none => none
    | none => none
  | _ => none

def fieldI (tys : Tys) (st : TypeId) (x : IV) (f : Nat) : Option IV :=
  match tyK tys st, x with
  | .struct fs, .ag cs => match fs[f]? with
    | some (off, ft) => match tys[ft]? with
      | some fi => takeI fi (cs.drop off)
      | none => none
    | none => none
  | _, _ => none

def indexAddrI (tys : Tys) (t : TypeId) (x ix : IV) (R : List Reg) : Option IV :=
  match tyK tys t, x, natI ix with
  | .slice e, .sl _ rows, some n => match tys[e]? with
    | some ei => if n < rows.length ∧ (rows.getD n []).length = ei.size then some (.pi (rows.getD n [])) else none
    | none => none
  | .slice e, .rf r ver off len, some n => match tys[e]?, liveR R r ver with
    | some ei, some o => if n < len ∧ o.sz = ei.size then some (.pt r ver (off + n) 0) else none
    | _, _ => none
  | .arr k e, .pi cells, some n => match tys[e]? with
    | some ei => if n < k then some (.pi (cells.drop (n * ei.size))) else none
    | none => none
  | .arr k e, .pt r ver row col, some n => match tys[e]?, liveR R r ver with
    | some ei, some _ => if n < k then some (.pt r ver row (col + n * ei.size)) else none
    | _, _ => none
  | _, _, _ => none

def indexI (tys : Tys) (t : TypeId) (x ix : IV) : Option IV :=
  match tyK tys t, x, natI ix with
  | .arr k e, .ag cs, some n => match tys[e]? with
    | some ei => if n < k then takeI ei (cs.drop (n * ei.size)) else none
    | none => none
  | .str, .s b, some n => match b[n]? with | some c => some (.i .u8 (c.toNat : Int)) | none => none
  | _, _, _ => none

def lenI (x : IV) (R : List Reg) : Option Nat :=
  match x with
  | .sl _ rows => some rows.length
  | .se _ => some 0
  | .rf r ver _ len => match liveR R r ver with | some _ => some len | none => none
  | .s b => some b.size
  | _ => none

/-- The rows that an append or a copy reads. -/
def srcI (x : IV) (R : List Reg) : Option (List (List IV)) :=
  match x with
  | .sl _ rows => some rows
  | .se _ => some []
  | .rf r ver off len => match liveR R r ver with
    | some o => if o.box then none else some ((o.rows.drop off).take len)
    | none => none
  | _ => none

def okRows (sz : Nat) (rows : List (List IV)) : Bool := rows.all fun r => r.length == sz && r.all (okCell [])

def room (ti : TI) (n : Nat) : Bool := n * ti.bytes ≤ 140737488355328

def appendI (tys : Tys) (an : An) (ts tx : TypeId) (s x : IV) (R : List Reg) : Option (IV × List Reg) :=
  match tyK tys ts with
  | .slice e => match tys[e]? with
    | some ei =>
      let new := match tyK tys tx with
        | .int _ => match natI x with | some n => if room ei n ∧ ei.zero.length = ei.size ∧ n ≤ 9223372036854775807 then some (List.replicate n ei.zero) else none | none => none
        | .slice _ => srcI x R
        | _ => none
      match (match new with | some rows => if okRows ei.size rows = true ∧ 0 < ei.size ∧ ei.zero.length = ei.size ∧ 0 < ei.bytes ∧ rows.length ≤ 4611686018427387904 then some rows else none | none => none) with
      | some rows =>
        match s with
        | .sl (some true) _ | .se _ =>
          if room ei rows.length then match an with
            | .reg r => some (.rf r (verR R r) 0 rows.length, newR R r { box := false, ety := e, sz := ei.size, rows })
            | _ => some (.sl none rows, R)
          else none
        | .rf r ver off len => match liveR R r ver with
          | some o =>
            if o.box ∨ o.ety ≠ e ∨ o.sz ≠ ei.size then none
            else if off + len = o.rows.length ∧ off = 0 then
              if room ei (len + rows.length) then some (.rf r (verR R r) 0 (len + rows.length), newR R r { o with rows := o.rows ++ rows }) else none
            else if off + len + rows.length ≤ o.rows.length then
              some (.rf r ver off (len + rows.length), setR R r ⟨ver, some { o with rows := o.rows.take (off + len) ++ rows ++ o.rows.drop (off + len + rows.length) }⟩)
            else none
          | none => none
        | _ => none
      | none => none
    | none => none
  | _ => none

def opI (tys : Tys) (an : An) (op : Op) (T : List IV) (R : List Reg) : Option (IV × List Reg) :=
  match op with
  | .move x | .assign x => some (evI T x, R)
  | .pick c a b => match evI T c with
    | .b x => some (bif x then evI T a else evI T b, R)
    | _ => none
  | .alloc e => match tys[e]? with
    | some ti => if ti.zero.isEmpty then none else match an with
      | .reg r => some (.pt r (verR R r) 0 0, newR R r { box := true, ety := e, sz := ti.zero.length, rows := [ti.zero] })
      | _ => some (.pi ti.zero, R)
    | none => none
  | .box e x => match an with
    | .reg r => if (cellsI (evI T x)).all (okCell R) then
        some (.pt r (verR R r) 0 0, newR R r { box := true, ety := e, sz := (cellsI (evI T x)).length, rows := [cellsI (evI T x)] }) else none
    | _ => match fzL R (cellsI (evI T x)) with
      | some (cs, R1) => some (.pi cs, R1)
      | none => none
  | .build t parts => (buildI tys t (parts.toList.map fun p => (p.1, evI T p.2)) R).map (·, R)
  | .buildSlice t n parts => match tyK tys t with
    | .slice e => match tys[e]? with
      | some ei => match fzParts R (parts.toList.map fun p => (p.1, evI T p.2)) with
        | some (ps, R1) => match fillI (fun i => some (i * ei.size, ei.size)) (List.replicate n ei.zero).flatten ps with
          | some cells => if n * ei.size ≤ 16777216 ∧ 0 < ei.size ∧ ei.zero.length = ei.size ∧ n ≤ 9223372036854775807 then match an with
              | .reg r => some (.rf r (verR R1 r) 0 n, newR R1 r { box := false, ety := e, sz := ei.size, rows := chunk ei.size n cells })
              | _ => some (.sl (some false) (chunk ei.size n cells), R1)
            else none
          | none => none
        | none => none
      | none => none
    | _ => none
  | .makeSlice t l c => match tyK tys t, natI (evI T l), natI (evI T c) with
    | .slice e, some n, some m => match tys[e]?, an with
      | some ei, .reg r => if n = m ∧ room ei n ∧ 0 < ei.size ∧ ei.zero.length = ei.size ∧ n ≤ 9223372036854775807 then some (.rf r (verR R r) 0 n, newR R r { box := false, ety := e, sz := ei.size, rows := List.replicate n ei.zero }) else none
      | _, _ => none
    | _, _, _ => none
  | .load t a => (loadI tys t (evI T a) R).map (·, R)
  | .store t a x => (storeI tys t (evI T a) (evI T x) R).map (.tu [], ·)
  | .nilCheck x => match evI T x with
    | .pi c => some (.pi c, R)
    | .pt r v i j => match liveR R r v with | some _ => some (.pt r v i j, R) | none => none
    | .fn (.func f) a c => some (.fn (.func f) a c, R)
    | _ => none
  | .binOp op t x y _ => (binI tys op t (evI T x) (evI T y)).map (·, R)
  | .unOp op _ x => (unI op (evI T x)).map (·, R)
  | .convert s d x => (convI tys s d (evI T x)).map (·, R)
  | .makeFunc f a c => some (.fn f (a.toList.map (evI T)) (c.toList.map (evI T)), R)
  | .slice t x lo hi mx => match optI T lo, optI T hi, optI T mx with
    | some l, some h, some m => (sliceI tys t (evI T x) l h m R).map (·, R)
    | _, _, _ => none
  | .fieldAddr s x f => (fieldAddrI tys s (evI T x) f R).map (·, R)
  | .field s x f => (fieldI tys s (evI T x) f).map (·, R)
  | .indexAddr t x ix => (indexAddrI tys t (evI T x) (evI T ix) R).map (·, R)
  | .index t x ix => (indexI tys t (evI T x) (evI T ix)).map (·, R)
  | .extract t ix => match evI T t with
    | .tu xs => match xs[ix]? with | some v => some (v, R) | none => none
    | _ => none
  | _ => none

def clearI (tys : Tys) (ts : TypeId) (d : IV) (R : List Reg) : Option (List Reg) :=
  match tyK tys ts with
  | .slice e => match tys[e]?, d with
    | some ei, .rf r ver off len => match liveR R r ver with
      | some o => if len = 0 then some R else if o.box = true ∨ o.sz ≠ ei.size ∨ ei.zero.length ≠ ei.size ∨ ei.zero.all (okCell []) = false ∨ ei.size = 0 then none else
          some (setR R r ⟨ver, some { o with rows := o.rows.take off ++ List.replicate len ei.zero ++ o.rows.drop (off + (List.replicate len ei.zero).length) }⟩)
      | none => none
    | _, _ => none
  | _ => none

def mmI (mx : Bool) (a c : IV) : Option IV :=
  match a, c with
  | .i k x, .i k' y => if k = k' then some (.i k (if mx then (if y > x then y else x) else (if y < x then y else x))) else none
  | _, _ => none

def builtinI (tys : Tys) (an : An) (b : Builtin) (ts : List TypeId) (vs : List IV) (R : List Reg) : Option (IV × List Reg) :=
  match b, ts, vs with
  | .append, [t, u], [s, x] => appendI tys an t u s x R
  | .len, [t], [x] => match tyK tys t, x with
    | .str, .s b => some (.i .i64 b.size, R)
    | .slice _, .s _ => none
    | .slice _, x => match lenI x R with | some n => some (.i .i64 n, R) | none => none
    | .arr n _, _ => some (.i .i64 n, R)
    | _, _ => none
  | .cap, [t], [x] => match tyK tys t, x with
    | .slice _, .sl (some true) _ | .slice _, .se _ => some (.i .i64 0, R)
    | _, _ => none
  | .clear, [t], [d] => match clearI tys t d R with | some R1 => some (.tu [], R1) | none => none
  | .min, [_, _], [a, c] => (mmI false a c).map (·, R)
  | .max, [_, _], [a, c] => (mmI true a c).map (·, R)
  | _, _, _ => none

/-! ### What a call is told: by values. -/

/-- A value read now, as one that leads to no register ('borrowed': the registers stay). -/
def rdI (R : List Reg) : Nat → IV → Option IV
  | _, .rf r ver off len => match liveR R r ver with
    | some o => if o.box then none else some (.sl none ((o.rows.drop off).take len))
    | none => none
  | 0, x => if pureC x then some x else none
  | n + 1, .pt r ver row col => match liveR R r ver with
    | some o => match o.rows[row]? with
      | some cs => ((cs.drop col).mapM (rdI R n)).map .pi
      | none => none
    | none => none
  | n + 1, .ag xs => (xs.mapM (rdI R n)).map .ag
  | n + 1, .fn f a c => match a.mapM (rdI R n), c.mapM (rdI R n) with
    | some a, some c => some (.fn f a c)
    | _, _ => none
  | _, x => if pureC x then some x else none

/-- What a pure call is given: the values as they are (true), or with what registers hold read into them (false). -/
def argsI (R : List Reg) (xs : List IV) : Option (Bool × List IV) :=
  if xs.all pureC then some (true, xs) else (xs.mapM (rdI R 3)).map (false, ·)

/-- A row, cut to what is handed out of it. -/
def cutO (o : Obj) (len : Nat) : Obj := if o.rows.length = len then o else { o with rows := o.rows.take len }
/-- A result comes in: what it bears in registers of its own ('Rr') goes to registers of ours, or is taken out. -/
def impC (l : List Nat) (Rr : List Reg) (R : List Reg) : IV → Option (IV × List Reg × List Reg)
  | .rf k ver off len => match liveR Rr k ver with
    | some o => if o.box ∨ off ≠ 0 ∨ (o.rows.length ≠ len ∧ ¬ len ≤ o.rows.length) then none else match l[k]? with
      | some (g + 1) => some (.rf g (verR R g) 0 len, setR Rr k ⟨ver, none⟩, newR R g (cutO o len))
      | _ => some (.sl none (cutO o len).rows, setR Rr k ⟨ver, none⟩, R)
    | none => none
  | x => if pureC x then some (x, Rr, R) else none
def impL (l : List Nat) : List Reg → List Reg → List IV → Option (List IV × List Reg)
  | _, R, [] => some ([], R)
  | Rr, R, x :: xs => match impC l Rr R x with
    | some (y, Rr1, R1) => match impL l Rr1 R1 xs with
      | some (ys, R2) => some (y :: ys, R2)
      | none => none
    | none => none
def impI (l : List Nat) (Rr R : List Reg) : IV → Option (IV × List Reg)
  | .ag xs => match impL l Rr R xs with | some (ys, R1) => some (.ag ys, R1) | none => none
  | .tu xs => match impL l Rr R xs with | some (ys, R1) => some (.tu ys, R1) | none => none
  | x => match impC l Rr R x with | some (y, _, R1) => some (y, R1) | none => none

inductive Ex where
  | n
  | x (id : Nat)
  | r

/-- What is known of calls: 'pc al f xs y Rr': by values (al: the result may lead to what the arguments lead to); 'ic f xs R y R1': with the registers. -/
structure Env where
  tys : Tys
  pc : Bool → FuncId → List IV → IV → List Reg → Prop
  ic : FuncId → List IV → List Reg → IV → List Reg → Prop

/-- A mark that keeps simp out of what stands behind (an argument on whose value another one's type depends is not rewritten). -/
inductive Tok {α : Type} (a : α) : Type | mk
def onO {α : Type} (o : Option α) (K : α → Prop) (_ : Tok K) : Prop := match o with | some a => K a | none => False
def condW (v : IV) (A B : Unit → Prop) (_ : Tok (A, B)) : Prop := match v with | .b true => A () | .b false => B () | _ => False
def guardW (v : IV) (want : Bool) (A B C : Unit → Prop) (_ : Tok (A, B, C)) : Prop := match v with
  | .b x => if x = want then A () else B ()
  | .tu _ => C ()
  | _ => False
def callV (v : IV) (K : FuncId → List IV → List IV → Prop) (_ : Tok K) : Prop := match v with
  | .fn (.func f) first caps => K f first caps
  | _ => False

def An.imps : An → List Nat | .imp l => l | _ => []
def callP (E : Env) (an : An) (f : FuncId) (xs : List IV) (R : List Reg) (K : IV → List Reg → Prop) (_ : Tok K) : Prop :=
  onO (argsI R xs) (fun p => ∃ y Rr, E.pc p.1 f p.2 y Rr ∧ onO (impI an.imps Rr R y) (fun p => K p.1 p.2) .mk) .mk
def callC (E : Env) (f : FuncId) (xs : List IV) (R : List Reg) (K : IV → List Reg → Prop) (_ : Tok K) : Prop :=
  ∃ y R1, E.ic f xs R y R1 ∧ K y R1
def callW (E : Env) (an : An) (f : FuncId) (xs : List IV) (R : List Reg) (K : IV → List Reg → Prop) (_ : Tok K) : Prop :=
  match an with
  | .inl => callC E f xs R K .mk
  | an => callP E an f xs R K .mk

def stepW (E : Env) (an : An) (o : Op) (T : List IV) (R : List Reg) (K : IV → List Reg → Prop) (_ : Tok K) : Prop :=
  match o with
  | .call ⟨.builtin b, args, ts⟩ => onO (builtinI E.tys an b ts.toList (args.toList.map (evI T)) R) (fun p => K p.1 p.2) .mk
  | .call ⟨.value g, args, _⟩ => callV (evI T g) (fun f first caps => callW E an f (first ++ args.toList.map (evI T) ++ caps) R K .mk) .mk
  | .call ⟨.invoke _ _, _, _⟩ => False
  | o => onO (opI E.tys an o T R) (fun p => K p.1 p.2) .mk

def yieldI (ops : List Oper) (j : Nat) : Option Nat :=
  match ops[j]? with
  | some o => o.dst
  | none => none

def opsW (E : Env) (an : Nat → An) (all : List Oper) : Nat → List Oper → List IV → List Reg → (K : List IV → List Reg → Prop) → Tok (all, K) → Prop
  | _, [], T, R, K, _ => K T R
  | ix, o :: os, T, R, K, _ =>
    match o.guard with
    | none => stepW E (an ix) o.op T R (fun v R1 => opsW E an all (ix + 1) os (putT T o.dst v) R1 K .mk) .mk
    | some (j, want) => onO (yieldI all j) (fun d => guardW (getT T d) want
        (fun _ => stepW E (an ix) o.op (setT T d (.b want)) R (fun v R1 => opsW E an all (ix + 1) os (putT (setT T d (.b want)) o.dst v) R1 K .mk) .mk)
        (fun _ => opsW E an all (ix + 1) os (putT (setT T d (.b !want)) o.dst (.tu [])) R K .mk)
        (fun _ => opsW E an all (ix + 1) os (putT T o.dst (.tu [])) R K .mk) .mk) .mk

/-- One operation of a region. -/
def stpW (E : Env) (an : An) (all : List Oper) (o : Oper) (T : List IV) (R : List Reg) (K : List IV → List Reg → Prop) (_ : Tok (all, K)) : Prop :=
  match o.guard with
  | none => stepW E an o.op T R (fun v R1 => K (putT T o.dst v) R1) .mk
  | some (j, want) => onO (yieldI all j) (fun d => guardW (getT T d) want
      (fun _ => stepW E an o.op (setT T d (.b want)) R (fun v R1 => K (putT (setT T d (.b want)) o.dst v) R1) .mk)
      (fun _ => K (putT (setT T d (.b !want)) o.dst (.tu [])) R)
      (fun _ => K (putT T o.dst (.tu [])) R) .mk) .mk

def drawW (E : Env) (an : Nat → An) (all : List Oper) : Plan → List IV → List Reg → (K : List IV → List Reg → Prop) → Tok (all, K) → Prop
  | .done, T, R, K, _ => K T R
  | .pure i p, T, R, K, _ => onO (if (an i).isImm then all[i]? else none) (fun o => stpW E .imm all o T [] (fun T1 R1 => R1 = [] ∧ drawW E an all p T1 R K .mk) .mk) .mk
  | .read i p, T, R, K, _ => onO (all[i]?) (fun o => stpW E (an i) all o T R (fun T1 R1 => drawW E an all p T1 R1 K .mk) .mk) .mk
  | .one i p, T, R, K, _ => onO (all[i]?) (fun o => stpW E (an i) all o T R (fun T1 R1 => drawW E an all p T1 R1 K .mk) .mk) .mk
  | .two i p j q, T, R, K, _ => ∃ T2 R2, onO (all[i]?) (fun o => stpW E (an i) all o T R (fun T1 R1 => drawW E an all p T1 R1 (fun T R => T = T2 ∧ R = R2) .mk) .mk) .mk ∧
      onO (all[j]?) (fun o => stpW E (an j) all o T R (fun T1 R1 => drawW E an all q T1 R1 (fun T R => T = T2 ∧ R = R2) .mk) .mk) .mk ∧ K T2 R2

abbrev Post := Ex → List IV → List Reg → Prop
def seqK (K : List IV → List Reg → Prop) (Q : Post) (_ : Tok (K, Q)) : Post
  | .n, T, R => K T R
  | e, T, R => Q e T R
def blockK (id : Nat) (Q : Post) (_ : Tok Q) : Post
  | .x id', T, R => if id' = id then Q .n T R else Q (.x id') T R
  | e, T, R => Q e T R

/-- The evaluator's proposition: what is to hold where the code is left. -/
def W (E : Env) (an : List (Nat × Nat × An)) : (c : Code) → List IV → List Reg → (Q : Post) → Tok Q → Prop
  | .skip, T, R, Q, _ => Q .n T R
  | .region id ops draw, T, R, Q, _ => match draw with
    | false => opsW E (anAt an id) ops.toList 0 ops.toList T R (Q .n) .mk
    | true => drawW E (anAt an id) ops.toList (planAt an id) T R (Q .n) .mk
  | .seq a b, T, R, Q, _ => W E an a T R (seqK (fun T R => W E an b T R Q .mk) Q .mk) .mk
  | .cond c a b, T, R, Q, _ => condW (evI T c) (fun _ => W E an a T R Q .mk) (fun _ => W E an b T R Q .mk) .mk
  | .block id body, T, R, Q, _ => W E an body T R (blockK id Q .mk) .mk
  | .loop body, T, R, Q, _ => ∃ (I : List IV → List Reg → Prop) (m : List IV → List Reg → Nat), I T R ∧
      ∀ T R, I T R → W E an body T R (seqK (fun T1 R1 => I T1 R1 ∧ m T1 R1 < m T R) Q .mk) .mk
  | .exit id, T, R, Q, _ => Q (.x id) T R
  | .ret, T, R, Q, _ => Q .r T R
  | .scope _, _, _, _, _ => False
  | .label _, T, R, Q, _ => Q .n T R
  | .goto _, _, _, _, _ => False
  | .rangeFunc .., _, _, _, _ => False
  | .refuse _, _, _, _, _ => False

end Go.Iv
namespace Go.Iv
/-- The types of a program, as the evaluator wants them. -/
def tiOf (P : Program) (t : TypeId) : TI :=
  { k := match P.underlying t with
      | some (.int k) => .int k
      | some .bool => .bool
      | some .string => .str
      | some (.slice e) => .slice e
      | some (.struct fs) => .struct (fs.toList.map fun f => (f.offset, f.type))
      | some (.array n e) => .arr n e
      | some (.pointer e) => .ptr e
      | some (.func _ _ _) => .fun_
      | _ => .other
    size := match P.info? t with | some i => i.size | none => 0
    bytes := match P.info? t with | some i => i.bytes | none => 0
    zero := match P.info? t with
      | some i => match i.zero with | some z => z.cells.toList.map ofV0 | none => []
      | none => [] }
def tysOf (P : Program) : Tys := (List.range P.types.size).map (tiOf P)
end Go.Iv
