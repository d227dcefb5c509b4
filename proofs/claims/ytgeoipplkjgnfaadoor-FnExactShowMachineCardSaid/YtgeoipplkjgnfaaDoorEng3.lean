/- The abstract memory: values of temporaries, and one operation done on them. No condition beside those that stand in each statement. -/
import Derived.Test.YtgeoipplkjgnfaaDoorEng2
set_option linter.unusedVariables false
set_option linter.unusedSimpArgs false
namespace Go.Proofs.YtgeoipplkjgnfaaDoor.E

inductive A1 where
  | one (t : T)
  | agg (ts : List T)
  | any
inductive AV where
  | s (a : A1)
  | tup (as_ : List A1)
structure St where
  env : List AV
  H : List AObj

/-! ### Types -/
inductive TK where
  | bool
  | int (k : IntKind)
  | str
  | ptr
  | sl (e : Nat)
  | st (fs : List (Nat × Nat × Bool))
  | other
structure TI where
  k : TK
  size : Nat
  bytes : Nat
  agg : Bool
  zero : List Value
def aggB (P : Program) (t : TypeId) : Bool := match P.underlying t with
  | some (.struct _) | some (.array _ _) => true
  | _ => false
def fieldInfo (P : Program) (f : Field) : Option (Nat × Nat × Bool) := match P.info? f.type, P.underlying f.type with
  | some i, some _ => some (f.offset, i.size, aggB P f.type)
  | _, _ => none
def kindOf (P : Program) : TypeDesc → TK
  | .bool => .bool
  | .int k => .int k
  | .string => .str
  | .pointer _ => .ptr
  | .slice e => .sl e
  | .struct fs => match fs.toList.mapM (fieldInfo P) with
    | some l => .st l
    | none => .other
  | _ => .other
def ti (P : Program) (t : TypeId) : Option TI :=
  match P.underlying t, P.info? t with
  | some d, some i => match i.zero with
    | some z => some { k := kindOf P d, size := i.size, bytes := i.bytes, agg := aggB P t, zero := z.cells.toList }
    | none => none
  | _, _ => none

/-! ### Operands -/
def cv : Value → AV
  | .agg cs => if cs.toList.all scal then .s (.agg (cs.toList.map T.v)) else .s .any
  | v => if scal v then .s (.one (.v v)) else .s .any
def ev (s : St) : Operand → AV
  | .tmp t => s.env.getD t (.s .any)
  | .const v => cv v
  | .func f => .s (.one (.fn f []))
  | .global _ => .s .any
def ofD : D → T
  | .v x => .v x
  | .l sz rows => .ro sz rows
def isOwn : T → Bool
  | .own _ _ | .box _ => true
  | _ => false
def nameT : T → Nat → T × List AObj
  | .own sz rows, n => (.ref n 0 rows.length, [.live sz rows])
  | .box row, n => (.ptr n 0 0, [.live row.length [row]])
  | t, _ => (t, [])
def nameRow : List T → Nat → List T × List AObj
  | [], _ => ([], [])
  | t :: ts, n => ((nameT t n).1 :: (nameRow ts (n + (nameT t n).2.length)).1, (nameT t n).2 ++ (nameRow ts (n + (nameT t n).2.length)).2)
def rowsAt (H : List AObj) (l : Nat) : Option (Nat × List (List T)) := match H[l]? with
  | some (.live sz rows) => some (sz, rows)
  | _ => none
/-- A number within a list. -/
def idx (i : Int) (n : Nat) : Option Nat := if 0 ≤ i ∧ i < n then some i.toNat else none
theorem idx_ok {i : Int} {n : Nat} (h0 : 0 ≤ i) (h1 : i < n) : idx i n = some i.toNat := by simp [idx, h0, h1]
def bnds (lo hi : Int) (n : Nat) : Option (Nat × Nat) := if 0 ≤ lo ∧ lo ≤ hi ∧ hi ≤ n then some (lo.toNat, hi.toNat) else none
theorem bnds_ok {lo hi : Int} {n : Nat} (h0 : 0 ≤ lo) (h1 : lo ≤ hi) (h2 : hi ≤ n) : bnds lo hi n = some (lo.toNat, hi.toNat) := by simp [bnds, h0, h1, h2]
def leB (a b : Nat) : Bool := decide (a ≤ b)
def leI (a b : Int) : Bool := decide (a ≤ b)
theorem leB_ok {a b : Nat} (h : a ≤ b) : leB a b = true := decide_eq_true h
theorem leI_ok {a b : Int} (h : a ≤ b) : leI a b = true := decide_eq_true h
theorem leB_le {a b : Nat} (h : leB a b = true) : a ≤ b := of_decide_eq_true h
theorem leI_le {a b : Int} (h : leI a b = true) : a ≤ b := of_decide_eq_true h
def splice (row : List T) (c : Nat) (ts : List T) : List T := row.take c ++ ts ++ row.drop (c + ts.length)
def cells1 : A1 → Option (List T)
  | .one t => some [t]
  | .agg ts => some ts
  | .any => none
def ofCells (agg : Bool) (ts : List T) : Option AV := if agg then some (.s (.agg ts)) else match ts with
  | [t] => some (.s (.one t))
  | _ => none

/-! ### Memory -/
def doLoad (H : List AObj) (i : TI) : T → Option (AV × List AObj)
  | .ptr l r c => match rowsAt H l with
    | some (sz, rows) => match rows[r]? with
      | some row => if c + i.size ≤ row.length then
          if ((row.drop c).take i.size).any isOwn then
            match ofCells i.agg (nameRow ((row.drop c).take i.size) H.length).1 with
            | some av => some (av, (H ++ (nameRow ((row.drop c).take i.size) H.length).2).set l (.live sz (rows.set r (splice row c (nameRow ((row.drop c).take i.size) H.length).1))))
            | none => none
          else match ofCells i.agg ((row.drop c).take i.size) with
            | some av => some (av, H)
            | none => none
        else none
      | none => none
    | none => none
  | .rp row c => if c + i.size ≤ row.length then match ofCells i.agg (((row.drop c).take i.size).map ofD) with
      | some av => some (av, H)
      | none => none
    else none
  | _ => none
def doStore (H : List AObj) (i : TI) : T → A1 → Option (List AObj)
  | .ptr l r c, x => match rowsAt H l, cells1 x with
    | some (sz, rows), some ts => match rows[r]? with
      | some row => if ts.length = i.size ∧ c + i.size ≤ row.length then some (H.set l (.live sz (rows.set r (splice row c ts)))) else none
      | none => none
    | _, _ => none
  | _, _ => none
def doIndexAddr (H : List AObj) (size : Nat) (i : Int) : T → Option T
  | .ref l off len => match rowsAt H l, idx i len with
    | some (sz, _), some k => if sz = size then some (.ptr l (off + k) 0) else none
    | _, _ => none
  | .ro sz rows => match idx i rows.length with
    | some k => match rows[k]? with
      | some row => if sz = size then some (.rp row 0) else none
      | none => none
    | none => none
  | _ => none
def doField (off : Nat) : T → Option T
  | .ptr l r c => some (.ptr l r (c + off))
  | .rp row c => some (.rp row (c + off))
  | _ => none
def lenT : T → Option Nat
  | .v (.slice none 0 0) => some 0
  | .ro _ rows => some rows.length
  | .ref _ _ len => some len
  | .v (.string s) => some s.size
  | _ => none
def doSlice (H : List AObj) (size : Nat) (lo hi : Int) : T → Option T
  | .v (.slice none 0 0) => match bnds lo hi 0 with
    | some _ => some (.v (.slice none 0 0))
    | none => none
  | .ro sz rows => match bnds lo hi rows.length with
    | some (a, b) => if sz = size then some (.ro sz ((rows.take b).drop a)) else none
    | none => none
  | .ref l off len => match rowsAt H l, bnds lo hi len with
    | some (sz, _), some (a, b) => if sz = size then some (.ref l (off + a) (b - a)) else none
    | _, _ => none
  | _ => none
def doSliceS (lo hi : Int) : T → Option T
  | .v (.string s) => match bnds lo hi s.size with
    | some (a, b) => some (.v (.string (s.extract a b)))
    | none => none
  | _ => none
def rowsOf (H : List AObj) (size : Nat) : T → Option (List (List T))
  | .v (.slice none 0 0) => some []
  | .ro sz rows => if sz = size then some (rows.map (·.map ofD)) else none
  | .ref l off len => match rowsAt H l with
    | some (sz, rows) => if sz = size ∧ leB (off + len) rows.length = true then some ((rows.drop off).take len) else none
    | none => none
  | .v (.string s) => if size = 1 then some (s.data.toList.map fun b => [T.v (.int .u8 b.toNat)]) else none
  | _ => none
def apart (l : Nat) : T → Bool
  | .ref l' _ _ => l' != l
  | _ => true
def flat (rows : List (List T)) : Bool := rows.all fun r => r.all fun t => !isOwn t
/-- What is appended to, and what it holds; the object that is given up. -/
def doAppend (H : List AObj) (i : TI) (s x : T) : Option (AV × List AObj) :=
  match s, rowsOf H i.size s, rowsOf H i.size x with
  | .v (.slice none 0 0), some _, some b => if flat b = true ∧ leB (b.length * i.bytes) 140737488355328 = true then some (.s (.one (.ref H.length 0 b.length)), H ++ [.live i.size b]) else none
  | .ref l _ _, some a, some b => if flat b = true ∧ leB ((a.length + b.length) * i.bytes) 140737488355328 = true ∧ apart l x = true then
      some (.s (.one (.ref H.length 0 (a.length + b.length))), H.set l .dead ++ [.live i.size (a ++ b)]) else none
  | _, _, _ => none
def byteOf : List T → Option UInt8
  | [.v (.int .u8 n)] => some (UInt8.ofNat n.toNat)
  | _ => none

/-- The parts of a struct laid in. -/
def fillA (fs : List (Nat × Nat × Bool)) : List T → List (Nat × A1) → Option (List T)
  | row, [] => some row
  | row, (k, x) :: rest => match fs[k]?, cells1 x with
    | some (off, sz, _), some ts => if ts.length = sz ∧ off + sz ≤ row.length then fillA fs (splice row off ts) rest else none
    | _, _ => none
/-- The parts of a list literal, all of them, in order. -/
def rowsA (size : Nat) : Nat → List (Nat × A1) → Option (List (List T))
  | _, [] => some []
  | n, (k, x) :: rest => match cells1 x, rowsA size (n + 1) rest with
    | some ts, some r => if k = n ∧ ts.length = size then some (ts :: r) else none
    | _, _ => none

/-! ### Numbers, texts, truths -/
def seq (x y : ByteArray) : Bool := x.toList == y.toList
def abin : BinOp → Value → Value → Option Value
  | .shl, .int k a, .int _ b => if 0 ≤ b then some (.int k (k.wrap (a * 2 ^ (min b.toNat k.bits)))) else none
  | .shr, .int k a, .int _ b => if 0 ≤ b then some (.int k (a.fdiv (2 ^ (min b.toNat k.bits)))) else none
  | .add, .int k a, .int k' b => if k = k' then some (.int k (k.wrap (a + b))) else none
  | .sub, .int k a, .int k' b => if k = k' then some (.int k (k.wrap (a - b))) else none
  | .mul, .int k a, .int k' b => if k = k' then some (.int k (k.wrap (a * b))) else none
  | .quo, .int k a, .int k' b => if k = k' ∧ b ≠ 0 then some (.int k (k.wrap (a.tdiv b))) else none
  | .rem, .int k a, .int k' b => if k = k' ∧ b ≠ 0 then some (.int k (a.tmod b)) else none
  | .and, .int k a, .int k' b => if k = k' then some (.int k (k.wrap (BitVec.ofInt k.bits a &&& BitVec.ofInt k.bits b).toNat)) else none
  | .xor, .int k a, .int k' b => if k = k' then some (.int k (k.wrap (BitVec.ofInt k.bits a ^^^ BitVec.ofInt k.bits b).toNat)) else none
  | .eql, .int k a, .int k' b => if k = k' then some (.bool (a == b)) else none
  | .neq, .int k a, .int k' b => if k = k' then some (.bool (a != b)) else none
  | .lss, .int k a, .int k' b => if k = k' then some (.bool (decide (a < b))) else none
  | .leq, .int k a, .int k' b => if k = k' then some (.bool (decide (a ≤ b))) else none
  | .gtr, .int k a, .int k' b => if k = k' then some (.bool (decide (a > b))) else none
  | .geq, .int k a, .int k' b => if k = k' then some (.bool (decide (a ≥ b))) else none
  | .add, .string x, .string y => if x.size + y.size ≤ 9223372036854775807 then some (.string (x ++ y)) else none
  | .eql, .string x, .string y => some (.bool (seq x y))
  | .neq, .string x, .string y => some (.bool (!seq x y))
  | _, _, _ => none
def isBoolT (P : Program) (t : TypeId) : Bool := match ti P t with
  | some i => match i.k with
    | .bool => true
    | _ => false
  | none => false
/-- The same, with the operands' type. -/
def abinT (P : Program) (t : TypeId) : BinOp → Value → Value → Option Value
  | .eql, .bool x, .bool y => if isBoolT P t = true then some (.bool (x == y)) else none
  | .neq, .bool x, .bool y => if isBoolT P t = true then some (.bool (x != y)) else none
  | op, x, y => abin op x y
def aun : UnOp → Value → Option Value
  | .neg, .int k n => some (.int k (k.wrap (0 - n)))
  | .not, .bool b => some (.bool !b)
  | _, _ => none
end Go.Proofs.YtgeoipplkjgnfaaDoor.E
