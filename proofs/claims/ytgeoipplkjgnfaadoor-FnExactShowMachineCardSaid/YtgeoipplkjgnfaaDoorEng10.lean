/- The abstract memory: one operation, whatever it is, and what it does in a world. No condition beside those that stand in each statement. -/
import Derived.Test.YtgeoipplkjgnfaaDoorEng9
set_option linter.unusedVariables false
set_option linter.unusedSimpArgs false
namespace Go.Proofs.YtgeoipplkjgnfaaDoor.E

def one? : AV → Option T
  | .s (.one t) => some t
  | _ => none
def a1? : AV → A1
  | .s a => a
  | .tup _ => .any
def int? : AV → Option Int
  | .s (.one (.v (.int _ n))) => some n
  | _ => none
def bool? : AV → Option Bool
  | .s (.one (.v (.bool b))) => some b
  | _ => none
def val? : AV → Option Value
  | .s (.one (.v x)) => some x
  | _ => none
def aparts (s : St) (ps : Array (Nat × Operand)) : List (Nat × A1) := ps.toList.map fun p => (p.1, a1? (ev s p.2))
def caps (s : St) : List Operand → Option (List T)
  | [] => some []
  | x :: r => match one? (ev s x), caps s r with
    | some t, some ts => some (t :: ts)
    | _, _ => none
def bnd? (s : St) (d : Int) : Option Operand → Option Int
  | none => some d
  | some x => int? (ev s x)
def bytesOf : List (List T) → Option (List UInt8)
  | [] => some []
  | r :: rs => match byteOf r, bytesOf rs with
    | some b, some bs => some (b :: bs)
    | _, _ => none
def mkOne (t : T) : AV := .s (.one t)
def amax (op : Bool) : Value → Value → Option Value
  | .int k x, .int _ y => some (.int k (if op then (if y > x then y else x) else (if y < x then y else x)))
  | _, _ => none
def aminmax (op : Bool) : Value → List Value → Option Value
  | x, [] => some x
  | x, y :: r => match amax op x y with
    | some z => aminmax op z r
    | none => none
def vals (s : St) : List Operand → Option (List Value)
  | [] => some []
  | x :: r => match val? (ev s x), vals s r with
    | some t, some ts => some (t :: ts)
    | _, _ => none
def abuiltin (P : Program) (s : St) (b : Builtin) (ts : Array TypeId) (args : Array Operand) : Option (AV × List AObj) :=
  match b, args.toList, ts.toList with
  | .len, [x], [t] => match one? (ev s x), ti P t with
    | some tt, some i => match lenT tt, i.k, tt with
      | some n, .sl _, .v (.string _) => none
      | some n, .sl _, _ => some (mkOne (.v (.int .i64 n)), s.H)
      | some n, .str, .v (.string _) => some (mkOne (.v (.int .i64 n)), s.H)
      | _, _, _ => none
    | _, _ => none
  | .append, [x, y], [t, t2] => match one? (ev s x), one? (ev s y), ti P t with
    | some a, some b, some i => match i.k with
      | .sl e => match ti P e with
        | some j => if notInt P t2 ∧ 0 < j.size ∧ 1 ≤ j.bytes ∧ j.zero.length = j.size then doAppend s.H j a b else none
        | none => none
      | _ => none
    | _, _, _ => none
  | .max, x :: r, _ => match val? (ev s x), vals s r with
    | some a, some vs => match aminmax true a vs with
      | some z => if scal z then some (mkOne (.v z), s.H) else none
      | none => none
    | _, _ => none
  | .min, x :: r, _ => match val? (ev s x), vals s r with
    | some a, some vs => match aminmax false a vs with
      | some z => if scal z then some (mkOne (.v z), s.H) else none
      | none => none
    | _, _ => none
  | _, _, _ => none
def aconv (P : Program) (s : St) (src dst : TypeId) (x : T) : Option (AV × List AObj) :=
  match ti P src, ti P dst, x with
  | some a, some b, .v (.int _ n) => match b.k with
    | .int k => some (mkOne (.v (.int k (k.wrap n))), s.H)
    | _ => none
  | some a, some b, .v (.string z) => match a.k, b.k with
    | .str, .sl e => match P.underlying e with
      | some (.int .u8) => some (mkOne (.ref s.H.length 0 z.size), s.H ++ [.live 1 (z.data.toList.map fun b => [T.v (.int .u8 b.toNat)])])
      | _ => none
    | .str, .str => some (mkOne x, s.H)
    | _, _ => none
  | some a, some b, x => match a.k, b.k, rowsOf s.H 1 x with
    | .sl e, .str, some rows => match P.underlying e, bytesOf rows with
      | some (.int .u8), some bs => some (mkOne (.v (.string ⟨bs.toArray⟩)), s.H)
      | _, _ => none
    | _, _, _ => none
  | _, _, _ => none
/-- One operation that is no call. -/
def astep (P : Program) (s : St) : Op → Option (AV × List AObj)
  | .move x | .assign x => some (ev s x, s.H)
  | .pick c a b => match bool? (ev s c) with
    | some t => some (if t then ev s a else ev s b, s.H)
    | none => none
  | .alloc e => match ti P e with
    | some i => if i.zero.all scal then some (mkOne (.ptr s.H.length 0 0), s.H ++ [.live (i.zero.map T.v).length [i.zero.map T.v]]) else none
    | none => none
  | .box _ x => match cells1 (a1? (ev s x)) with
    | some ts => some (mkOne (.ptr s.H.length 0 0), s.H ++ [.live ts.length [ts]])
    | none => none
  | .build t ps => match ti P t with
    | some i => match i.k with
      | .st fs => if i.zero.all scal then match fillA fs (i.zero.map T.v) (aparts s ps) with
          | some row => some (.s (.agg row), s.H)
          | none => none
        else none
      | _ => none
    | none => none
  | .buildSlice t len ps => match ti P t with
    | some i => match i.k with
      | .sl e => match ti P e with
        | some j => match rowsA j.size 0 (aparts s ps) with
          | some rows => if len = ps.size ∧ 0 < j.size ∧ len * j.size ≤ 16777216 then some (mkOne (.ref s.H.length 0 rows.length), s.H ++ [.live j.size rows]) else none
          | none => none
        | none => none
      | _ => none
    | none => none
  | .load t a => match ti P t, one? (ev s a) with
    | some i, some p => doLoad s.H i p
    | _, _ => none
  | .store t a x => match ti P t, one? (ev s a) with
    | some i, some p => match doStore s.H i p (a1? (ev s x)) with
      | some H' => some (.s .any, H')
      | none => none
    | _, _ => none
  | .nilCheck x => match ev s x with
    | .s (.one (.ptr l r c)) => some (mkOne (.ptr l r c), s.H)
    | .s (.one (.rp r c)) => some (mkOne (.rp r c), s.H)
    | .s (.one (.fn f c)) => some (mkOne (.fn f c), s.H)
    | _ => none
  | .binOp op t x y _ => match val? (ev s x), val? (ev s y) with
    | some a, some b => match abinT P t op a b with
      | some z => some (mkOne (.v z), s.H)
      | none => none
    | _, _ => none
  | .unOp op _ x => match val? (ev s x) with
    | some a => match aun op a with
      | some z => some (mkOne (.v z), s.H)
      | none => none
    | none => none
  | .convert src dst x => match one? (ev s x) with
    | some t => aconv P s src dst t
    | none => none
  | .makeFunc (.func f) first captured => if first.isEmpty then match caps s captured.toList with
      | some ts => some (mkOne (.fn f ts), s.H)
      | none => none
    else none
  | .makeSlice t l c => match ti P t, int? (ev s l), int? (ev s c) with
    | some i, some n, some m => match i.k with
      | .sl e => match ti P e with
        | some j => if n = m ∧ leI 0 n = true ∧ leI ((j.bytes : Int) * n) 140737488355328 = true ∧ 1 ≤ j.bytes ∧ j.zero.all scal ∧ j.zero.length = j.size then some (mkOne (.ref s.H.length 0 n.toNat), s.H ++ [.live j.size (List.replicate n.toNat (j.zero.map T.v))]) else none
        | none => none
      | _ => none
    | _, _, _ => none
  | .slice t x lo hi none => match ti P t, one? (ev s x) with
    | some i, some tt => match lenT tt with
      | some n => match bnd? s 0 lo, bnd? s n hi with
        | some a, some b => match i.k with
          | .sl e => match ti P e with
            | some j => match doSlice s.H j.size a b tt with
              | some t' => some (mkOne t', s.H)
              | none => none
            | none => none
          | .str => match doSliceS a b tt with
            | some t' => some (mkOne t', s.H)
            | none => none
          | _ => none
        | _, _ => none
      | none => none
    | _, _ => none
  | .fieldAddr t x f => match ti P t, one? (ev s x) with
    | some i, some p => match i.k with
      | .st fs => match fs[f]? with
        | some (off, sz, _) => if sz = 0 then none else match doField off p with
          | some p' => some (mkOne p', s.H)
          | none => none
        | none => none
      | _ => none
    | _, _ => none
  | .field t x f => match ti P t, cells1 (a1? (ev s x)), a1? (ev s x) with
    | some i, some ts, .agg _ => match i.k with
      | .st fs => match fs[f]? with
        | some (off, sz, ag) => if off + sz ≤ ts.length ∧ ((ts.drop off).take sz).length = sz then match ofCells ag ((ts.drop off).take sz) with
            | some av => some (av, s.H)
            | none => none
          else none
        | none => none
      | _ => none
    | _, _, _ => none
  | .indexAddr t x ix => match ti P t, one? (ev s x), int? (ev s ix) with
    | some i, some tt, some n => match i.k with
      | .sl e => match ti P e with
        | some j => match doIndexAddr s.H j.size n tt with
          | some p => some (mkOne p, s.H)
          | none => none
        | none => none
      | _ => none
    | _, _, _ => none
  | .index t x ix => match ti P t, val? (ev s x), int? (ev s ix) with
    | some i, some (.string z), some n => match i.k, idx n z.size with
      | .str, some k => some (mkOne (.v (.int .u8 ((z.data.toList.getD k 0).toNat : Int))), s.H)
      | _, _ => none
    | _, _, _ => none
  | .extract x ix => match ev s x with
    | .tup as_ => match as_[ix]? with
      | some a => some (.s a, s.H)
      | none => none
    | _ => none
  | .call c => match c.callee with
    | .builtin b => abuiltin P s b c.argTypes c.args
    | _ => none
  | _ => none
end Go.Proofs.YtgeoipplkjgnfaaDoor.E
