/- What an instruction word is, and what it touches: plain. -/
import Derived.Test.YtgeoipplkjgnfaaMayTouchI
namespace Go.Proofs.Ytgeoipplkjgnfaa
open Go.RowKit Go.Proofs.YtgeoipplkjgnfaaW.PrintWords Go.Proofs.Ytgeoipplkjgnfaa.Lib

def insTail (op a n : Int) : Bool :=
  if op = 1 then decide (n ≤ 1000000)
  else if op = 4 then inB n 1 9
  else if op = 5 ∨ op = 6 then n == 0
  else if op = 8 then a == 0
  else if op = 10 then inB a 1 7
  else true
def insOk (op a b n : Int) : Bool := inB op 1 10 && inB a 0 7 && inB b 0 7 && inB n 0 4194303 && (op == 4 || b == 0) && insTail op a n
def dOp (x : Int) : Int := x / 268435456
def dA (x : Int) : Int := bits BinOp.and IntKind.i64 (x / 33554432) 7
def dB (x : Int) : Int := bits BinOp.and IntKind.i64 (x / 4194304) 7
def dN (x : Int) : Int := bits BinOp.and IntKind.i64 x 4194303
def decOk (x : Int) : Bool := decide (0 ≤ x) && insOk (dOp x) (dA x) (dB x) (dN x)
theorem decOk_far {x : Int} (h : inB x 0 8589934592 = false) : decOk x = false := by
  by_cases h0 : 0 ≤ x
  · have h1 : 8589934592 < x := by
      by_cases h2 : x ≤ 8589934592
      · rw [inB_yes h0 h2] at h
        cases h
      · omega
    have h3 : inB (dOp x) 1 10 = false := inB_no (by unfold dOp; omega)
    simp [decOk, insOk, h3]
  · simp [decOk, h0]
def insV (x : Int) : Value := if decOk x = true then .agg #[.int .i64 (dOp x), .int .i64 (dA x), .int .i64 (dB x), .int .i64 (dN x)] else .agg #[.int .i64 0, .int .i64 0, .int .i64 0, .int .i64 0]
def usesB (op : Int) : Bool := (op == 2) || (op == 3) || (op == 9)
/-- What the word at i of the text touches; -1: nothing. -/
def touchOf (xs : List Int) (i : Int) : Int :=
  if inB i 0 ((xs.length : Int) - 1) = true ∧ decOk (xs.getD i.toNat 0) = true ∧ usesB (dOp (xs.getD i.toNat 0)) = true then dN (xs.getD i.toNat 0) else -1
end Go.Proofs.Ytgeoipplkjgnfaa
