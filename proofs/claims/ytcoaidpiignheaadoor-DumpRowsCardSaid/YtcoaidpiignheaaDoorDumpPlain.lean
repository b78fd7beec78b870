/-
  Plain words of layer 29: boxes told as lines. No program in sight.
-/
import Derived.Test.YtcoaidpiignheaaDoorPrintPlain
namespace Wsc
open Go

structure BoxP where
  shown : Bool
  x : Int
  y : Int
  w : Int
  h : Int
  lines : Int
deriving DecidableEq
structure RowP where
  depth : Int
  tag : List UInt8
  box : BoxP
deriving DecidableEq
def zeroBox : BoxP := ⟨false, 0, 0, 0, 0, 0⟩
def isHeld (n : Int) : Bool := decide (hold n = n)
theorem isHeld_iff (n : Int) : isHeld n = true ↔ -1073741824 ≤ n ∧ n ≤ 1073741824 := by
  unfold isHeld hold; simp; (repeat' split) <;> omega
/-- may a row be? -/
def headOk (r : RowP) : Bool := decide (1 ≤ r.depth ∧ r.depth ≤ 64) && (decide (r.tag = []) || nameB r.tag)
def shownOk (r : RowP) : Bool := isHeld r.box.x && isHeld r.box.y && isHeld r.box.w && isHeld r.box.h && decide (0 ≤ r.box.w ∧ 0 ≤ r.box.h) && (if r.tag = [] then decide (0 ≤ r.box.lines ∧ r.box.lines ≤ 256) else decide (r.box.lines = 0))
def rightR (r : RowP) : Bool := headOk r && (if r.box.shown = true then shownOk r else decide (r.box = zeroBox))
/-- a whole number's text. -/
def numN (n : Int) : List UInt8 := if n < 0 then 45 :: wholeL (-n).toNat else wholeL n.toNat
def tagL (t : List UInt8) : List UInt8 := if t = [] then [34] else t
/-- a line's words. -/
def wordsR (r : RowP) : List (List UInt8) :=
  if r.box.shown = true then
    [numN r.depth, tagL r.tag, numN r.box.x, numN r.box.y, numN r.box.w, numN r.box.h] ++ (if r.tag = [] then [numN r.box.lines] else [])
  else [numN r.depth, tagL r.tag, [45]]
def joinSp : List (List UInt8) → List UInt8
  | [] => []
  | [x] => x
  | x :: y :: r => x ++ 32 :: joinSp (y :: r)
def lineR (r : RowP) : List UInt8 := joinSp (wordsR r) ++ [10]
def linesR (l : List RowP) : List UInt8 := l.flatMap lineR
end Wsc
