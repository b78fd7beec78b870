/-
  Plain words for tokens and values (layers 5 and 9). No program in sight.
-/
import Derived.Test.YtikhghmnclpigaaGreatDoorFixPlain
import Derived.Test.YtikhghmnclpigaaGreatDoorNamesPlain
namespace Wsc
open Go

/-- a piece of a sheet's text. -/
structure Tok where
  kind : Int
  text : List UInt8
  n : Int
deriving DecidableEq
def tk (k : Int) (t : List UInt8) (n : Int) : Tok := ⟨k, t, n⟩
/-- a declared value. -/
structure Val where
  kind : Int
  n : Int
  d : Int
  name : List UInt8
deriving DecidableEq

/-- where a text stands in a list behind its first one; 0: nowhere. -/
def placeFrom (s : List UInt8) : List (List UInt8) → Nat → Nat
  | [], _ => 0
  | x :: r, i => if x = s then i else placeFrom s r (i + 1)
def placeL (l : List (List UInt8)) (s : List UInt8) : Nat := placeFrom s (l.drop 1) 1

theorem placeFrom_le (s : List UInt8) : ∀ (l : List (List UInt8)) (i : Nat), placeFrom s l i ≤ i + l.length
  | [], i => Nat.zero_le _
  | x :: r, i => by unfold placeFrom; split <;> simp <;> (try have := placeFrom_le s r (i + 1)) <;> omega
/-- does a token of a kind stand at a place? -/
def isAt (l : List Tok) (i : Nat) (k : Int) : Bool := match l[i]? with | some t => decide (t.kind = k) | none => false
theorem isAt_in (l : List Tok) (i : Nat) (k : Int) (h : i < l.length) : isAt l i k = decide (l[i].kind = k) := by unfold isAt; rw [List.getElem?_eq_getElem h]
theorem isAt_out (l : List Tok) (i : Nat) (k : Int) (h : ¬ i < l.length) : isAt l i k = false := by unfold isAt; rw [List.getElem?_eq_none (by omega)]
/-- is it a Delim of some sign? -/
def signAt (l : List Tok) (i : Nat) (s : List UInt8) : Bool := match l[i]? with | some t => decide (t.kind = 19 ∧ t.text = s) | none => false
theorem signAt_in (l : List Tok) (i : Nat) (s : List UInt8) (h : i < l.length) : signAt l i s = decide (l[i].kind = 19 ∧ l[i].text = s) := by unfold signAt; rw [List.getElem?_eq_getElem h]
theorem signAt_out (l : List Tok) (i : Nat) (s : List UInt8) (h : ¬ i < l.length) : signAt l i s = false := by unfold signAt; rw [List.getElem?_eq_none (by omega)]
/-- the first place from one on that is no Space. -/
def spacesL : List Tok → Nat
  | [] => 0
  | t :: r => if t.kind = 20 then spacesL r + 1 else 0
def skipL (l : List Tok) (i : Nat) : Nat := i + spacesL (l.drop i)
theorem skipL_go (l : List Tok) (i : Nat) (h : i < l.length) (hk : l[i].kind = 20) : skipL l i = skipL l (i + 1) := by
  unfold skipL; rw [List.drop_eq_getElem_cons h, spacesL, if_pos hk]; omega
theorem skipL_stop (l : List Tok) (i : Nat) (h : i < l.length) (hk : ¬ l[i].kind = 20) : skipL l i = i := by
  unfold skipL; rw [List.drop_eq_getElem_cons h, spacesL, if_neg hk]; rfl
theorem skipL_end (l : List Tok) (i : Nat) (h : ¬ i < l.length) : skipL l i = i := by
  unfold skipL; rw [List.drop_of_length_le (by omega)]; rfl
theorem spacesL_le : ∀ l : List Tok, spacesL l ≤ l.length
  | [] => Nat.le_refl _
  | t :: r => by unfold spacesL; split <;> simp; exact spacesL_le r
theorem skipL_ge (l : List Tok) (i : Nat) : i ≤ skipL l i := Nat.le_add_right _ _
theorem skipL_le (l : List Tok) (i : Nat) (h : i ≤ l.length) : skipL l i ≤ l.length := by
  have := spacesL_le (l.drop i); unfold skipL; simp at this; omega
def zeroVal : Val := ⟨0, 0, 0, []⟩
def nAt (l : List Tok) (i : Nat) : Int := match l[i]? with | some t => t.n | none => 0
/-- behind a ratio's first number; how many tokens it takes; 0: it is none. -/
def ratioL (l : List Tok) : Val × Nat :=
  if signAt l (skipL l 1) [47] = true ∧ isAt l (skipL l (skipL l 1 + 1)) 7 = true then (⟨5, nAt l 0, nAt l (skipL l (skipL l 1 + 1)), []⟩, skipL l (skipL l 1 + 1) + 1) else (zeroVal, 0)
theorem signAt_lt {l : List Tok} {i : Nat} {s : List UInt8} (h : signAt l i s = true) : i < l.length := by
  cases Nat.lt_or_ge i l.length with
  | inl h1 => exact h1
  | inr h1 => rw [signAt_out l i s (by omega)] at h; cases h
theorem isAt_lt {l : List Tok} {i : Nat} {k : Int} (h : isAt l i k = true) : i < l.length := by
  cases Nat.lt_or_ge i l.length with
  | inl h1 => exact h1
  | inr h1 => rw [isAt_out l i k (by omega)] at h; cases h
theorem nAt_in {l : List Tok} {i : Nat} (h : i < l.length) : nAt l i = l[i].n := by unfold nAt; rw [List.getElem?_eq_getElem h]
/-- all words, and all units, from number 1 on. -/
def wordsL : List (List UInt8) := [[], [97, 117, 116, 111], [110, 111, 110, 101], [98, 108, 111, 99, 107], [102, 108, 101, 120], [99, 111, 110, 116, 101, 110, 116, 45, 98, 111, 120], [98, 111, 114, 100, 101, 114, 45, 98, 111, 120], [109, 105, 110, 45, 99, 111, 110, 116, 101, 110, 116], [109, 97, 120, 45, 99, 111, 110, 116, 101, 110, 116], [102, 105, 116, 45, 99, 111, 110, 116, 101, 110, 116], [114, 111, 119], [114, 111, 119, 45, 114, 101, 118, 101, 114, 115, 101], [99, 111, 108, 117, 109, 110], [99, 111, 108, 117, 109, 110, 45, 114, 101, 118, 101, 114, 115, 101], [110, 111, 119, 114, 97, 112], [119, 114, 97, 112], [119, 114, 97, 112, 45, 114, 101, 118, 101, 114, 115, 101], [115, 116, 97, 114, 116], [101, 110, 100], [99, 101, 110, 116, 101, 114], [115, 116, 114, 101, 116, 99, 104], [115, 112, 97, 99, 101, 45, 98, 101, 116, 119, 101, 101, 110], [115, 112, 97, 99, 101, 45, 97, 114, 111, 117, 110, 100], [115, 112, 97, 99, 101, 45, 101, 118, 101, 110, 108, 121], [110, 111, 114, 109, 97, 108], [105, 110, 108, 105, 110, 101, 45, 115, 105, 122, 101], [115, 105, 122, 101], [99, 111, 110, 116, 101, 110, 116], [105, 110, 104, 101, 114, 105, 116], [105, 110, 105, 116, 105, 97, 108], [117, 110, 115, 101, 116]]
def unitsL : List (List UInt8) := [[], [112, 120], [101, 109], [99, 113, 119], [99, 113, 104], [99, 113, 105], [99, 113, 98], [99, 113, 109, 105, 110], [99, 113, 109, 97, 120]]
theorem placeFrom_at (s : List UInt8) (l : List (List UInt8)) (k i : Nat) (h : k < l.length) : placeFrom s (l.drop k) i = if l[k] = s then i else placeFrom s (l.drop (k + 1)) (i + 1) := by
  rw [List.drop_eq_getElem_cons h, placeFrom]
theorem placeFrom_end (s : List UInt8) (l : List (List UInt8)) (k i : Nat) (h : ¬ k < l.length) : placeFrom s (l.drop k) i = 0 := by
  rw [List.drop_of_length_le (by omega), placeFrom]
/-- the text at a place of a list; empty: there is none. -/
def atL (l : List (List UInt8)) (n : Int) : List UInt8 := if 1 ≤ n ∧ n < l.length then l.getD n.toNat [] else []
end Wsc
