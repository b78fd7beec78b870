/-
  Plain laws of layer 9: right values, their tokens, how they are read. No program in sight.
-/
import Derived.Test.YtikhghmnclpigaaGreatDoorTokPlain
import Derived.Test.YtikhghmnclpigaaGreatDoorTrimPlain
namespace Wsc
open Go

def heldB (n : Int) : Bool := decide (hold n = n)
theorem heldB_iff (n : Int) : heldB n = true ↔ -1073741824 ≤ n ∧ n ≤ 1073741824 := by
  unfold heldB hold; simp; (repeat' split) <;> omega
/-- may a value be? -/
def rightV (v : Val) : Bool :=
  if v.kind = 1 then decide (1 ≤ v.n ∧ v.n ≤ 30 ∧ v.d = 0 ∧ v.name = [])
  else if v.kind = 2 then decide (heldB v.n = true ∧ 1 ≤ v.d ∧ v.d ≤ 8 ∧ v.name = [])
  else if v.kind = 3 ∨ v.kind = 4 then decide (heldB v.n = true ∧ v.d = 0 ∧ v.name = [])
  else if v.kind = 5 then decide (heldB v.n = true ∧ heldB v.d = true ∧ 0 ≤ v.n ∧ 0 ≤ v.d ∧ v.name = [])
  else if v.kind = 6 then decide (v.n = 0 ∧ v.d = 0 ∧ nameB v.name = true ∧ placeL wordsL v.name = 0)
  else false
theorem wordsL_length : wordsL.length = 31 := rfl
theorem unitsL_length : unitsL.length = 9 := rfl
theorem wordsL_ne : ∀ i : Fin 31, 1 ≤ i.val → wordsL.getD i.val [] ≠ [] := by decide
theorem unitsL_ne : ∀ i : Fin 9, 1 ≤ i.val → unitsL.getD i.val [] ≠ [] := by decide
theorem atL_words (n : Int) : atL wordsL n = [] ↔ ¬ (1 ≤ n ∧ n ≤ 30) := by
  unfold atL; rw [wordsL_length]
  by_cases h : 1 ≤ n ∧ n < (31 : Nat)
  · rw [if_pos h]
    have := wordsL_ne ⟨n.toNat, by omega⟩ (by simp; omega)
    constructor
    · intro e; exact absurd e this
    · intro e; omega
  · rw [if_neg h]; simp; omega
theorem atL_units (n : Int) : atL unitsL n = [] ↔ ¬ (1 ≤ n ∧ n ≤ 8) := by
  unfold atL; rw [unitsL_length]
  by_cases h : 1 ≤ n ∧ n < (9 : Nat)
  · rw [if_pos h]
    have := unitsL_ne ⟨n.toNat, by omega⟩ (by simp; omega)
    constructor
    · intro e; exact absurd e this
    · intro e; omega
  · rw [if_neg h]; simp; omega
/-- an Ident's value. -/
def wordV (s : List UInt8) : Val := if 0 < placeL wordsL s then ⟨1, (placeL wordsL s : Nat), 0, []⟩ else ⟨6, 0, 0, s⟩
/-- the value that a list begins with, right or not. -/
def frontL (l : List Tok) : Val × Nat :=
  match l with
  | [] => (zeroVal, 0)
  | t :: _ =>
    if t.kind = 7 then (if 0 < (ratioL l).2 then ratioL l else (⟨4, t.n, 0, []⟩, 1))
    else if t.kind = 8 then (⟨3, t.n, 0, []⟩, 1)
    else if t.kind = 9 then (⟨2, t.n, (placeL unitsL t.text : Nat), []⟩, 1)
    else if t.kind = 1 then (wordV t.text, 1)
    else (zeroVal, 0)
/-- the value that a list begins with. -/
def readL (l : List Tok) : Val × Nat := if rightV (frontL l).1 = true then frontL l else (zeroVal, 0)
theorem ratioL_le (l : List Tok) : (ratioL l).2 ≤ l.length := by
  unfold ratioL
  split
  · rename_i h; have := isAt_lt h.2; simp; omega
  · exact Nat.zero_le _
theorem frontL_le (l : List Tok) : (frontL l).2 ≤ l.length := by
  unfold frontL
  split
  · exact Nat.zero_le _
  · rename_i t r
    split
    · split
      · exact ratioL_le _
      · simp
    · split
      · simp
      · split
        · simp
        · split <;> simp
theorem readL_le (l : List Tok) : (readL l).2 ≤ l.length := by
  unfold readL; split
  · exact frontL_le l
  · exact Nat.zero_le _
/-- all values of a list, Spaces between; none: it is not that. -/
def parseF : Nat → List Tok → Option (List Val)
  | 0, _ => none
  | f + 1, l =>
    if (readL l).2 = 0 then none
    else if (readL l).2 = l.length then some [(readL l).1]
    else if skipL l (readL l).2 = (readL l).2 then none
    else (parseF f (l.drop (skipL l (readL l).2))).map fun xs => (readL l).1 :: xs
def parseL (l : List Tok) : Option (List Val) := parseF ((trimL l).length + 1) (trimL l)
theorem parseF_none1 (f : Nat) (l : List Tok) (h : (readL l).2 = 0) : parseF (f + 1) l = none := by rw [parseF, if_pos h]
theorem parseF_one (f : Nat) (l : List Tok) (h : ¬ (readL l).2 = 0) (h2 : (readL l).2 = l.length) : parseF (f + 1) l = some [(readL l).1] := by rw [parseF, if_neg h, if_pos h2]
theorem parseF_none2 (f : Nat) (l : List Tok) (h : ¬ (readL l).2 = 0) (h2 : ¬ (readL l).2 = l.length) (h3 : skipL l (readL l).2 = (readL l).2) : parseF (f + 1) l = none := by rw [parseF, if_neg h, if_neg h2, if_pos h3]
theorem parseF_more (f : Nat) (l : List Tok) (h : ¬ (readL l).2 = 0) (h2 : ¬ (readL l).2 = l.length) (h3 : ¬ skipL l (readL l).2 = (readL l).2) :
    parseF (f + 1) l = (parseF f (l.drop (skipL l (readL l).2))).map fun xs => (readL l).1 :: xs := by rw [parseF, if_neg h, if_neg h2, if_neg h3]
end Wsc
