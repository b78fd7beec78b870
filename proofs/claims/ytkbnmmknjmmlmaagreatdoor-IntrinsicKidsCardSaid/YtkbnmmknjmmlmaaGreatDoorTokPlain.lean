/-
  Plain words for tokens and values (layers 5 and 9). No program in sight.
  Plain laws of Trim: a list without Spaces at both ends. No program in sight.
  Plain laws of layer 9: right values, their tokens, how they are read. No program in sight.
-/
import Derived.Test.YtkbnmmknjmmlmaaGreatDoorFixPlain
namespace Wsc
open Go

/-- a piece of a sheet's text. -/
structure Tok where
  kind : Int
  text : List UInt8
  n : Int
deriving DecidableEq
def tk (k : Int) (t : List UInt8) (n : Int) : Tok := ⟨k, t, n⟩
/-- a declared value. -/
structure Val where
  kind : Int
  n : Int
  d : Int
  name : List UInt8
deriving DecidableEq

/-- where a text stands in a list behind its first one; 0: nowhere. -/
def placeFrom (s : List UInt8) : List (List UInt8) → Nat → Nat
  | [], _ => 0
  | x :: r, i => if x = s then i else placeFrom s r (i + 1)
def placeL (l : List (List UInt8)) (s : List UInt8) : Nat := placeFrom s (l.drop 1) 1

theorem placeFrom_le (s : List UInt8) : ∀ (l : List (List UInt8)) (i : Nat), placeFrom s l i ≤ i + l.length
  | [], i => Nat.zero_le _
  | x :: r, i => by unfold placeFrom; split <;> simp <;> (try have := placeFrom_le s r (i + 1)) <;> omega
/-- does a token of a kind stand at a place? -/
def isAt (l : List Tok) (i : Nat) (k : Int) : Bool := match l[i]? with | some t => decide (t.kind = k) | none => false
theorem isAt_in (l : List Tok) (i : Nat) (k : Int) (h : i < l.length) : isAt l i k = decide (l[i].kind = k) := by unfold isAt; rw [List.getElem?_eq_getElem h]
theorem isAt_out (l : List Tok) (i : Nat) (k : Int) (h : ¬ i < l.length) : isAt l i k = false := by unfold isAt; rw [List.getElem?_eq_none (by omega)]
/-- is it a Delim of some sign? -/
def signAt (l : List Tok) (i : Nat) (s : List UInt8) : Bool := match l[i]? with | some t => decide (t.kind = 19 ∧ t.text = s) | none => false
theorem signAt_in (l : List Tok) (i : Nat) (s : List UInt8) (h : i < l.length) : signAt l i s = decide (l[i].kind = 19 ∧ l[i].text = s) := by unfold signAt; rw [List.getElem?_eq_getElem h]
theorem signAt_out (l : List Tok) (i : Nat) (s : List UInt8) (h : ¬ i < l.length) : signAt l i s = false := by unfold signAt; rw [List.getElem?_eq_none (by omega)]
/-- the first place from one on that is no Space. -/
def spacesL : List Tok → Nat
  | [] => 0
  | t :: r => if t.kind = 20 then spacesL r + 1 else 0
def skipL (l : List Tok) (i : Nat) : Nat := i + spacesL (l.drop i)
theorem skipL_go (l : List Tok) (i : Nat) (h : i < l.length) (hk : l[i].kind = 20) : skipL l i = skipL l (i + 1) := by
  unfold skipL; rw [List.drop_eq_getElem_cons h, spacesL, if_pos hk]; omega
theorem skipL_stop (l : List Tok) (i : Nat) (h : i < l.length) (hk : ¬ l[i].kind = 20) : skipL l i = i := by
  unfold skipL; rw [List.drop_eq_getElem_cons h, spacesL, if_neg hk]; rfl
theorem skipL_end (l : List Tok) (i : Nat) (h : ¬ i < l.length) : skipL l i = i := by
  unfold skipL; rw [List.drop_of_length_le (by omega)]; rfl
theorem spacesL_le : ∀ l : List Tok, spacesL l ≤ l.length
  | [] => Nat.le_refl _
  | t :: r => by unfold spacesL; split <;> simp; exact spacesL_le r
theorem skipL_ge (l : List Tok) (i : Nat) : i ≤ skipL l i := Nat.le_add_right _ _
theorem skipL_le (l : List Tok) (i : Nat) (h : i ≤ l.length) : skipL l i ≤ l.length := by
  have := spacesL_le (l.drop i); unfold skipL; simp at this; omega
def zeroVal : Val := ⟨0, 0, 0, []⟩
def nAt (l : List Tok) (i : Nat) : Int := match l[i]? with | some t => t.n | none => 0
/-- behind a ratio's first number; how many tokens it takes; 0: it is none. -/
def ratioL (l : List Tok) : Val × Nat :=
  if signAt l (skipL l 1) [47] = true ∧ isAt l (skipL l (skipL l 1 + 1)) 7 = true then (⟨5, nAt l 0, nAt l (skipL l (skipL l 1 + 1)), []⟩, skipL l (skipL l 1 + 1) + 1) else (zeroVal, 0)
theorem signAt_lt {l : List Tok} {i : Nat} {s : List UInt8} (h : signAt l i s = true) : i < l.length := by
  cases Nat.lt_or_ge i l.length with
  | inl h1 => exact h1
  | inr h1 => rw [signAt_out l i s (by omega)] at h; cases h
theorem isAt_lt {l : List Tok} {i : Nat} {k : Int} (h : isAt l i k = true) : i < l.length := by
  cases Nat.lt_or_ge i l.length with
  | inl h1 => exact h1
  | inr h1 => rw [isAt_out l i k (by omega)] at h; cases h
theorem nAt_in {l : List Tok} {i : Nat} (h : i < l.length) : nAt l i = l[i].n := by unfold nAt; rw [List.getElem?_eq_getElem h]
/-- all words, and all units, from number 1 on. -/
def wordsL : List (List UInt8) := [[], [97, 117, 116, 111], [110, 111, 110, 101], [98, 108, 111, 99, 107], [102, 108, 101, 120], [99, 111, 110, 116, 101, 110, 116, 45, 98, 111, 120], [98, 111, 114, 100, 101, 114, 45, 98, 111, 120], [109, 105, 110, 45, 99, 111, 110, 116, 101, 110, 116], [109, 97, 120, 45, 99, 111, 110, 116, 101, 110, 116], [102, 105, 116, 45, 99, 111, 110, 116, 101, 110, 116], [114, 111, 119], [114, 111, 119, 45, 114, 101, 118, 101, 114, 115, 101], [99, 111, 108, 117, 109, 110], [99, 111, 108, 117, 109, 110, 45, 114, 101, 118, 101, 114, 115, 101], [110, 111, 119, 114, 97, 112], [119, 114, 97, 112], [119, 114, 97, 112, 45, 114, 101, 118, 101, 114, 115, 101], [115, 116, 97, 114, 116], [101, 110, 100], [99, 101, 110, 116, 101, 114], [115, 116, 114, 101, 116, 99, 104], [115, 112, 97, 99, 101, 45, 98, 101, 116, 119, 101, 101, 110], [115, 112, 97, 99, 101, 45, 97, 114, 111, 117, 110, 100], [115, 112, 97, 99, 101, 45, 101, 118, 101, 110, 108, 121], [110, 111, 114, 109, 97, 108], [105, 110, 108, 105, 110, 101, 45, 115, 105, 122, 101], [115, 105, 122, 101], [99, 111, 110, 116, 101, 110, 116], [105, 110, 104, 101, 114, 105, 116], [105, 110, 105, 116, 105, 97, 108], [117, 110, 115, 101, 116]]
def unitsL : List (List UInt8) := [[], [112, 120], [101, 109], [99, 113, 119], [99, 113, 104], [99, 113, 105], [99, 113, 98], [99, 113, 109, 105, 110], [99, 113, 109, 97, 120]]
theorem placeFrom_at (s : List UInt8) (l : List (List UInt8)) (k i : Nat) (h : k < l.length) : placeFrom s (l.drop k) i = if l[k] = s then i else placeFrom s (l.drop (k + 1)) (i + 1) := by
  rw [List.drop_eq_getElem_cons h, placeFrom]
theorem placeFrom_end (s : List UInt8) (l : List (List UInt8)) (k i : Nat) (h : ¬ k < l.length) : placeFrom s (l.drop k) i = 0 := by
  rw [List.drop_of_length_le (by omega), placeFrom]
/-- the text at a place of a list; empty: there is none. -/
def atL (l : List (List UInt8)) (n : Int) : List UInt8 := if 1 ≤ n ∧ n < l.length then l.getD n.toNat [] else []
end Wsc
namespace Wsc
open Go

def isSp (t : Tok) : Bool := decide (t.kind = 20)
/-- the length without the Spaces at the end, of the first n. -/
def endL (l : List Tok) : Nat → Nat
  | 0 => 0
  | n + 1 => match l[n]? with
    | some t => if t.kind = 20 then endL l n else n + 1
    | none => endL l n
/-- a list without Spaces at both ends. -/
def trimL (l : List Tok) : List Tok := (l.take (endL l l.length)).drop (spacesL l)

theorem endL_sp (l : List Tok) (n : Nat) (h : n < l.length) (hk : l[n].kind = 20) : endL l (n + 1) = endL l n := by
  rw [endL, List.getElem?_eq_getElem h]; simp [hk]
theorem endL_no (l : List Tok) (n : Nat) (h : n < l.length) (hk : ¬ l[n].kind = 20) : endL l (n + 1) = n + 1 := by
  rw [endL, List.getElem?_eq_getElem h]; simp [hk]
theorem endL_le (l : List Tok) : ∀ n, endL l n ≤ n
  | 0 => Nat.le_refl _
  | n + 1 => by
    unfold endL
    split
    · split
      · have := endL_le l n; omega
      · omega
    · have := endL_le l n; omega
theorem spacesL_get : ∀ (l : List Tok) (i : Nat) (h : i < l.length), i < spacesL l → l[i].kind = 20
  | [], i, h, _ => by simp at h
  | t :: r, 0, _, h => by
    unfold spacesL at h
    split at h
    · assumption
    · omega
  | t :: r, i + 1, hl, h => by
    unfold spacesL at h
    split at h
    · simpa using spacesL_get r i (by simpa using hl) (by omega)
    · omega
theorem spacesL_at : ∀ (l : List Tok) (h : spacesL l < l.length), ¬ l[spacesL l].kind = 20
  | [], h => by simp at h
  | t :: r, h => by
    by_cases hk : t.kind = 20
    · have e : spacesL (t :: r) = spacesL r + 1 := by rw [spacesL, if_pos hk]
      have h2 : spacesL r < r.length := by rw [e] at h; simpa using h
      have := spacesL_at r h2
      simp only [e, List.getElem_cons_succ]; exact this
    · have e : spacesL (t :: r) = 0 := by rw [spacesL, if_neg hk]
      simp only [e, List.getElem_cons_zero]; exact hk
/-- where the last that is no Space stands: from the first such on. -/
theorem endL_gt (l : List Tok) (i : Nat) (h : i < l.length) (hk : ¬ l[i].kind = 20) : ∀ n, i < n → n ≤ l.length → i < endL l n
  | 0, h1, _ => by omega
  | n + 1, h1, h2 => by
    by_cases e : n = i
    · subst e; rw [endL_no l n h hk]; omega
    · have hn : n < l.length := by omega
      by_cases hs : l[n].kind = 20
      · rw [endL_sp l n hn hs]; exact endL_gt l i h hk n (by omega) (by omega)
      · rw [endL_no l n hn hs]; omega
theorem trimL_all (l : List Tok) (h : ¬ spacesL l < l.length) : trimL l = [] := by
  unfold trimL
  rw [List.drop_of_length_le]
  simp; have := endL_le l l.length; omega
theorem trimL_length (l : List Tok) : (trimL l).length = endL l l.length - spacesL l := by
  unfold trimL; simp; have := endL_le l l.length; omega
/-- the first place of what is no Space; -1: there is none. -/
def firstOther (l : List Tok) : Int := if spacesL l < l.length then (spacesL l : Int) else -1
theorem firstOther_in (l : List Tok) (h : spacesL l < l.length) : firstOther l = (spacesL l : Int) := if_pos h
theorem firstOther_out (l : List Tok) (h : ¬ spacesL l < l.length) : firstOther l = -1 := if_neg h
/-! by steps, as the reference goes -/
theorem endL_cons (t : Tok) (r : List Tok) : ∀ n, endL (t :: r) (n + 1) = if 0 < endL r n then endL r n + 1 else (if t.kind = 20 then 0 else 1)
  | 0 => by simp [endL]
  | n + 1 => by
    rw [endL, List.getElem?_cons_succ]
    cases h : r[n]? with
    | none => simp only; rw [endL_cons t r n, endL, h]
    | some u =>
      simp only
      by_cases hu : u.kind = 20
      · rw [if_pos hu, endL_cons t r n, endL, h]; simp [hu]
      · rw [if_neg hu, endL, h]; simp [hu]
theorem trimL_front (t : Tok) (r : List Tok) (h : t.kind = 20) : trimL (t :: r) = trimL r := by
  unfold trimL
  rw [spacesL, if_pos h, List.length_cons, endL_cons, h]
  by_cases h0 : 0 < endL r r.length
  · rw [if_pos h0, List.take_succ_cons, List.drop_succ_cons]
  · rw [if_neg h0, show endL r r.length = 0 by omega]; simp
theorem endL_take (l : List Tok) (t : Tok) : ∀ n, n ≤ l.length → endL (l ++ [t]) n = endL l n
  | 0, _ => rfl
  | n + 1, h => by
    rw [endL, endL, List.getElem?_append_left (by omega), endL_take l t n (by omega)]
theorem spacesL_append (l : List Tok) (t : Tok) : spacesL (l ++ [t]) = if spacesL l < l.length then spacesL l else l.length + (if t.kind = 20 then 1 else 0) := by
  induction l with
  | nil => simp [spacesL]
  | cons x r ih =>
    by_cases hx : x.kind = 20
    · have e1 : spacesL (x :: r) = spacesL r + 1 := by rw [spacesL, if_pos hx]
      have e2 : spacesL (x :: r ++ [t]) = spacesL (r ++ [t]) + 1 := by rw [List.cons_append, spacesL, if_pos hx]
      rw [e1, e2, ih]
      simp only [List.length_cons]
      by_cases h : spacesL r < r.length
      · rw [if_pos h, if_pos (by omega)]
      · rw [if_neg h, if_neg (show ¬ spacesL r + 1 < r.length + 1 by omega)]; omega
    · have e1 : spacesL (x :: r) = 0 := by rw [spacesL, if_neg hx]
      have e2 : spacesL (x :: r ++ [t]) = 0 := by rw [List.cons_append, spacesL, if_neg hx]
      rw [e1, e2, if_pos (by simp)]
theorem trimL_back (l : List Tok) (t : Tok) (h : t.kind = 20) : trimL (l ++ [t]) = trimL l := by
  unfold trimL
  have e : endL (l ++ [t]) (l ++ [t]).length = endL l l.length := by
    rw [List.length_append, List.length_singleton, endL_sp _ _ (by simp) (by simpa using h), endL_take l t _ (Nat.le_refl _)]
  have hle := endL_le l l.length
  rw [e, spacesL_append, List.take_append_of_le_length hle]
  by_cases h2 : spacesL l < l.length
  · rw [if_pos h2]
  · rw [if_neg h2, List.drop_of_length_le (by simp; omega), List.drop_of_length_le (by simp; omega)]
theorem trimL_done (l : List Tok) (h1 : ∀ h : 0 < l.length, ¬ l[0].kind = 20) (h2 : ∀ h : 0 < l.length, ¬ (l[l.length - 1]'(by omega)).kind = 20) : trimL l = l := by
  cases l with
  | nil => rfl
  | cons x r =>
    have h1' : ¬ x.kind = 20 := h1 (Nat.succ_pos _)
    have e1 : spacesL (x :: r) = 0 := by rw [spacesL, if_neg h1']
    have e2 : endL (x :: r) (x :: r).length = (x :: r).length := endL_no (x :: r) r.length (Nat.lt_succ_self _) (h2 (Nat.succ_pos _))
    unfold trimL
    rw [e1, e2]; simp
end Wsc
namespace Wsc
open Go

def heldB (n : Int) : Bool := decide (hold n = n)
theorem heldB_iff (n : Int) : heldB n = true ↔ -1073741824 ≤ n ∧ n ≤ 1073741824 := by
  unfold heldB hold; simp; (repeat' split) <;> omega
/-- may a value be? -/
def rightV (v : Val) : Bool :=
  if v.kind = 1 then decide (1 ≤ v.n ∧ v.n ≤ 30 ∧ v.d = 0 ∧ v.name = [])
  else if v.kind = 2 then decide (heldB v.n = true ∧ 1 ≤ v.d ∧ v.d ≤ 8 ∧ v.name = [])
  else if v.kind = 3 ∨ v.kind = 4 then decide (heldB v.n = true ∧ v.d = 0 ∧ v.name = [])
  else if v.kind = 5 then decide (heldB v.n = true ∧ heldB v.d = true ∧ 0 ≤ v.n ∧ 0 ≤ v.d ∧ v.name = [])
  else if v.kind = 6 then decide (v.n = 0 ∧ v.d = 0 ∧ nameB v.name = true ∧ placeL wordsL v.name = 0)
  else false
theorem wordsL_length : wordsL.length = 31 := rfl
theorem unitsL_length : unitsL.length = 9 := rfl
theorem wordsL_ne : ∀ i : Fin 31, 1 ≤ i.val → wordsL.getD i.val [] ≠ [] := by decide
theorem unitsL_ne : ∀ i : Fin 9, 1 ≤ i.val → unitsL.getD i.val [] ≠ [] := by decide
theorem atL_words (n : Int) : atL wordsL n = [] ↔ ¬ (1 ≤ n ∧ n ≤ 30) := by
  unfold atL; rw [wordsL_length]
  by_cases h : 1 ≤ n ∧ n < (31 : Nat)
  · rw [if_pos h]
    have := wordsL_ne ⟨n.toNat, by omega⟩ (by simp; omega)
    constructor
    · intro e; exact absurd e this
    · intro e; omega
  · rw [if_neg h]; simp; omega
theorem atL_units (n : Int) : atL unitsL n = [] ↔ ¬ (1 ≤ n ∧ n ≤ 8) := by
  unfold atL; rw [unitsL_length]
  by_cases h : 1 ≤ n ∧ n < (9 : Nat)
  · rw [if_pos h]
    have := unitsL_ne ⟨n.toNat, by omega⟩ (by simp; omega)
    constructor
    · intro e; exact absurd e this
    · intro e; omega
  · rw [if_neg h]; simp; omega
/-- an Ident's value. -/
def wordV (s : List UInt8) : Val := if 0 < placeL wordsL s then ⟨1, (placeL wordsL s : Nat), 0, []⟩ else ⟨6, 0, 0, s⟩
/-- the value that a list begins with, right or not. -/
def frontL (l : List Tok) : Val × Nat :=
  match l with
  | [] => (zeroVal, 0)
  | t :: _ =>
    if t.kind = 7 then (if 0 < (ratioL l).2 then ratioL l else (⟨4, t.n, 0, []⟩, 1))
    else if t.kind = 8 then (⟨3, t.n, 0, []⟩, 1)
    else if t.kind = 9 then (⟨2, t.n, (placeL unitsL t.text : Nat), []⟩, 1)
    else if t.kind = 1 then (wordV t.text, 1)
    else (zeroVal, 0)
/-- the value that a list begins with. -/
def readL (l : List Tok) : Val × Nat := if rightV (frontL l).1 = true then frontL l else (zeroVal, 0)
theorem ratioL_le (l : List Tok) : (ratioL l).2 ≤ l.length := by
  unfold ratioL
  split
  · rename_i h; have := isAt_lt h.2; simp; omega
  · exact Nat.zero_le _
theorem frontL_le (l : List Tok) : (frontL l).2 ≤ l.length := by
  unfold frontL
  split
  · exact Nat.zero_le _
  · rename_i t r
    split
    · split
      · exact ratioL_le _
      · simp
    · split
      · simp
      · split
        · simp
        · split <;> simp
theorem readL_le (l : List Tok) : (readL l).2 ≤ l.length := by
  unfold readL; split
  · exact frontL_le l
  · exact Nat.zero_le _
/-- all values of a list, Spaces between; none: it is not that. -/
def parseF : Nat → List Tok → Option (List Val)
  | 0, _ => none
  | f + 1, l =>
    if (readL l).2 = 0 then none
    else if (readL l).2 = l.length then some [(readL l).1]
    else if skipL l (readL l).2 = (readL l).2 then none
    else (parseF f (l.drop (skipL l (readL l).2))).map fun xs => (readL l).1 :: xs
def parseL (l : List Tok) : Option (List Val) := parseF ((trimL l).length + 1) (trimL l)
theorem parseF_none1 (f : Nat) (l : List Tok) (h : (readL l).2 = 0) : parseF (f + 1) l = none := by rw [parseF, if_pos h]
theorem parseF_one (f : Nat) (l : List Tok) (h : ¬ (readL l).2 = 0) (h2 : (readL l).2 = l.length) : parseF (f + 1) l = some [(readL l).1] := by rw [parseF, if_neg h, if_pos h2]
theorem parseF_none2 (f : Nat) (l : List Tok) (h : ¬ (readL l).2 = 0) (h2 : ¬ (readL l).2 = l.length) (h3 : skipL l (readL l).2 = (readL l).2) : parseF (f + 1) l = none := by rw [parseF, if_neg h, if_neg h2, if_pos h3]
theorem parseF_more (f : Nat) (l : List Tok) (h : ¬ (readL l).2 = 0) (h2 : ¬ (readL l).2 = l.length) (h3 : ¬ skipL l (readL l).2 = (readL l).2) :
    parseF (f + 1) l = (parseF f (l.drop (skipL l (readL l).2))).map fun xs => (readL l).1 :: xs := by rw [parseF, if_neg h, if_neg h2, if_neg h3]
end Wsc
