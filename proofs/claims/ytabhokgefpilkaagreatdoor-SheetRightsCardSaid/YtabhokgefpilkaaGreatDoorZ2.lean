/-
  Texts of the proof, merged: Plain laws of layer 1: numbers held, divided downward. No program in sight.   Plain laws of names: the bytes with which
-/
import Derived.Lib.Strings
set_option linter.all false
namespace Wsc
def hold (x : Int) : Int := if x < -1073741824 then -1073741824 else if 1073741824 < x then 1073741824 else x
def floor (p d : Int) : Int := if d < 0 then (-p) / (-d) else p / d
def fpart (a n d : Int) : Int := if d = 0 then 0 else hold (floor (hold a * hold n) (hold d))
theorem hold_bd (x : Int) : -1073741824 ≤ hold x ∧ hold x ≤ 1073741824 := by unfold hold; split <;> (try split) <;> omega
end Wsc
namespace Wsc
open Go
def beginsB (n : Int) : Bool := decide (97 ≤ n ∧ n ≤ 122 ∨ 65 ≤ n ∧ n ≤ 90 ∨ n = 95 ∨ 128 ≤ n)
def goesB (n : Int) : Bool := decide (97 ≤ n ∧ n ≤ 122 ∨ 65 ≤ n ∧ n ≤ 90 ∨ n = 95 ∨ 128 ≤ n ∨ 48 ≤ n ∧ n ≤ 57 ∨ n = 45)
abbrev bn (c : UInt8) : Int := (c.toNat : Int)
def starts2 : List UInt8 → Bool
  | [] => false
  | d :: _ => decide (bn d = 45) || beginsB (bn d)
def startsL : List UInt8 → Bool
  | [] => false
  | c :: r => if bn c = 45 then starts2 r else beginsB (bn c)
def runL (l : List UInt8) : List UInt8 := l.takeWhile fun c => goesB (bn c)
def nameB (l : List UInt8) : Bool := startsL l && l.all (fun c => goesB (bn c)) && decide (l.length ≤ 32)
theorem drop_at (s : ByteArray) (k : Nat) (h : k < s.size) : s.data.toList.drop k = s[k] :: s.data.toList.drop (k + 1) := by
  rw [List.drop_eq_getElem_cons (by simpa using h)]; rfl
theorem drop_end (s : ByteArray) (k : Nat) (h : ¬ k < s.size) : s.data.toList.drop k = [] := List.drop_of_length_le (by simp; omega)
theorem startsL_end (s : ByteArray) (k : Nat) (h : ¬ k < s.size) : startsL (s.data.toList.drop k) = false := by rw [drop_end s k h]; rfl
theorem startsL_dash (s : ByteArray) (k : Nat) (h : k < s.size) (h1 : k + 1 < s.size) (e : bn s[k] = 45) : startsL (s.data.toList.drop k) = (decide (bn s[k + 1] = 45) || beginsB (bn s[k + 1])) := by
  rw [drop_at s k h, drop_at s (k + 1) h1, startsL, if_pos e]; rfl
theorem startsL_dash_end (s : ByteArray) (k : Nat) (h : k < s.size) (h1 : ¬ k + 1 < s.size) (e : bn s[k] = 45) : startsL (s.data.toList.drop k) = false := by
  rw [drop_at s k h, drop_end s (k + 1) h1, startsL, if_pos e]; rfl
theorem startsL_other (s : ByteArray) (k : Nat) (h : k < s.size) (e : bn s[k] ≠ 45) : startsL (s.data.toList.drop k) = beginsB (bn s[k]) := by
  rw [drop_at s k h, startsL, if_neg e]
theorem runL_go (s : ByteArray) (k : Nat) (h : k < s.size) (e : goesB (bn s[k]) = true) : (runL (s.data.toList.drop k)).length = (runL (s.data.toList.drop (k + 1))).length + 1 := by
  rw [drop_at s k h]; simp [runL, e]
theorem runL_stop (s : ByteArray) (k : Nat) (h : k < s.size) (e : goesB (bn s[k]) = false) : (runL (s.data.toList.drop k)).length = 0 := by
  rw [drop_at s k h]; simp [runL, e]
theorem runL_end (s : ByteArray) (k : Nat) (h : ¬ k < s.size) : (runL (s.data.toList.drop k)).length = 0 := by rw [drop_end s k h]; rfl
theorem runL_le (l : List UInt8) : (runL l).length ≤ l.length := by
  unfold runL
  induction l with
  | nil => simp
  | cons c l ih => simp only [List.takeWhile_cons]; split <;> simp; exact ih
theorem runL_all (l : List UInt8) : (decide ((runL l).length = l.length)) = l.all (fun c => goesB (bn c)) := by
  unfold runL
  induction l with
  | nil => rfl
  | cons c l ih =>
    simp only [List.takeWhile_cons, List.all_cons]
    cases h : goesB (bn c)
    · simp
    simp only [Bool.true_and]; rw [← ih]; simp
end Wsc
namespace Wsc
open Go
structure Tok where
  kind : Int
  text : List UInt8
  n : Int
deriving DecidableEq
def tk (k : Int) (t : List UInt8) (n : Int) : Tok := ⟨k, t, n⟩
structure Val where
  kind : Int
  n : Int
  d : Int
  name : List UInt8
deriving DecidableEq
def placeFrom (s : List UInt8) : List (List UInt8) → Nat → Nat
  | [], _ => 0
  | x :: r, i => if x = s then i else placeFrom s r (i + 1)
def placeL (l : List (List UInt8)) (s : List UInt8) : Nat := placeFrom s (l.drop 1) 1
def isAt (l : List Tok) (i : Nat) (k : Int) : Bool := match l[i]? with | some t => decide (t.kind = k) | none => false
theorem isAt_in (l : List Tok) (i : Nat) (k : Int) (h : i < l.length) : isAt l i k = decide (l[i].kind = k) := by unfold isAt; rw [List.getElem?_eq_getElem h]
theorem isAt_out (l : List Tok) (i : Nat) (k : Int) (h : ¬ i < l.length) : isAt l i k = false := by unfold isAt; rw [List.getElem?_eq_none (by omega)]
def signAt (l : List Tok) (i : Nat) (s : List UInt8) : Bool := match l[i]? with | some t => decide (t.kind = 19 ∧ t.text = s) | none => false
theorem signAt_in (l : List Tok) (i : Nat) (s : List UInt8) (h : i < l.length) : signAt l i s = decide (l[i].kind = 19 ∧ l[i].text = s) := by unfold signAt; rw [List.getElem?_eq_getElem h]
theorem signAt_out (l : List Tok) (i : Nat) (s : List UInt8) (h : ¬ i < l.length) : signAt l i s = false := by unfold signAt; rw [List.getElem?_eq_none (by omega)]
def spacesL : List Tok → Nat
  | [] => 0
  | t :: r => if t.kind = 20 then spacesL r + 1 else 0
def skipL (l : List Tok) (i : Nat) : Nat := i + spacesL (l.drop i)
theorem skipL_go (l : List Tok) (i : Nat) (h : i < l.length) (hk : l[i].kind = 20) : skipL l i = skipL l (i + 1) := by
  unfold skipL; rw [List.drop_eq_getElem_cons h, spacesL, if_pos hk]; omega
theorem skipL_stop (l : List Tok) (i : Nat) (h : i < l.length) (hk : ¬ l[i].kind = 20) : skipL l i = i := by
  unfold skipL; rw [List.drop_eq_getElem_cons h, spacesL, if_neg hk]; rfl
theorem skipL_end (l : List Tok) (i : Nat) (h : ¬ i < l.length) : skipL l i = i := by
  unfold skipL; rw [List.drop_of_length_le (by omega)]; rfl
theorem spacesL_le : ∀ l : List Tok, spacesL l ≤ l.length
  | [] => Nat.le_refl _
  | t :: r => by unfold spacesL; split <;> simp; exact spacesL_le r
theorem skipL_ge (l : List Tok) (i : Nat) : i ≤ skipL l i := Nat.le_add_right _ _
theorem skipL_le (l : List Tok) (i : Nat) (h : i ≤ l.length) : skipL l i ≤ l.length := by
  have := spacesL_le (l.drop i); unfold skipL; simp at this; omega
def zeroVal : Val := ⟨0, 0, 0, []⟩
def nAt (l : List Tok) (i : Nat) : Int := match l[i]? with | some t => t.n | none => 0
def ratioL (l : List Tok) : Val × Nat :=
  if signAt l (skipL l 1) [47] = true ∧ isAt l (skipL l (skipL l 1 + 1)) 7 = true then (⟨5, nAt l 0, nAt l (skipL l (skipL l 1 + 1)), []⟩, skipL l (skipL l 1 + 1) + 1) else (zeroVal, 0)
theorem signAt_lt {l : List Tok} {i : Nat} {s : List UInt8} (h : signAt l i s = true) : i < l.length := by
  cases Nat.lt_or_ge i l.length with
  | inl h1 => exact h1
  | inr h1 => rw [signAt_out l i s (by omega)] at h; cases h
theorem isAt_lt {l : List Tok} {i : Nat} {k : Int} (h : isAt l i k = true) : i < l.length := by
  cases Nat.lt_or_ge i l.length with
  | inl h1 => exact h1
  | inr h1 => rw [isAt_out l i k (by omega)] at h; cases h
theorem nAt_in {l : List Tok} {i : Nat} (h : i < l.length) : nAt l i = l[i].n := by unfold nAt; rw [List.getElem?_eq_getElem h]
def wordsL : List (List UInt8) := [[], [97, 117, 116, 111], [110, 111, 110, 101], [98, 108, 111, 99, 107], [102, 108, 101, 120], [99, 111, 110, 116, 101, 110, 116, 45, 98, 111, 120], [98, 111, 114, 100, 101, 114, 45, 98, 111, 120], [109, 105, 110, 45, 99, 111, 110, 116, 101, 110, 116], [109, 97, 120, 45, 99, 111, 110, 116, 101, 110, 116], [102, 105, 116, 45, 99, 111, 110, 116, 101, 110, 116], [114, 111, 119], [114, 111, 119, 45, 114, 101, 118, 101, 114, 115, 101], [99, 111, 108, 117, 109, 110], [99, 111, 108, 117, 109, 110, 45, 114, 101, 118, 101, 114, 115, 101], [110, 111, 119, 114, 97, 112], [119, 114, 97, 112], [119, 114, 97, 112, 45, 114, 101, 118, 101, 114, 115, 101], [115, 116, 97, 114, 116], [101, 110, 100], [99, 101, 110, 116, 101, 114], [115, 116, 114, 101, 116, 99, 104], [115, 112, 97, 99, 101, 45, 98, 101, 116, 119, 101, 101, 110], [115, 112, 97, 99, 101, 45, 97, 114, 111, 117, 110, 100], [115, 112, 97, 99, 101, 45, 101, 118, 101, 110, 108, 121], [110, 111, 114, 109, 97, 108], [105, 110, 108, 105, 110, 101, 45, 115, 105, 122, 101], [115, 105, 122, 101], [99, 111, 110, 116, 101, 110, 116], [105, 110, 104, 101, 114, 105, 116], [105, 110, 105, 116, 105, 97, 108], [117, 110, 115, 101, 116]]
def unitsL : List (List UInt8) := [[], [112, 120], [101, 109], [99, 113, 119], [99, 113, 104], [99, 113, 105], [99, 113, 98], [99, 113, 109, 105, 110], [99, 113, 109, 97, 120]]
theorem placeFrom_at (s : List UInt8) (l : List (List UInt8)) (k i : Nat) (h : k < l.length) : placeFrom s (l.drop k) i = if l[k] = s then i else placeFrom s (l.drop (k + 1)) (i + 1) := by
  rw [List.drop_eq_getElem_cons h, placeFrom]
theorem placeFrom_end (s : List UInt8) (l : List (List UInt8)) (k i : Nat) (h : ¬ k < l.length) : placeFrom s (l.drop k) i = 0 := by
  rw [List.drop_of_length_le (by omega), placeFrom]
def atL (l : List (List UInt8)) (n : Int) : List UInt8 := if 1 ≤ n ∧ n < l.length then l.getD n.toNat [] else []
end Wsc
namespace Wsc
open Go
def isSp (t : Tok) : Bool := decide (t.kind = 20)
def endL (l : List Tok) : Nat → Nat
  | 0 => 0
  | n + 1 => match l[n]? with
    | some t => if t.kind = 20 then endL l n else n + 1
    | none => endL l n
def trimL (l : List Tok) : List Tok := (l.take (endL l l.length)).drop (spacesL l)
theorem endL_sp (l : List Tok) (n : Nat) (h : n < l.length) (hk : l[n].kind = 20) : endL l (n + 1) = endL l n := by
  rw [endL, List.getElem?_eq_getElem h]; simp [hk]
theorem endL_no (l : List Tok) (n : Nat) (h : n < l.length) (hk : ¬ l[n].kind = 20) : endL l (n + 1) = n + 1 := by
  rw [endL, List.getElem?_eq_getElem h]; simp [hk]
theorem endL_le (l : List Tok) : ∀ n, endL l n ≤ n
  | 0 => Nat.le_refl _
  | n + 1 => by
    unfold endL
    split
    · split
      · have := endL_le l n; omega
      · omega
    have := endL_le l n; omega
theorem spacesL_get : ∀ (l : List Tok) (i : Nat) (h : i < l.length), i < spacesL l → l[i].kind = 20
  | [], i, h, _ => by simp at h
  | t :: r, 0, _, h => by
    unfold spacesL at h
    split at h
    · assumption
    omega
  | t :: r, i + 1, hl, h => by
    unfold spacesL at h
    split at h
    · simpa using spacesL_get r i (by simpa using hl) (by omega)
    omega
theorem spacesL_at : ∀ (l : List Tok) (h : spacesL l < l.length), ¬ l[spacesL l].kind = 20
  | [], h => by simp at h
  | t :: r, h => by
    by_cases hk : t.kind = 20
    · have e : spacesL (t :: r) = spacesL r + 1 := by rw [spacesL, if_pos hk]
      have h2 : spacesL r < r.length := by rw [e] at h; simpa using h
      have := spacesL_at r h2
      simp only [e, List.getElem_cons_succ]; exact this
    have e : spacesL (t :: r) = 0 := by rw [spacesL, if_neg hk]
    simp only [e, List.getElem_cons_zero]; exact hk
theorem endL_gt (l : List Tok) (i : Nat) (h : i < l.length) (hk : ¬ l[i].kind = 20) : ∀ n, i < n → n ≤ l.length → i < endL l n
  | 0, h1, _ => by omega
  | n + 1, h1, h2 => by
    by_cases e : n = i
    · subst e; rw [endL_no l n h hk]; omega
    have hn : n < l.length := by omega
    by_cases hs : l[n].kind = 20
    · rw [endL_sp l n hn hs]; exact endL_gt l i h hk n (by omega) (by omega)
    rw [endL_no l n hn hs]; omega
theorem trimL_all (l : List Tok) (h : ¬ spacesL l < l.length) : trimL l = [] := by
  unfold trimL
  rw [List.drop_of_length_le]
  simp; have := endL_le l l.length; omega
theorem trimL_length (l : List Tok) : (trimL l).length = endL l l.length - spacesL l := by
  unfold trimL; simp; have := endL_le l l.length; omega
def firstOther (l : List Tok) : Int := if spacesL l < l.length then (spacesL l : Int) else -1
theorem firstOther_in (l : List Tok) (h : spacesL l < l.length) : firstOther l = (spacesL l : Int) := if_pos h
theorem firstOther_out (l : List Tok) (h : ¬ spacesL l < l.length) : firstOther l = -1 := if_neg h
end Wsc
namespace Wsc
open Go
def heldB (n : Int) : Bool := decide (hold n = n)
theorem heldB_iff (n : Int) : heldB n = true ↔ -1073741824 ≤ n ∧ n ≤ 1073741824 := by
  unfold heldB hold; simp; (repeat' split) <;> omega
def rightV (v : Val) : Bool :=
  if v.kind = 1 then decide (1 ≤ v.n ∧ v.n ≤ 30 ∧ v.d = 0 ∧ v.name = [])
  else if v.kind = 2 then decide (heldB v.n = true ∧ 1 ≤ v.d ∧ v.d ≤ 8 ∧ v.name = [])
  else if v.kind = 3 ∨ v.kind = 4 then decide (heldB v.n = true ∧ v.d = 0 ∧ v.name = [])
  else if v.kind = 5 then decide (heldB v.n = true ∧ heldB v.d = true ∧ 0 ≤ v.n ∧ 0 ≤ v.d ∧ v.name = [])
  else if v.kind = 6 then decide (v.n = 0 ∧ v.d = 0 ∧ nameB v.name = true ∧ placeL wordsL v.name = 0)
  else false
theorem wordsL_length : wordsL.length = 31 := rfl
theorem unitsL_length : unitsL.length = 9 := rfl
theorem wordsL_ne : ∀ i : Fin 31, 1 ≤ i.val → wordsL.getD i.val [] ≠ [] := by decide
theorem unitsL_ne : ∀ i : Fin 9, 1 ≤ i.val → unitsL.getD i.val [] ≠ [] := by decide
theorem atL_words (n : Int) : atL wordsL n = [] ↔ ¬ (1 ≤ n ∧ n ≤ 30) := by
  unfold atL; rw [wordsL_length]
  by_cases h : 1 ≤ n ∧ n < (31 : Nat)
  · rw [if_pos h]
    have := wordsL_ne ⟨n.toNat, by omega⟩ (by simp; omega)
    constructor
    · intro e; exact absurd e this
    · intro e; omega
  rw [if_neg h]; simp; omega
theorem atL_units (n : Int) : atL unitsL n = [] ↔ ¬ (1 ≤ n ∧ n ≤ 8) := by
  unfold atL; rw [unitsL_length]
  by_cases h : 1 ≤ n ∧ n < (9 : Nat)
  · rw [if_pos h]
    have := unitsL_ne ⟨n.toNat, by omega⟩ (by simp; omega)
    constructor
    · intro e; exact absurd e this
    · intro e; omega
  rw [if_neg h]; simp; omega
def wordV (s : List UInt8) : Val := if 0 < placeL wordsL s then ⟨1, (placeL wordsL s : Nat), 0, []⟩ else ⟨6, 0, 0, s⟩
def frontL (l : List Tok) : Val × Nat :=
  match l with
  | [] => (zeroVal, 0)
  | t :: _ =>
    if t.kind = 7 then (if 0 < (ratioL l).2 then ratioL l else (⟨4, t.n, 0, []⟩, 1))
    else if t.kind = 8 then (⟨3, t.n, 0, []⟩, 1)
    else if t.kind = 9 then (⟨2, t.n, (placeL unitsL t.text : Nat), []⟩, 1)
    else if t.kind = 1 then (wordV t.text, 1)
    else (zeroVal, 0)
def readL (l : List Tok) : Val × Nat := if rightV (frontL l).1 = true then frontL l else (zeroVal, 0)
theorem ratioL_le (l : List Tok) : (ratioL l).2 ≤ l.length := by
  unfold ratioL
  split
  · rename_i h; have := isAt_lt h.2; simp; omega
  exact Nat.zero_le _
theorem frontL_le (l : List Tok) : (frontL l).2 ≤ l.length := by
  unfold frontL
  split
  · exact Nat.zero_le _
  rename_i t r
  split
  · split
    · exact ratioL_le _
    · simp
  split
  · simp
  split
  · simp
  split <;> simp
theorem readL_le (l : List Tok) : (readL l).2 ≤ l.length := by
  unfold readL; split
  · exact frontL_le l
  exact Nat.zero_le _
def parseF : Nat → List Tok → Option (List Val)
  | 0, _ => none
  | f + 1, l =>
    if (readL l).2 = 0 then none
    else if (readL l).2 = l.length then some [(readL l).1]
    else if skipL l (readL l).2 = (readL l).2 then none
    else (parseF f (l.drop (skipL l (readL l).2))).map fun xs => (readL l).1 :: xs
def parseL (l : List Tok) : Option (List Val) := parseF ((trimL l).length + 1) (trimL l)
theorem parseF_none1 (f : Nat) (l : List Tok) (h : (readL l).2 = 0) : parseF (f + 1) l = none := by rw [parseF, if_pos h]
theorem parseF_one (f : Nat) (l : List Tok) (h : ¬ (readL l).2 = 0) (h2 : (readL l).2 = l.length) : parseF (f + 1) l = some [(readL l).1] := by rw [parseF, if_neg h, if_pos h2]
theorem parseF_none2 (f : Nat) (l : List Tok) (h : ¬ (readL l).2 = 0) (h2 : ¬ (readL l).2 = l.length) (h3 : skipL l (readL l).2 = (readL l).2) : parseF (f + 1) l = none := by rw [parseF, if_neg h, if_neg h2, if_pos h3]
theorem parseF_more (f : Nat) (l : List Tok) (h : ¬ (readL l).2 = 0) (h2 : ¬ (readL l).2 = l.length) (h3 : ¬ skipL l (readL l).2 = (readL l).2) :
    parseF (f + 1) l = (parseF f (l.drop (skipL l (readL l).2))).map fun xs => (readL l).1 :: xs := by rw [parseF, if_neg h, if_neg h2, if_neg h3]
end Wsc
namespace Wsc
def closeP (k : Int) : Int := if k = 13 ∨ k = 2 then 14 else if k = 15 then 16 else if k = 17 then 18 else 0
def stkL : List Int → List Tok → Nat
  | _, [] => 0
  | st, t :: r =>
    if 0 < closeP t.kind then stkL (closeP t.kind :: st) r + 1
    else match st with
      | [] => stkL [] r + 1
      | c :: s2 => if t.kind = c then (if s2 = [] then 0 else stkL s2 r + 1) else stkL (c :: s2) r + 1
theorem stkL_le : ∀ (l : List Tok) (st : List Int), stkL st l ≤ l.length
  | [], _ => Nat.le_refl _
  | t :: r, st => by
    unfold stkL
    split
    · have := stkL_le r (closeP t.kind :: st); simp; omega
    split
    · have := stkL_le r []; simp; omega
    rename_i c s2
    split
    · split
      · simp
      · have := stkL_le r s2; simp; omega
    have := stkL_le r (c :: s2); simp; omega
def matchL (l : List Tok) (i : Nat) : Nat := match l[i]? with | some t => if closeP t.kind = 0 then i else i + stkL [] (l.drop i) | none => i
theorem matchL_le (l : List Tok) (i : Nat) (h : i ≤ l.length) : matchL l i ≤ l.length := by
  unfold matchL
  split
  · split
    · exact h
    · have := stkL_le (l.drop i) []; rw [List.length_drop] at this; omega
  exact h
theorem matchL_ge (l : List Tok) (i : Nat) : i ≤ matchL l i := by
  unfold matchL
  split
  · split <;> omega
  omega
def firstF (is : Tok → Bool) (l : List Tok) : Nat → Nat → Nat
  | 0, i => i
  | f + 1, i => match l[i]? with | none => i | some t => if is t = true then i else firstF is l f (min (matchL l i + 1) l.length)
def firstL (is : Tok → Bool) (l : List Tok) (i : Nat) : Nat := firstF is l (l.length - i) i
theorem firstF_fuel (is : Tok → Bool) (l : List Tok) : ∀ (f g i : Nat), l.length - i ≤ f → l.length - i ≤ g → firstF is l f i = firstF is l g i
  | 0, 0, _, _, _ => rfl
  | 0, g + 1, i, h, _ => by
    unfold firstF
    rw [List.getElem?_eq_none (by omega)]
  | f + 1, 0, i, _, h => by
    unfold firstF
    rw [List.getElem?_eq_none (by omega)]
  | f + 1, g + 1, i, h1, h2 => by
    unfold firstF
    cases hl : l[i]? with
    | none => rfl
    | some t =>
      simp only
      have hi : i < l.length := (List.getElem?_eq_some_iff.1 hl).1
      have := matchL_ge l i
      split
      · rfl
      exact firstF_fuel is l f g _ (by omega) (by omega)
theorem firstL_stop (is : Tok → Bool) (l : List Tok) (i : Nat) (h : i < l.length) (ht : is l[i] = true) : firstL is l i = i := by
  unfold firstL
  obtain ⟨f, hf⟩ : ∃ f, l.length - i = f + 1 := ⟨l.length - i - 1, by omega⟩
  rw [hf]
  unfold firstF
  rw [List.getElem?_eq_getElem h]
  simp only
  rw [if_pos ht]
theorem firstL_go (is : Tok → Bool) (l : List Tok) (i : Nat) (h : i < l.length) (ht : is l[i] = false) : firstL is l i = firstL is l (min (matchL l i + 1) l.length) := by
  unfold firstL
  obtain ⟨f, hf⟩ : ∃ f, l.length - i = f + 1 := ⟨l.length - i - 1, by omega⟩
  rw [hf]
  have hge := matchL_ge l i
  conv => lhs; unfold firstF
  rw [List.getElem?_eq_getElem h]
  simp only
  rw [if_neg (by rw [ht]; simp)]
  exact firstF_fuel is l _ _ _ (by omega) (Nat.le_refl _)
theorem firstL_end (is : Tok → Bool) (l : List Tok) (i : Nat) (h : ¬ i < l.length) : firstL is l i = i := by
  unfold firstL
  rw [show l.length - i = 0 by omega]
  rfl
theorem firstF_le (is : Tok → Bool) (l : List Tok) : ∀ (f i : Nat), i ≤ l.length → firstF is l f i ≤ l.length
  | 0, _, h => h
  | f + 1, i, h => by
    unfold firstF
    split
    · exact h
    split
    · exact h
    exact firstF_le is l f _ (by omega)
theorem firstL_le (is : Tok → Bool) (l : List Tok) (i : Nat) (h : i ≤ l.length) : firstL is l i ≤ l.length := firstF_le is l _ i h
theorem firstF_ge (is : Tok → Bool) (l : List Tok) : ∀ (f i : Nat), i ≤ l.length → i ≤ firstF is l f i
  | 0, _, _ => Nat.le_refl _
  | f + 1, i, h => by
    unfold firstF
    split
    · exact Nat.le_refl _
    rename_i t hl
    have hi : i < l.length := (List.getElem?_eq_some_iff.1 hl).1
    split
    · exact Nat.le_refl _
    have := matchL_ge l i
    have := firstF_ge is l f (min (matchL l i + 1) l.length) (by omega)
    omega
theorem firstL_ge (is : Tok → Bool) (l : List Tok) (i : Nat) (h : i ≤ l.length) : i ≤ firstL is l i := firstF_ge is l _ i h
def piecesF (is : Tok → Bool) : Nat → List Tok → List (List Tok)
  | 0, l => [l]
  | f + 1, l => if firstL is l 0 = l.length then [l] else l.take (firstL is l 0) :: piecesF is f (l.drop (firstL is l 0 + 1))
def piecesL (is : Tok → Bool) (l : List Tok) : List (List Tok) := piecesF is l.length l
theorem piecesF_fuel (is : Tok → Bool) : ∀ (f g : Nat) (l : List Tok), l.length ≤ f → l.length ≤ g → piecesF is f l = piecesF is g l
  | 0, 0, _, _, _ => rfl
  | 0, g + 1, l, h, _ => by
    obtain rfl : l = [] := List.eq_nil_of_length_eq_zero (by omega)
    rfl
  | f + 1, 0, l, _, h => by
    obtain rfl : l = [] := List.eq_nil_of_length_eq_zero (by omega)
    rfl
  | f + 1, g + 1, l, h1, h2 => by
    unfold piecesF
    split
    · rfl
    rename_i hne
    have := firstL_le is l 0 (Nat.zero_le _)
    rw [piecesF_fuel is f g (l.drop (firstL is l 0 + 1)) (by rw [List.length_drop]; omega) (by rw [List.length_drop]; omega)]
theorem piecesL_end (is : Tok → Bool) (l : List Tok) (h : firstL is l 0 = l.length) : piecesL is l = [l] := by
  unfold piecesL
  cases hl : l.length with
  | zero => rfl
  | succ f => unfold piecesF; rw [if_pos h]
theorem piecesL_go (is : Tok → Bool) (l : List Tok) (h : firstL is l 0 ≠ l.length) : piecesL is l = l.take (firstL is l 0) :: piecesL is (l.drop (firstL is l 0 + 1)) := by
  have hle := firstL_le is l 0 (Nat.zero_le _)
  obtain ⟨f, hf⟩ : ∃ f, l.length = f + 1 := ⟨l.length - 1, by omega⟩
  unfold piecesL
  rw [hf]
  conv => lhs; unfold piecesF
  rw [if_neg h]
  congr 1
  exact piecesF_fuel is _ _ _ (by rw [List.length_drop]; omega) (Nat.le_refl _)
structure RawM where
  at_ : List UInt8
  head : List Tok
  body : List Tok
  block : Bool
def endsB (at_ : Bool) (t : Tok) : Bool := decide (t.kind = 17) || (at_ && decide (t.kind = 11))
def textAt (l : List Tok) (i : Nat) : List UInt8 := match l[i]? with | some t => t.text | none => []
def ruleP (l : List Tok) (at_ : Nat) : RawM × Nat :=
  let is := isAt l at_ 3
  let a1 := if is = true then at_ + 1 else at_
  let fin := firstL (endsB is) l a1
  let nm := if is = true then textAt l at_ else []
  let head := trimL ((l.take fin).drop a1)
  if fin = l.length then (⟨nm, head, [], false⟩, fin)
  else if isAt l fin 11 = true then (⟨nm, head, [], false⟩, fin + 1)
  else (⟨nm, head, (l.take (matchL l fin)).drop (fin + 1), true⟩, min (matchL l fin + 1) l.length)
theorem ruleP_gt (l : List Tok) (a : Nat) (h : a < l.length) : a < (ruleP l a).2 ∧ (ruleP l a).2 ≤ l.length := by
  unfold ruleP
  simp only
  have h1 : ∀ a1, a1 ≤ l.length → a1 ≤ firstL (endsB (isAt l a 3)) l a1 ∧ firstL (endsB (isAt l a 3)) l a1 ≤ l.length := fun a1 ha => ⟨firstL_ge _ l a1 ha, firstL_le _ l a1 ha⟩
  cases hi : isAt l a 3
  · rw [hi] at h1
    have := h1 a (by omega)
    have := matchL_ge l (firstL (endsB false) l a)
    have := matchL_le l (firstL (endsB false) l a) (by omega)
    simp only [Bool.false_eq_true, if_false]
    split
    · simp only; omega
    · split
      · simp only; omega
      · simp only; omega
  rw [hi] at h1
  have := h1 (a + 1) (by omega)
  have := matchL_ge l (firstL (endsB true) l (a + 1))
  have := matchL_le l (firstL (endsB true) l (a + 1)) (by omega)
  simp only [if_true]
  split
  · simp only; omega
  split
  · simp only; omega
  simp only; omega
def rulesF (l : List Tok) : Nat → Nat → List RawM
  | 0, _ => []
  | f + 1, i => if skipL l i < l.length then (if (isAt l (skipL l i) 3 || (ruleP l (skipL l i)).1.block) = true then [(ruleP l (skipL l i)).1] else []) ++ rulesF l f (ruleP l (skipL l i)).2 else []
def rulesP (l : List Tok) : List RawM := rulesF l (l.length + 1) 0
theorem rulesF_fuel (l : List Tok) : ∀ (f g i : Nat), l.length - i < f → l.length - i < g → rulesF l f i = rulesF l g i
  | 0, _, _, h, _ => by omega
  | _, 0, _, _, h => by omega
  | f + 1, g + 1, i, h1, h2 => by
    unfold rulesF
    split
    · rename_i hs
      have := skipL_ge l i
      have := ruleP_gt l (skipL l i) hs
      rw [rulesF_fuel l f g _ (by omega) (by omega)]
    rfl
structure RawDM where
  name : List UInt8
  value : List Tok
  imp : Bool
def loudB (t : Tok) : Bool := decide (t.kind = 19) && decide (t.text = [33])
def impT : List UInt8 := [105, 109, 112, 111, 114, 116, 97, 110, 116]
def impP (l : List Tok) : List Tok × Bool :=
  match l.getLast? with
  | none => (l, false)
  | some t => if t.kind = 1 ∧ t.text = impT then
      (match (trimL l.dropLast).getLast? with
        | none => (l, false)
        | some u => if loudB u = true then (trimL (trimL l.dropLast).dropLast, true) else (l, false))
    else (l, false)
def declP (piece : List Tok) : Option RawDM :=
  let l := trimL piece
  if isAt l 0 1 = true then
    (if isAt l (skipL l 1) 10 = true then
      (let v := impP (trimL (l.drop (skipL l 1 + 1)))
       if v.1 = [] ∨ v.1.any (fun t => decide (t.kind = 6)) = true ∨ firstL loudB v.1 0 < v.1.length then none else some ⟨textAt l 0, v.1, v.2⟩)
     else none)
  else none
def declsP (l : List Tok) : List RawDM := (piecesL (fun t => decide (t.kind = 11)) l).filterMap declP
end Wsc
namespace Wsc
theorem stkL_open (st : List Int) (t : Tok) (r : List Tok) (h : 0 < closeP t.kind) : stkL st (t :: r) = stkL (closeP t.kind :: st) r + 1 := by
  conv => lhs; unfold stkL
  rw [if_pos h]
theorem stkL_last (c : Int) (t : Tok) (r : List Tok) (h : ¬ 0 < closeP t.kind) (hk : t.kind = c) : stkL [c] (t :: r) = 0 := by
  unfold stkL
  rw [if_neg h]
  simp [hk]
theorem stkL_pop (c : Int) (s2 : List Int) (t : Tok) (r : List Tok) (h : ¬ 0 < closeP t.kind) (hk : t.kind = c) (h2 : s2 ≠ []) : stkL (c :: s2) (t :: r) = stkL s2 r + 1 := by
  conv => lhs; unfold stkL
  rw [if_neg h]
  simp [hk, h2]
theorem stkL_pass (c : Int) (s2 : List Int) (t : Tok) (r : List Tok) (h : ¬ 0 < closeP t.kind) (hk : ¬ t.kind = c) : stkL (c :: s2) (t :: r) = stkL (c :: s2) r + 1 := by
  conv => lhs; unfold stkL
  rw [if_neg h]
  simp [hk]
theorem closeP_cases (k : Int) : closeP k = 0 ∨ closeP k = 14 ∨ closeP k = 16 ∨ closeP k = 18 := by
  unfold closeP
  split
  · simp
  split
  · simp
  split <;> simp
theorem closeP_nonneg (k : Int) : 0 ≤ closeP k := by rcases closeP_cases k with h | h | h | h <;> rw [h] <;> decide
theorem match_open (l : List Tok) (i : Nat) (h : i < l.length) (hc : closeP l[i].kind ≠ 0) : matchL l i = i + 1 + stkL [closeP l[i].kind] (l.drop (i + 1)) := by
  have hp : 0 < closeP l[i].kind := by have := closeP_nonneg l[i].kind; omega
  unfold matchL
  rw [List.getElem?_eq_getElem h]
  simp only
  rw [if_neg hc, List.drop_eq_getElem_cons h, stkL_open _ _ _ hp]
  omega
theorem match_shut (l : List Tok) (i : Nat) (h : i < l.length) (hc : closeP l[i].kind = 0) : matchL l i = i := by
  unfold matchL
  rw [List.getElem?_eq_getElem h]
  simp only
  rw [if_pos hc]
theorem match_out (l : List Tok) (i : Nat) (h : ¬ i < l.length) : matchL l i = i := by
  unfold matchL
  rw [List.getElem?_eq_none (by omega)]
end Wsc
namespace Wsc
open Go
structure NodeM where
  parent : Int
  tag : List UInt8
  id : List UInt8
  classes : List (List UInt8)
  attrs : List (List UInt8 × List UInt8)
  text : List UInt8
  ca : Option Addr
  cc : Nat
  aa : Option Addr
  ac : Nat
def plainC (c : UInt8) : Bool := !(decide (bn c < 32) || decide (bn c = 34))
def textB (l : List UInt8) : Bool := l.all plainC && decide (l.length ≤ 256)
end Wsc
namespace Wsc
structure TestM where
  name : List UInt8
  equal : Bool
  value : List UInt8
  deriving DecidableEq
structure PartM where
  comb : Int
  tag : List UInt8
  id : List UInt8
  classes : List (List UInt8)
  tests : List TestM
  states : Int
  deriving DecidableEq
def testB (t : TestM) : Bool := nameB t.name && textB t.value && (t.equal || decide (t.value = []))
def partB (p : PartM) : Bool :=
  (decide (p.tag = []) || nameB p.tag) && (decide (p.id = []) || nameB p.id) && decide (0 ≤ p.states ∧ p.states ≤ 7) && decide (p.classes.length ≤ 8 ∧ p.tests.length ≤ 8) && p.classes.all nameB && p.tests.all testB
def selB (s : List PartM) : Bool :=
  decide (s ≠ [] ∧ s.length ≤ 8) && s.all partB && (s.zipIdx).all fun x => if x.2 = 0 then decide (x.1.comb = 0) else decide (1 ≤ x.1.comb ∧ x.1.comb ≤ 4)
end Wsc
namespace Wsc
structure BoundM where
  op : Int
  n : Int
  d : Int
  deriving DecidableEq
structure QNodeM where
  kind : Int
  count : Int
  feat : Int
  lo : BoundM
  hi : BoundM
  deriving DecidableEq
def noBound : BoundM := ⟨0, 0, 0⟩
def andT : List UInt8 := [97, 110, 100]
def orT : List UInt8 := [111, 114]
def notT : List UInt8 := [110, 111, 116]
def noneT : List UInt8 := [110, 111, 110, 101]
def reservedB (s : List UInt8) : Bool := decide (s = andT) || decide (s = orT) || decide (s = notT) || decide (s = noneT)
def valueB (f : Int) (b : BoundM) : Bool :=
  if f = 5 then decide (1 ≤ b.n ∧ b.n ≤ 1073741824 ∧ 1 ≤ b.d ∧ b.d ≤ 1073741824)
  else if f = 6 then decide (b.op = 3) && decide (b.n = 1 ∨ b.n = 2) && decide (b.d = 0)
  else decide (b.n = hold b.n) && decide (b.d = 0)
def downB (op : Int) : Bool := decide (op = 1) || decide (op = 2)
def upQ (op : Int) : Bool := decide (op = 4) || decide (op = 5)
def fitsB (n : QNodeM) : Bool :=
  if n.hi = noBound then decide (n.lo = noBound)
  else if n.hi.op < 1 ∨ 5 < n.hi.op ∨ valueB n.feat n.hi = false then false
  else if n.lo = noBound then true
  else ((downB n.lo.op && downB n.hi.op) || (upQ n.lo.op && upQ n.hi.op)) && decide (n.feat ≠ 6) && valueB n.feat n.lo
def rightQ (n : QNodeM) : Bool :=
  if n.kind = 4 then decide (n.count = 0) && decide (1 ≤ n.feat ∧ n.feat ≤ 6) && fitsB n
  else if n.feat ≠ 0 ∨ n.lo ≠ noBound ∨ n.hi ≠ noBound then false
  else if n.kind = 3 then decide (n.count = 1)
  else decide (n.kind = 1 ∨ n.kind = 2) && decide (2 ≤ n.count)
def hasQ (n : QNodeM) : Int := if n.kind = 1 ∨ n.kind = 2 then max n.count 0 else if n.kind = 3 then 1 else if n.kind = 4 then 0 else -1
def spanF (q : List QNodeM) : Nat → Int → Nat → Nat
  | 0, _, _ => 0
  | f + 1, left, i => if left ≤ 0 then i else match q[i]? with
    | none => 0
    | some n => if hasQ n < 0 then 0 else spanF q f (left + min (hasQ n) q.length - 1) (i + 1)
def spanP (q : List QNodeM) : Nat := spanF q (q.length + 2) 1 0
structure QueryM where
  name : List UInt8
  nodes : List QNodeM
  deriving DecidableEq
def queryB (q : QueryM) : Bool :=
  (decide (q.name = []) || (nameB q.name && !(reservedB q.name))) && decide (q.nodes ≠ [] ∧ q.nodes.length ≤ 32 ∧ spanP q.nodes = q.nodes.length) && q.nodes.all rightQ
def doneB (l : List Tok) (a : Nat) : Bool := decide (skipL l a = l.length)
def pxT : List UInt8 := [112, 120]
end Wsc
namespace Wsc
open Go
def wd (k : Nat) : List UInt8 := wordsL.getD k []
def textV (v : Val) : List UInt8 := atL wordsL v.n
def oneB (v : Val) (ks : List Nat) : Bool := decide (v.kind = 1) && ks.any fun k => decide (wd k = textV v)
def extentB (v : Val) : Bool := decide (v.kind = 2) || decide (v.kind = 3)
def upB (v : Val) : Bool := extentB v && decide (0 ≤ v.n)
def amountB (v : Val) : Bool := decide (v.kind = 4) && decide (0 ≤ v.n)
def sizedB (p : Int) (v : Val) : Bool :=
  upB v || (if p = 3 ∨ p = 5 then oneB v [1, 7, 8, 9] else if p = 7 then oneB v [2, 7, 8, 9] else if p = 8 then oneB v [2] else oneB v [1])
def edgedB (p : Int) (v : Val) : Bool :=
  if p < 13 then extentB v || oneB v [1] else if p < 17 then upB v else upB v && decide (v.kind = 2)
def flexedB (p : Int) (v : Val) : Bool :=
  if p = 22 then oneB v [10, 11, 12, 13]
  else if p = 23 then oneB v [14, 15, 16]
  else if p = 24 ∨ p = 25 then amountB v
  else if p = 26 then upB v || oneB v [1, 27]
  else decide (v.kind = 4) && decide (v.n.tmod 1000 = 0)
def alignedB (p : Int) (v : Val) : Bool :=
  if p = 28 then oneB v [17, 18, 19, 21, 22, 23]
  else if p = 29 then oneB v [20, 17, 18, 19]
  else if p = 30 then oneB v [1, 20, 17, 18, 19]
  else if p = 31 then oneB v [20, 17, 18, 19, 21, 22, 23]
  else if p = 32 ∨ p = 33 then upB v || oneB v [24]
  else if p = 34 then oneB v [24, 25, 26]
  else if p = 35 then decide (v.kind = 6) || oneB v [2]
  else if p = 36 then upB v
  else amountB v || oneB v [24]
def takesM (p : Int) (v : Val) : Bool :=
  if p < 1 ∨ 37 < p ∨ rightV v = false then false
  else if oneB v [28, 29, 30] = true then true
  else if p = 1 then oneB v [3, 4, 2]
  else if p = 2 then oneB v [5, 6]
  else if p < 9 then sizedB p v
  else if p < 21 then edgedB p v
  else if p = 21 then oneB v [1] || (decide (v.kind = 4) && decide (0 < v.n)) || (decide (v.kind = 5) && decide (0 < v.n) && decide (0 < v.d))
  else if p < 28 then flexedB p v
  else alignedB p v
structure Sty where
  f : Nat → Int
  b : Bool
  nm : List UInt8
end Wsc
namespace Wsc
open Go
def wordsP (p : Int) : List Nat :=
  if p = 1 then [3, 4, 2] else if p = 2 then [5, 6] else if p = 3 ∨ p = 5 then [1, 7, 8, 9]
  else if p = 4 ∨ p = 6 ∨ p = 9 ∨ p = 10 ∨ p = 11 ∨ p = 12 ∨ p = 21 then [1]
  else if p = 7 then [2, 7, 8, 9] else if p = 8 ∨ p = 35 then [2] else if p = 22 then [10, 11, 12, 13] else if p = 23 then [14, 15, 16] else if p = 26 then [1, 27]
  else if p = 28 then [17, 18, 19, 21, 22, 23] else if p = 29 then [20, 17, 18, 19] else if p = 30 then [1, 20, 17, 18, 19] else if p = 31 then [20, 17, 18, 19, 21, 22, 23]
  else if p = 32 ∨ p = 33 ∨ p = 37 then [24] else if p = 34 then [24, 25, 26] else []
def otherP (p : Int) (v : Val) : Bool :=
  if (3 ≤ p ∧ p ≤ 8) ∨ (13 ≤ p ∧ p ≤ 16) ∨ p = 26 ∨ p = 32 ∨ p = 33 ∨ p = 36 then upB v
  else if 9 ≤ p ∧ p ≤ 12 then extentB v
  else if 17 ≤ p ∧ p ≤ 20 then decide (v.kind = 2) && decide (0 ≤ v.n)
  else if p = 24 ∨ p = 25 ∨ p = 37 then amountB v
  else if p = 27 then decide (v.kind = 4) && decide (v.n.tmod 1000 = 0)
  else if p = 21 then (decide (v.kind = 4) && decide (0 < v.n)) || (decide (v.kind = 5) && decide (0 < v.n) && decide (0 < v.d))
  else if p = 35 then decide (v.kind = 6)
  else false
def refTakesM (p : Int) (v : Val) : Bool :=
  if p < 1 ∨ 37 < p ∨ rightV v = false then false
  else if v.kind = 1 then decide (28 ≤ v.n) || (wordsP p).any fun k => decide (wd k = textV v)
  else otherP p v
theorem one_other (v : Val) (ks : List Nat) (h : v.kind ≠ 1) : oneB v ks = false := by unfold oneB; simp [h]
set_option maxRecDepth 100000 in
theorem takes_words : ∀ p : Fin 38, ∀ n : Fin 31, 1 ≤ p.val → 1 ≤ n.val → takesM (p.val : Int) ⟨1, (n.val : Int), 0, []⟩ = refTakesM (p.val : Int) ⟨1, (n.val : Int), 0, []⟩ := by decide +kernel
theorem takes_same (p : Int) (v : Val) : takesM p v = refTakesM p v := by
  by_cases h1 : p < 1 ∨ 37 < p ∨ rightV v = false
  · unfold takesM refTakesM; rw [if_pos h1, if_pos h1]
  have hr : rightV v = true := by
    cases h : rightV v
    · exact absurd (Or.inr (Or.inr h)) h1
    rfl
  by_cases hk : v.kind = 1
  · obtain ⟨k, n, d, nm⟩ := v
    simp only at hk
    subst hk
    unfold rightV at hr
    simp at hr
    obtain ⟨a1, a2, rfl, rfl⟩ := hr
    have := takes_words ⟨p.toNat, by omega⟩ ⟨n.toNat, by omega⟩ (by show 1 ≤ p.toNat; omega) (by show 1 ≤ n.toNat; omega)
    simp only at this
    rw [show ((p.toNat : Nat) : Int) = p by omega, show ((n.toNat : Nat) : Int) = n by omega] at this
    exact this
  unfold takesM refTakesM
  rw [if_neg h1, if_neg h1, if_neg hk, one_other v _ hk, if_neg (by simp)]
  unfold sizedB edgedB flexedB alignedB otherP upB extentB amountB
  simp only [one_other v _ hk, Bool.or_false, Bool.false_or]
  have hp : 1 ≤ p ∧ p ≤ 37 := by omega
  by_cases e1 : p = 1
  · subst e1; simp
  by_cases e2 : p = 2
  · subst e2; simp
  by_cases e3 : p < 9
  · have h0 : (if p = 3 ∨ p = 5 then false else if p = 7 then false else if p = 8 then false else false) = false := by (repeat' split) <;> rfl
    rw [if_neg e1, if_neg e2, if_pos e3, h0, Bool.or_false, if_pos (show (3 ≤ p ∧ p ≤ 8) ∨ (13 ≤ p ∧ p ≤ 16) ∨ p = 26 ∨ p = 32 ∨ p = 33 ∨ p = 36 by omega)]
  by_cases e4 : p < 13
  · rw [if_neg e1, if_neg e2, if_neg e3, if_pos (by omega), if_pos e4, if_neg (by omega), if_pos (by omega)]
  by_cases e5 : p < 17
  · rw [if_neg e1, if_neg e2, if_neg e3, if_pos (by omega), if_neg e4, if_pos e5, if_pos (by omega)]
  by_cases e6 : p < 21
  · rw [if_neg e1, if_neg e2, if_neg e3, if_pos e6, if_neg e4, if_neg e5, if_neg (by omega), if_neg (by omega), if_pos (by omega), Bool.eq_iff_iff]
    simp; omega
  rw [if_neg e1, if_neg e2, if_neg e3, if_neg e6]
  rcases (show p = 21 ∨ p = 22 ∨ p = 23 ∨ p = 24 ∨ p = 25 ∨ p = 26 ∨ p = 27 ∨ p = 28 ∨ p = 29 ∨ p = 30 ∨ p = 31 ∨ p = 32 ∨ p = 33 ∨ p = 34 ∨ p = 35 ∨ p = 36 ∨ p = 37 by omega) with rfl | rfl | rfl | rfl | rfl | rfl | rfl | rfl | rfl | rfl | rfl | rfl | rfl | rfl | rfl | rfl | rfl <;> simp
end Wsc
namespace Wsc
def rBound (f : Int) (b : BoundM) : Bool :=
  if b.op < 1 ∨ 5 < b.op then false
  else if f = 6 then decide (b.op = 3) && decide (b.d = 0) && (decide (b.n = 1) || decide (b.n = 2))
  else if f = 5 then decide (1 ≤ b.n) && decide (1 ≤ b.d) && decide (b.n ≤ 1073741824) && decide (b.d ≤ 1073741824)
  else decide (b.d = 0) && decide (hold b.n = b.n)
def rFeat (n : QNodeM) : Bool :=
  if n.count ≠ 0 ∨ n.feat < 1 ∨ 6 < n.feat then false
  else if n.hi = noBound then decide (n.lo = noBound)
  else if rBound n.feat n.hi = false then false
  else if n.lo = noBound then true
  else if n.feat = 6 ∨ rBound n.feat n.lo = false then false
  else (decide (n.lo.op ≤ 2) && decide (n.hi.op ≤ 2)) || (decide (4 ≤ n.lo.op) && decide (4 ≤ n.hi.op))
def rNode (n : QNodeM) : Bool :=
  if n.kind = 4 then rFeat n
  else decide (n = ⟨n.kind, n.count, 0, noBound, noBound⟩) && ((decide (n.kind = 3) && decide (n.count = 1)) || (decide (2 ≤ n.count) && (decide (n.kind = 1) || decide (n.kind = 2))))
theorem rBound_eq (f : Int) (b : BoundM) : rBound f b = (decide (1 ≤ b.op ∧ b.op ≤ 5) && valueB f b) := by
  unfold rBound valueB
  rw [Bool.eq_iff_iff]
  by_cases h5 : f = 5
  · subst h5
    by_cases h : b.op < 1 ∨ 5 < b.op <;> simp [h] <;> omega
  by_cases h6 : f = 6
  · subst h6
    by_cases h : b.op < 1 ∨ 5 < b.op <;> simp [h] <;> omega
  by_cases h : b.op < 1 ∨ 5 < b.op <;> simp [h, h5, h6]
  · omega
  constructor
  · rintro ⟨a, c⟩; exact ⟨by omega, c.symm, a⟩
  rintro ⟨_, a, c⟩; exact ⟨c, a.symm⟩
theorem downB_iff (x : Int) : downB x = true ↔ x = 1 ∨ x = 2 := by simp [downB]
theorem upQ_iff (x : Int) : upQ x = true ↔ x = 4 ∨ x = 5 := by simp [upQ]
theorem rFeat_eq (n : QNodeM) : rFeat n = (decide (n.count = 0) && decide (1 ≤ n.feat ∧ n.feat ≤ 6) && fitsB n) := by
  unfold rFeat fitsB
  by_cases h0 : n.count ≠ 0 ∨ n.feat < 1 ∨ 6 < n.feat
  · rw [if_pos h0]
    symm
    rw [Bool.and_eq_false_iff]
    left
    rw [Bool.and_eq_false_iff, decide_eq_false_iff_not, decide_eq_false_iff_not]
    omega
  rw [if_neg h0]
  have e1 : (decide (n.count = 0) && decide (1 ≤ n.feat ∧ n.feat ≤ 6)) = true := by
    rw [Bool.and_eq_true, decide_eq_true_eq, decide_eq_true_eq]; omega
  rw [e1, Bool.true_and]
  by_cases hz : n.hi = noBound
  · rw [if_pos hz, if_pos hz]
  rw [if_neg hz, if_neg hz, rBound_eq n.feat n.hi]
  by_cases ho : n.hi.op < 1 ∨ 5 < n.hi.op
  · have e2 : decide (1 ≤ n.hi.op ∧ n.hi.op ≤ 5) = false := decide_eq_false (by omega)
    rw [e2, Bool.false_and, if_pos rfl, if_pos (ho.imp_right Or.inl)]
  have e2 : decide (1 ≤ n.hi.op ∧ n.hi.op ≤ 5) = true := decide_eq_true (by omega)
  rw [e2, Bool.true_and]
  cases hv : valueB n.feat n.hi
  · rw [if_pos rfl, if_pos (Or.inr (Or.inr rfl))]
  have e5 : ¬ (n.hi.op < 1 ∨ 5 < n.hi.op ∨ true = false) := by
    rintro (h | h | h)
    · omega
    · omega
    exact Bool.noConfusion h
  rw [if_neg (show ¬ (true = false) from fun h => Bool.noConfusion h), if_neg e5]
  by_cases hl : n.lo = noBound
  · rw [if_pos hl, if_pos hl]
  rw [if_neg hl, if_neg hl, rBound_eq n.feat n.lo]
  by_cases h6 : n.feat = 6
  · rw [if_pos (Or.inl h6)]; simp [h6]
  cases hvl : valueB n.feat n.lo
  · rw [Bool.and_false, if_pos (Or.inr rfl), Bool.and_false]
  by_cases hlo : n.lo.op < 1 ∨ 5 < n.lo.op
  · have e3 : decide (1 ≤ n.lo.op ∧ n.lo.op ≤ 5) = false := decide_eq_false (by omega)
    rw [e3, Bool.false_and, if_pos (Or.inr rfl)]
    symm
    rw [Bool.and_eq_false_iff, Bool.and_eq_false_iff, Bool.or_eq_false_iff]
    refine Or.inl (Or.inl ⟨?_, ?_⟩)
    · rw [Bool.and_eq_false_iff]; left; rw [← Bool.not_eq_true, downB_iff]; omega
    · rw [Bool.and_eq_false_iff]; left; rw [← Bool.not_eq_true, upQ_iff]; omega
  have e3 : decide (1 ≤ n.lo.op ∧ n.lo.op ≤ 5) = true := decide_eq_true (by omega)
  rw [e3, Bool.true_and, if_neg (show ¬ (n.feat = 6 ∨ true = false) from fun h => h.elim h6 fun h => Bool.noConfusion h)]
  have e4 : decide (n.feat ≠ 6) = true := decide_eq_true h6
  rw [e4, Bool.and_true, Bool.and_true]
  rw [Bool.eq_iff_iff, Bool.or_eq_true, Bool.or_eq_true, Bool.and_eq_true, Bool.and_eq_true, Bool.and_eq_true, Bool.and_eq_true, downB_iff, downB_iff, upQ_iff, upQ_iff]
  simp only [decide_eq_true_eq]
  omega
theorem rNode_eq (n : QNodeM) : rNode n = rightQ n := by
  unfold rNode rightQ
  by_cases h4 : n.kind = 4
  · rw [if_pos h4, if_pos h4, rFeat_eq]
  rw [if_neg h4, if_neg h4]
  obtain ⟨k, c, f, lo, hi⟩ := n
  simp only at *
  by_cases hz : f ≠ 0 ∨ lo ≠ noBound ∨ hi ≠ noBound
  · rw [if_pos hz]
    have : decide ((⟨k, c, f, lo, hi⟩ : QNodeM) = ⟨k, c, 0, noBound, noBound⟩) = false := decide_eq_false (by
      intro h
      injection h with _ _ h1 h2 h3
      rcases hz with h | h | h
      · exact h h1
      · exact h h2
      exact h h3)
    rw [this, Bool.false_and]
  rw [if_neg hz]
  have e : f = 0 ∧ lo = noBound ∧ hi = noBound := by
    refine ⟨Decidable.byContradiction fun h => hz (Or.inl h), Decidable.byContradiction fun h => hz (Or.inr (Or.inl h)), Decidable.byContradiction fun h => hz (Or.inr (Or.inr h))⟩
  obtain ⟨rfl, rfl, rfl⟩ := e
  rw [decide_eq_true rfl, Bool.true_and]
  by_cases h3 : k = 3
  · subst h3; simp
  rw [if_neg h3, decide_eq_false h3, Bool.false_and, Bool.false_or, Bool.and_comm]
  by_cases h1 : k = 1 <;> by_cases h2 : k = 2 <;> simp [h1, h2]
def kidsN (n : QNodeM) : Nat := (hasQ n).toNat
def stepsR (g : Nat → Nat) : Nat → Nat → Nat
  | 0, i => i
  | k + 1, i => if g i = 0 then 0 else stepsR g k (g i)
def spanR (q : List QNodeM) : Nat → Nat → Nat
  | 0, _ => 0
  | f + 1, i => match q[i]? with
    | none => 0
    | some n => if hasQ n < 0 then 0 else stepsR (spanR q f) (kidsN n) (i + 1)
def spA (q : List QNodeM) (i : Nat) : Nat := spanR q (q.length - i) i
theorem stepsR_zero (g : Nat → Nat) (i : Nat) : stepsR g 0 i = i := rfl
theorem stepsR_none (g : Nat → Nat) (k i : Nat) (h : g i = 0) : stepsR g (k + 1) i = 0 := by rw [stepsR, if_pos h]
theorem stepsR_some (g : Nat → Nat) (k i : Nat) (h : g i ≠ 0) : stepsR g (k + 1) i = stepsR g k (g i) := by rw [stepsR, if_neg h]
theorem stepsR_le (g : Nat → Nat) (n : Nat) (hg : ∀ i, g i ≠ 0 → i < g i ∧ g i ≤ n) : ∀ k i, stepsR g k i ≠ 0 → i + k ≤ stepsR g k i ∧ (i ≤ n → stepsR g k i ≤ n)
  | 0, i, _ => ⟨Nat.le_refl _, id⟩
  | k + 1, i, h => by
    by_cases h0 : g i = 0
    · rw [stepsR_none g k i h0] at h; exact absurd rfl h
    rw [stepsR_some g k i h0] at h ⊢
    have := stepsR_le g n hg k (g i) h
    have := hg i h0
    omega
theorem stepsR_congr (g h : Nat → Nat) (n a : Nat) (hg : ∀ i, g i ≠ 0 → i < g i ∧ g i ≤ n) (e : ∀ j, a ≤ j → g j = h j) : ∀ k i, a ≤ i → stepsR g k i = stepsR h k i
  | 0, _, _ => rfl
  | k + 1, i, hi => by
    rw [stepsR, stepsR, ← e i hi]
    by_cases h0 : g i = 0
    · rw [if_pos h0, if_pos h0]
    rw [if_neg h0, if_neg h0]
    exact stepsR_congr g h n a hg e k (g i) (by have := (hg i h0).1; omega)
theorem stepsR_add (g : Nat → Nat) (b : Nat) : ∀ a i, i ≠ 0 → stepsR g (a + b) i = if stepsR g a i = 0 then 0 else stepsR g b (stepsR g a i)
  | 0, i, h => by rw [Nat.zero_add, stepsR_zero, if_neg h]
  | a + 1, i, h => by
    rw [show a + 1 + b = (a + b) + 1 by omega]
    by_cases h0 : g i = 0
    · rw [stepsR_none g _ i h0, stepsR_none g _ i h0, if_pos rfl]
    rw [stepsR_some g _ i h0, stepsR_some g _ i h0]
    exact stepsR_add g b a (g i) h0
theorem spanR_succ (q : List QNodeM) (f i : Nat) (hi : i < q.length) : spanR q (f + 1) i = if hasQ q[i] < 0 then 0 else stepsR (spanR q f) (kidsN q[i]) (i + 1) := by
  rw [spanR, List.getElem?_eq_getElem hi]
theorem spanR_out (q : List QNodeM) (f i : Nat) (hi : ¬ i < q.length) : spanR q f i = 0 := by
  cases f with
  | zero => rfl
  | succ f => rw [spanR, List.getElem?_eq_none (by omega)]
theorem spanR_le (q : List QNodeM) : ∀ f i, spanR q f i ≠ 0 → i < spanR q f i ∧ spanR q f i ≤ q.length
  | 0, i, h => absurd rfl h
  | f + 1, i, h => by
    by_cases hi : i < q.length
    · rw [spanR_succ q f i hi] at h ⊢
      by_cases hb : hasQ q[i] < 0
      · rw [if_pos hb] at h; exact absurd rfl h
      · rw [if_neg hb] at h ⊢
        have := stepsR_le (spanR q f) q.length (spanR_le q f) (kidsN q[i]) (i + 1) h
        omega
    rw [spanR_out q _ i hi] at h; exact absurd rfl h
theorem spanR_irr (q : List QNodeM) : ∀ F f i, f ≤ F → q.length - i ≤ f → spanR q f i = spA q i
  | 0, f, i, h1, h2 => by
    unfold spA
    rw [spanR_out q f i (by omega), spanR_out q _ i (by omega)]
  | F + 1, f, i, h1, h2 => by
    by_cases hi : i < q.length
    · obtain ⟨f, rfl⟩ : ∃ g, f = g + 1 := ⟨f - 1, by omega⟩
      unfold spA
      rw [show q.length - i = (q.length - (i + 1)) + 1 by omega, spanR_succ q _ i hi, spanR_succ q _ i hi]
      rw [stepsR_congr (spanR q f) (spanR q (q.length - (i + 1))) q.length (i + 1) (spanR_le q f) (fun j hj => by
        rw [spanR_irr q F f j (by omega) (by omega), spanR_irr q F (q.length - (i + 1)) j (by omega) (by omega)]) (kidsN q[i]) (i + 1) (Nat.le_refl _)]
    unfold spA
    rw [spanR_out q f i hi, spanR_out q _ i hi]
theorem spA_le (q : List QNodeM) (i : Nat) (h : spA q i ≠ 0) : i < spA q i ∧ spA q i ≤ q.length := spanR_le q _ i h
theorem spA_out (q : List QNodeM) (i : Nat) (hi : ¬ i < q.length) : spA q i = 0 := spanR_out q _ i hi
theorem spA_go (q : List QNodeM) (i : Nat) (hi : i < q.length) : spA q i = if hasQ q[i] < 0 then 0 else stepsR (spA q) (kidsN q[i]) (i + 1) := by
  conv => lhs; unfold spA
  rw [show q.length - i = (q.length - (i + 1)) + 1 by omega, spanR_succ q _ i hi]
  rw [stepsR_congr (spanR q (q.length - (i + 1))) (spA q) q.length (i + 1) (spanR_le q _) (fun j hj => spanR_irr q _ _ j (Nat.le_refl _) (by omega)) (kidsN q[i]) (i + 1) (Nat.le_refl _)]
theorem spA_min (q : List QNodeM) (h i : Nat) (hi : i < q.length) : stepsR (spA q) (min h q.length) (i + 1) = stepsR (spA q) h (i + 1) := by
  by_cases hh : h ≤ q.length
  · rw [Nat.min_eq_left hh]
  rw [Nat.min_eq_right (by omega)]
  have z : ∀ k, q.length ≤ k → stepsR (spA q) k (i + 1) = 0 := fun k hk => by
    refine Decidable.byContradiction fun hn => ?_
    have := stepsR_le (spA q) q.length (spA_le q) k (i + 1) hn
    omega
  rw [z _ (Nat.le_refl _), z _ (by omega)]
theorem spanF_steps (q : List QNodeM) : ∀ f L i, i ≤ q.length → q.length + 1 ≤ f + i → spanF q f (L : Nat) i = stepsR (spA q) L i
  | 0, L, i, h1, h2 => by omega
  | f + 1, 0, i, h1, h2 => by rw [spanF, if_pos (by simp), stepsR_zero]
  | f + 1, L + 1, i, h1, h2 => by
    rw [spanF, if_neg (by omega)]
    by_cases hi : i < q.length
    · rw [List.getElem?_eq_getElem hi]
      simp only
      by_cases hb : hasQ q[i] < 0
      · have : spA q i = 0 := by rw [spA_go q i hi, if_pos hb]
        rw [if_pos hb, stepsR_none _ _ _ this]
      · rw [if_neg hb]
        have e : ((L + 1 : Nat) : Int) + min (hasQ q[i]) q.length - 1 = ((min (kidsN q[i]) q.length + L : Nat) : Int) := by unfold kidsN; omega
        have es : spA q i = stepsR (spA q) (kidsN q[i]) (i + 1) := by rw [spA_go q i hi, if_neg hb]
        rw [e, spanF_steps q f _ (i + 1) (by omega) (by omega), stepsR_add _ _ _ _ (by omega), spA_min q _ i hi, ← es]
        rw [stepsR]
    have : q[i]? = none := List.getElem?_eq_none (by omega)
    rw [this]
    simp only
    rw [stepsR_none _ _ _ (spA_out q i hi)]
theorem spanP_spA (q : List QNodeM) : spanP q = spA q 0 := by
  unfold spanP
  have := spanF_steps q (q.length + 2) 1 0 (Nat.zero_le _) (by omega)
  rw [show ((1 : Nat) : Int) = 1 from rfl] at this
  rw [this, stepsR]
  by_cases h : spA q 0 = 0
  · rw [if_pos h, h]
  rw [if_neg h, stepsR_zero]
end Wsc
namespace Wsc
open Go
def digB (n : Int) : Bool := decide (48 ≤ n ∧ n ≤ 57)
def blankB (n : Int) : Bool := decide (n = 32 ∨ n = 9 ∨ n = 10 ∨ n = 12 ∨ n = 13)
def runOf (p : Int → Bool) (l : List UInt8) : List UInt8 := l.takeWhile fun c => p (bn c)
theorem runOf_le (p : Int → Bool) (l : List UInt8) : (runOf p l).length ≤ l.length := by
  unfold runOf
  induction l with
  | nil => simp
  | cons c l ih => simp only [List.takeWhile_cons]; split <;> simp; exact ih
def digitsL (l : List UInt8) : Nat := (runOf digB l).length
theorem digitsL_le (l : List UInt8) : digitsL l ≤ l.length := runOf_le _ _
def atB (l : List UInt8) (i : Nat) (k : Int) : Bool := match l[i]? with | some c => decide (bn c = k) | none => false
def signW : List UInt8 → Nat
  | [] => 0
  | c :: _ => if bn c = 43 ∨ bn c = 45 then 1 else 0
def numberL (l : List UInt8) : Nat :=
  if atB l (signW l + digitsL (l.drop (signW l))) 46 = true ∧ 0 < digitsL (l.drop (signW l + digitsL (l.drop (signW l)) + 1)) then
    signW l + digitsL (l.drop (signW l)) + 1 + digitsL (l.drop (signW l + digitsL (l.drop (signW l)) + 1))
  else if digitsL (l.drop (signW l)) = 0 then 0 else signW l + digitsL (l.drop (signW l))
def worthStep (x : Int × Int) (c : UInt8) : Int × Int :=
  let left := if bn c = 46 then 3 else x.2
  if digB (bn c) = false ∨ left = 0 then (x.1, left)
  else (if x.1 * 10 + (bn c - 48) > 1125899906842624 then 1125899906842624 else x.1 * 10 + (bn c - 48), if left > 0 then left - 1 else left)
def worthFin (x : Int × Int) : Int := if x.2 < 0 then x.1 * 1000 else if x.2 = 0 then x.1 else if x.2 = 1 then x.1 * 10 else if x.2 = 2 then x.1 * 100 else x.1 * 1000
def worthL (l : List UInt8) : Int := if atB l 0 45 = true then hold (-(worthFin (l.foldl worthStep (0, -1)))) else hold (worthFin (l.foldl worthStep (0, -1)))
def hasL (l t : List UInt8) : Bool := t.isPrefixOf l
def behindL (t : List UInt8) : List UInt8 → Nat
  | [] => 0
  | c :: r => if hasL (c :: r) t = true then t.length else behindL t r + 1
def signFrom (c : Int) : List UInt8 → Int → Int
  | [], _ => 0
  | x :: r, i => if bn x = c then i else signFrom c r (i + 1)
def signsK (c : Int) : Int := signFrom c [58, 59, 44, 40, 41, 91, 93, 123, 125] 10
theorem hasL_take (l t : List UInt8) : hasL l t = decide (t.length ≤ l.length ∧ l.take t.length = t) := by
  unfold hasL
  rw [Bool.eq_iff_iff, List.isPrefixOf_iff_prefix, decide_eq_true_iff]
  constructor
  · rintro ⟨r, rfl⟩; simp
  rintro ⟨_, h⟩; rw [← h]; exact List.take_prefix _ _
theorem behindL_le (t : List UInt8) : ∀ l : List UInt8, behindL t l ≤ l.length
  | [] => Nat.le_refl _
  | c :: r => by
    unfold behindL
    split
    · rename_i h; rw [hasL_take] at h; simp at h; simp; omega
    have := behindL_le t r; simp; omega
def quotedL (q : Int) (l : List UInt8) : Tok × Nat :=
  let b := runOf (fun n => decide (n ≠ q ∧ n ≠ 10)) l
  if b.length = l.length then (⟨5, b, 0⟩, b.length)
  else if atB l b.length 10 = true then (⟨6, b, 0⟩, b.length)
  else (⟨5, b, 0⟩, b.length + 1)
def measureL (l : List UInt8) (n : Nat) : Tok × Nat :=
  if atB l n 37 = true then (⟨8, [], worthL (l.take n)⟩, n + 1)
  else if startsL (l.drop n) = true then (⟨9, runL (l.drop n), worthL (l.take n)⟩, n + (runL (l.drop n)).length)
  else (⟨7, [], worthL (l.take n)⟩, n)
def oneL (l : List UInt8) : Tok × Nat :=
  match l with
  | [] => (⟨0, [], 0⟩, 0)
  | c :: r =>
    if hasL l [47, 42] = true then (⟨0, [], 0⟩, 2 + behindL [42, 47] (l.drop 2))
    else if blankB (bn c) = true then (⟨20, [], 0⟩, (runOf blankB l).length)
    else if bn c = 34 ∨ bn c = 39 then ((quotedL (bn c) r).1, (quotedL (bn c) r).2 + 1)
    else if 0 < numberL l then measureL l (numberL l)
    else if bn c = 35 ∧ 0 < (runL r).length then (⟨4, runL r, 0⟩, 1 + (runL r).length)
    else if bn c = 64 ∧ startsL r = true then (⟨3, runL r, 0⟩, 1 + (runL r).length)
    else if startsL l = true then
      (if hasL (l.drop (runL l).length) [40] = true then (⟨2, runL l, 0⟩, (runL l).length + 1) else (⟨1, runL l, 0⟩, (runL l).length))
    else if 0 < signsK (bn c) then (⟨signsK (bn c), [], 0⟩, 1)
    else (⟨19, [c], 0⟩, 1)
def cutF : Nat → List UInt8 → List Tok
  | 0, _ => []
  | f + 1, l =>
    match l with
    | [] => []
    | _ :: _ => (if 0 < (oneL l).1.kind then [(oneL l).1] else []) ++ cutF f (l.drop (oneL l).2)
def cutL (l : List UInt8) : List Tok := cutF l.length l
end Wsc
namespace Wsc
def knownT : List UInt8 := [112, 123, 119, 105, 100, 116, 104, 58, 49, 112, 120, 125, 32, 64, 99, 111, 110, 116, 97, 105, 110, 101, 114, 32, 40, 119, 105, 100, 116, 104, 62, 57, 112, 120, 41, 123, 97, 44, 98, 123, 99, 111, 108, 111, 114, 58, 114, 101, 100, 125, 125, 32, 64, 120, 123, 99, 123, 125, 125]
def knownK : List Tok := [⟨1, [112], 0⟩, ⟨17, [], 0⟩, ⟨1, [119, 105, 100, 116, 104], 0⟩, ⟨10, [], 0⟩, ⟨9, [112, 120], 1000⟩, ⟨18, [], 0⟩, ⟨20, [], 0⟩, ⟨3, [99, 111, 110, 116, 97, 105, 110, 101, 114], 0⟩, ⟨20, [], 0⟩, ⟨13, [], 0⟩, ⟨1, [119, 105, 100, 116, 104], 0⟩, ⟨19, [62], 0⟩, ⟨9, [112, 120], 9000⟩, ⟨14, [], 0⟩, ⟨17, [], 0⟩, ⟨1, [97], 0⟩, ⟨12, [], 0⟩, ⟨1, [98], 0⟩, ⟨17, [], 0⟩, ⟨1, [99, 111, 108, 111, 114], 0⟩, ⟨10, [], 0⟩, ⟨1, [114, 101, 100], 0⟩, ⟨18, [], 0⟩, ⟨18, [], 0⟩, ⟨20, [], 0⟩, ⟨3, [120], 0⟩, ⟨17, [], 0⟩, ⟨1, [99], 0⟩, ⟨17, [], 0⟩, ⟨18, [], 0⟩, ⟨18, [], 0⟩]
def askK : List Tok := [⟨13, [], 0⟩, ⟨1, [119, 105, 100, 116, 104], 0⟩, ⟨19, [62], 0⟩, ⟨9, [112, 120], 9000⟩, ⟨14, [], 0⟩]
def askR : RawM := ⟨[99, 111, 110, 116, 97, 105, 110, 101, 114], askK, [⟨1, [97], 0⟩, ⟨12, [], 0⟩, ⟨1, [98], 0⟩, ⟨17, [], 0⟩, ⟨1, [99, 111, 108, 111, 114], 0⟩, ⟨10, [], 0⟩, ⟨1, [114, 101, 100], 0⟩, ⟨18, [], 0⟩], true⟩
def oneR : RawM := ⟨[], [⟨1, [112], 0⟩], [⟨1, [119, 105, 100, 116, 104], 0⟩, ⟨10, [], 0⟩, ⟨9, [112, 120], 1000⟩], true⟩
def restR : RawM := ⟨[120], [], [⟨1, [99], 0⟩, ⟨17, [], 0⟩, ⟨18, [], 0⟩], true⟩
def innerR : RawM := ⟨[], [⟨1, [97], 0⟩, ⟨12, [], 0⟩, ⟨1, [98], 0⟩], [⟨1, [99, 111, 108, 111, 114], 0⟩, ⟨10, [], 0⟩, ⟨1, [114, 101, 100], 0⟩], true⟩
theorem known_cut : cutL knownT = knownK := by decide +kernel
theorem known_rules : rulesP knownK = [oneR, askR, restR] := by rfl
theorem inner_rules : rulesP askR.body = [innerR] := by rfl
theorem one_decls : declsP oneR.body = [⟨[119, 105, 100, 116, 104], [⟨9, [112, 120], 1000⟩], false⟩] := by rfl
theorem inner_decls : declsP innerR.body = [⟨[99, 111, 108, 111, 114], [⟨1, [114, 101, 100], 0⟩], false⟩] := by rfl
theorem one_pieces : piecesL (fun t => decide (t.kind = 12) && decide (closeP 12 = 0)) oneR.head = [[⟨1, [112], 0⟩]] := by rfl
theorem inner_pieces : piecesL (fun t => decide (t.kind = 12) && decide (closeP 12 = 0)) innerR.head = [[⟨1, [97], 0⟩], [⟨1, [98], 0⟩]] := by rfl
end Wsc
namespace Wsc
def peekL (l : List UInt8) (n : Nat) : Int := match l[n]? with | some c => bn c | none => 0
theorem peekL_nil (n : Nat) : peekL [] n = 0 := by simp [peekL]
theorem peekL_zero (c : UInt8) (r : List UInt8) : peekL (c :: r) 0 = bn c := rfl
theorem peekL_drop (l : List UInt8) (k n : Nat) : peekL (l.drop k) n = peekL l (k + n) := by unfold peekL; rw [List.getElem?_drop]
theorem bn_lt (c : UInt8) : 0 ≤ bn c ∧ bn c < 256 := ⟨Int.natCast_nonneg _, by have := c.toNat_lt; show (c.toNat : Int) < 256; omega⟩
theorem begins_zero : beginsB 0 = false := by decide
theorem dig_zero : digB 0 = false := by decide
def pnameB (l : List UInt8) (n : Nat) : Bool := beginsB (peekL l n) || (decide (peekL l n = 45) && (beginsB (peekL l (n + 1)) || decide (peekL l (n + 1) = 45)))
theorem begins_dash : beginsB 45 = false := by decide
theorem pname_zero (l : List UInt8) : pnameB l 0 = startsL l := by
  unfold pnameB
  match l with
  | [] => simp [peekL, startsL, begins_zero]
  | [c] =>
    simp only [peekL, startsL, starts2]
    by_cases h : bn c = 45
    · rw [if_pos h]; simp [h, begins_zero, begins_dash]
    rw [if_neg h]; simp [h]
  | c :: d :: r =>
    simp only [peekL, startsL, starts2]
    by_cases h : bn c = 45
    · rw [if_pos h]; simp [h, begins_dash, Bool.or_comm]
    rw [if_neg h]; simp [h]
theorem pname_at (l : List UInt8) (n : Nat) : pnameB l n = startsL (l.drop n) := by
  rw [← pname_zero]
  unfold pnameB
  simp only [peekL_drop, Nat.add_zero, Nat.zero_add]
theorem signW_peek (l : List UInt8) : signW l = if peekL l 0 = 43 ∨ peekL l 0 = 45 then 1 else 0 := by
  match l with
  | [] => rfl
  | c :: r => rfl
def pnumB (l : List UInt8) : Bool := digB (peekL l (signW l)) || (decide (peekL l (signW l) = 46) && digB (peekL l (signW l + 1)))
theorem digits_pos (l : List UInt8) : decide (0 < digitsL l) = digB (peekL l 0) := by
  match l with
  | [] => simp [digitsL, runOf, peekL, dig_zero]
  | c :: r =>
    unfold digitsL runOf
    rw [List.takeWhile_cons, peekL_zero]
    cases h : digB (bn c) <;> simp
theorem atB_peek (l : List UInt8) (i : Nat) (k : Int) (hk : k ≠ 0) : atB l i k = decide (peekL l i = k) := by
  unfold atB peekL
  cases hl : l[i]? with
  | none => simp only; symm; exact decide_eq_false (fun h => hk h.symm)
  | some c => rfl
theorem pnum_pos (l : List UInt8) : pnumB l = decide (0 < numberL l) := by
  have h1 := digits_pos (l.drop (signW l))
  rw [peekL_drop, Nat.add_zero] at h1
  unfold pnumB
  rw [← h1]
  unfold numberL
  rw [atB_peek _ _ _ (by decide)]
  by_cases hd : 0 < digitsL (l.drop (signW l))
  · rw [decide_eq_true hd, Bool.true_or]
    symm
    split
    · exact decide_eq_true (by omega)
    · rw [if_neg (by omega)]; exact decide_eq_true (by omega)
  have h0 : digitsL (l.drop (signW l)) = 0 := by omega
  simp only [decide_eq_false hd, Bool.false_or, h0, Nat.add_zero]
  have h2 := digits_pos (l.drop (signW l + 1))
  rw [peekL_drop, Nat.add_zero] at h2
  rw [← h2]
  by_cases hp : peekL l (signW l) = 46
  · by_cases hq : 0 < digitsL (l.drop (signW l + 1))
    · have : 0 < signW l + 1 + digitsL (l.drop (signW l + 1)) := by omega
      simp [hp, hq]; exact this
    · simp [hp, hq]
  simp [hp]
def pnumL (l : List UInt8) : Nat :=
  let a := signW l + digitsL (l.drop (signW l))
  if peekL l a = 46 ∧ digB (peekL l (a + 1)) = true then a + 1 + digitsL (l.drop (a + 1)) else a
theorem pnumL_eq (l : List UInt8) (h : pnumB l = true) : pnumL l = numberL l := by
  have hn : 0 < numberL l := by rw [pnum_pos] at h; exact of_decide_eq_true h
  unfold pnumL
  simp only
  have h2 := digits_pos (l.drop (signW l + digitsL (l.drop (signW l)) + 1))
  rw [peekL_drop, Nat.add_zero] at h2
  rw [← h2]
  unfold numberL at hn ⊢
  rw [atB_peek _ _ _ (by decide)] at hn ⊢
  by_cases hc : peekL l (signW l + digitsL (l.drop (signW l))) = 46 ∧ 0 < digitsL (l.drop (signW l + digitsL (l.drop (signW l)) + 1))
  · rw [if_pos ⟨hc.1, decide_eq_true hc.2⟩, if_pos ⟨decide_eq_true hc.1, hc.2⟩]
  have e1 : ¬ (decide (peekL l (signW l + digitsL (l.drop (signW l))) = 46) = true ∧ 0 < digitsL (l.drop (signW l + digitsL (l.drop (signW l)) + 1))) := fun x => hc ⟨of_decide_eq_true x.1, x.2⟩
  rw [if_neg e1] at hn ⊢
  rw [if_neg (fun x => hc ⟨x.1, of_decide_eq_true x.2⟩)]
  split at hn
  · omega
  rename_i h3; rw [if_neg h3]
def wholeP (ds : List UInt8) : Int := ds.foldl (fun w d => min (10 * w + (bn d - 48)) 1073741824) 0
def partStep (x : Int × Int) (d : UInt8) : Int × Int := (x.1 + (bn d - 48) * x.2, x.2.tdiv 10)
def partP (ds : List UInt8) : Int := (ds.foldl partStep (0, 100)).1
def bigP (ds : List UInt8) : Int := ds.foldl (fun w d => min (w * 10 + (bn d - 48)) 1125899906842624) 0
def DigL (ds : List UInt8) : Prop := ∀ d ∈ ds, digB (bn d) = true
theorem dig_bd {d : UInt8} (h : digB (bn d) = true) : 48 ≤ bn d ∧ bn d ≤ 57 := of_decide_eq_true h
theorem takeW_all (p : UInt8 → Bool) : ∀ (l : List UInt8), ∀ d ∈ l.takeWhile p, p d = true
  | [], d, h => by simp at h
  | c :: r, d, h => by
    rw [List.takeWhile_cons] at h
    cases hc : p c
    · rw [hc] at h; simp at h
    rw [hc] at h
    simp only [if_true, List.mem_cons] at h
    rcases h with rfl | h
    · exact hc
    exact takeW_all p r d h
theorem run_digs (l : List UInt8) : DigL (runOf digB l) := fun d hd => takeW_all (fun c => digB (bn c)) l d hd
theorem step_of (x l : Int) (d : UInt8) (h : digB (bn d) = true) : worthStep (x, l) d = if l = 0 then (x, 0) else (min (x * 10 + (bn d - 48)) 1125899906842624, if l > 0 then l - 1 else l) := by
  have hd := dig_bd h
  have hne : ¬ bn d = 46 := by omega
  unfold worthStep
  by_cases hl : l = 0
  · subst hl; simp [hne, h]
  simp only [hne, if_false, h, hl]
  simp only [Bool.true_eq_false, or_self, if_false]
  congr 1
  split <;> omega
theorem whole_big (ds : List UInt8) (h : DigL ds) : ∀ w : Int, 0 ≤ w → ds.foldl (fun w d => min (10 * w + (bn d - 48)) 1073741824) (min w 1073741824) = min (ds.foldl (fun w d => min (w * 10 + (bn d - 48)) 1125899906842624) w) 1073741824 ∧ 0 ≤ ds.foldl (fun w d => min (w * 10 + (bn d - 48)) 1125899906842624) w := by
  induction ds with
  | nil => intro w hw; exact ⟨rfl, hw⟩
  | cons d r ih =>
    intro w hw
    have hd := dig_bd (h d (by simp))
    simp only [List.foldl_cons]
    have e : min (10 * min w 1073741824 + (bn d - 48)) 1073741824 = min (min (w * 10 + (bn d - 48)) 1125899906842624) 1073741824 := by omega
    rw [e]
    exact ih (fun x hx => h x (by simp [hx])) _ (by omega)
theorem whole_eq (ds : List UInt8) (h : DigL ds) : wholeP ds = min (bigP ds) 1073741824 ∧ 0 ≤ bigP ds := whole_big ds h 0 (Int.le_refl _)
theorem step_whole (ds : List UInt8) (h : DigL ds) : ∀ w : Int, ds.foldl worthStep (w, -1) = (ds.foldl (fun w d => min (w * 10 + (bn d - 48)) 1125899906842624) w, -1) := by
  induction ds with
  | nil => intro w; rfl
  | cons d r ih =>
    intro w
    have hd := dig_bd (h d (by simp))
    have e : worthStep (w, -1) d = (min (w * 10 + (bn d - 48)) 1125899906842624, -1) := by
      rw [step_of _ _ _ (h d (by simp)), if_neg (by decide), if_neg (by decide)]
    simp only [List.foldl_cons, e]
    exact ih (fun x hx => h x (by simp [hx])) _
theorem step_left (x l : Int) (d : UInt8) (h : digB (bn d) = true) (hl : 0 < l) : worthStep (x, l) d = (min (x * 10 + (bn d - 48)) 1125899906842624, l - 1) := by
  rw [step_of _ _ _ h, if_neg (by omega), if_pos hl]
theorem step_done (ds : List UInt8) (h : DigL ds) (x : Int) : ds.foldl worthStep (x, 0) = (x, 0) := by
  induction ds with
  | nil => rfl
  | cons d r ih =>
    have hd := dig_bd (h d (by simp))
    have e : worthStep (x, 0) d = (x, 0) := by rw [step_of _ _ _ (h d (by simp)), if_pos rfl]
    rw [List.foldl_cons, e]
    exact ih fun x hx => h x (by simp [hx])
theorem part_done (ds : List UInt8) (x : Int) : (ds.foldl partStep (x, 0)).1 = x := by
  induction ds generalizing x with
  | nil => rfl
  | cons d r ih =>
    have e : partStep (x, 0) d = (x, 0) := by simp [partStep]
    rw [List.foldl_cons, e]; exact ih x
theorem hold_minus (n : Int) : hold (-n) = -hold n := by unfold hold; repeat' split <;> omega
theorem hold_big {n : Int} (h : 1073741824 ≤ n) : hold n = 1073741824 := by unfold hold; repeat' split <;> omega
theorem fin_part (W : Int) (hW : 0 ≤ W) (ds : List UInt8) (h : DigL ds) : hold (worthFin (ds.foldl worthStep (W, 3))) = hold (1000 * min W 1073741824 + partP ds) := by
  have big : ∀ p : Int, 0 ≤ p → 1073741824 ≤ W → hold (1000 * min W 1073741824 + p) = 1073741824 := fun p hp hw => hold_big (by omega)
  match ds, h with
  | [], _ =>
    show hold (worthFin (W, 3)) = hold (1000 * min W 1073741824 + 0)
    rw [show worthFin (W, 3) = W * 1000 from rfl]
    by_cases hw : 1073741824 ≤ W
    · rw [big 0 (by omega) hw, hold_big (by omega)]
    congr 1; omega
  | [a], h =>
    have ha := dig_bd (h a (by simp))
    rw [List.foldl_cons, List.foldl_nil, step_left W 3 a (h a (by simp)) (by omega), show worthFin (min (W * 10 + (bn a - 48)) 1125899906842624, 3 - 1) = min (W * 10 + (bn a - 48)) 1125899906842624 * 100 from rfl, show partP [a] = 0 + (bn a - 48) * 100 from rfl]
    by_cases hw : 1073741824 ≤ W
    · rw [big _ (by omega) hw, hold_big (by omega)]
    congr 1; omega
  | [a, b], h =>
    have ha := dig_bd (h a (by simp))
    have hb := dig_bd (h b (by simp))
    rw [List.foldl_cons, List.foldl_cons, List.foldl_nil, step_left W 3 a (h a (by simp)) (by omega), step_left _ (3 - 1) b (h b (by simp)) (by omega)]
    rw [show ∀ x : Int, worthFin (x, 3 - 1 - 1) = x * 10 from fun _ => rfl, show partP [a, b] = 0 + (bn a - 48) * 100 + (bn b - 48) * 10 from rfl]
    by_cases hw : 1073741824 ≤ W
    · rw [big _ (by omega) hw, hold_big (by omega)]
    congr 1; omega
  | a :: b :: c :: r, h =>
    have ha := dig_bd (h a (by simp))
    have hb := dig_bd (h b (by simp))
    have hc := dig_bd (h c (by simp))
    rw [List.foldl_cons, List.foldl_cons, List.foldl_cons, step_left W 3 a (h a (by simp)) (by omega), step_left _ (3 - 1) b (h b (by simp)) (by omega), step_left _ (3 - 1 - 1) c (h c (by simp)) (by omega)]
    rw [show (3 : Int) - 1 - 1 - 1 = 0 from rfl, step_done r (fun x hx => h x (by simp [hx])), show ∀ x : Int, worthFin (x, 0) = x from fun _ => rfl]
    have hp : partP (a :: b :: c :: r) = 0 + (bn a - 48) * 100 + (bn b - 48) * 10 + (bn c - 48) * 1 := by
      unfold partP
      rw [List.foldl_cons, List.foldl_cons, List.foldl_cons]
      exact part_done r _
    rw [hp]
    by_cases hw : 1073741824 ≤ W
    · rw [big _ (by omega) hw, hold_big (by omega)]
    congr 1; omega
theorem run_split (p : Int → Bool) (l : List UInt8) : runOf p l ++ l.drop (runOf p l).length = l := by
  unfold runOf
  induction l with
  | nil => rfl
  | cons c r ih =>
    rw [List.takeWhile_cons]
    cases hc : p (bn c)
    · simp
    simp only [if_true, List.length_cons, List.drop_succ_cons, List.cons_append]
    rw [ih]
theorem run_of_append (D R : List UInt8) (hD : DigL D) (hR : ∀ c t, R = c :: t → digB (bn c) = false) : runOf digB (D ++ R) = D := by
  unfold runOf
  induction D with
  | nil =>
    match R, hR with
    | [], _ => rfl
    | c :: t, hR => rw [List.nil_append, List.takeWhile_cons, hR c t rfl]; rfl
  | cons d D ih =>
    rw [List.cons_append, List.takeWhile_cons, hD d (by simp)]
    simp only [if_true]
    rw [ih fun x hx => hD x (by simp [hx])]
def SignL (S : List UInt8) : Prop := S = [] ∨ ∃ c, S = [c] ∧ (bn c = 43 ∨ bn c = 45)
def belowL (S : List UInt8) : Bool := match S with | c :: _ => decide (bn c = 45) | [] => false
def partR (R : List UInt8) : Int := match R with | _ :: r => partP r | [] => 0
theorem worth_fold (S : List UInt8) (hS : SignL S) : S.foldl worthStep (0, -1) = (0, -1) := by
  rcases hS with rfl | ⟨c, rfl, h⟩
  · rfl
  have h1 : digB (bn c) = false := by unfold digB; exact decide_eq_false (by omega)
  have h2 : ¬ bn c = 46 := by omega
  simp [worthStep, h1, h2]
theorem worth_text (S D R : List UInt8) (hS : SignL S) (hD : DigL D) (hR : R = [] ∨ ∃ c r, R = c :: r ∧ bn c = 46 ∧ DigL r) (h0 : D ≠ [] ∨ R ≠ []) :
    worthL (S ++ (D ++ R)) = if belowL S = true then -hold (1000 * wholeP D + partR R) else hold (1000 * wholeP D + partR R) := by
  have hw := whole_eq D hD
  have hfin : hold (worthFin ((S ++ (D ++ R)).foldl worthStep (0, -1))) = hold (1000 * wholeP D + partR R) := by
    rw [List.foldl_append, worth_fold S hS, List.foldl_append, step_whole D hD 0, show D.foldl (fun w d => min (w * 10 + (bn d - 48)) 1125899906842624) 0 = bigP D from rfl, hw.1]
    generalize bigP D = W at *
    rcases hR with rfl | ⟨c, r, rfl, hc, hr⟩
    · rw [List.foldl_nil, show worthFin (W, -1) = W * 1000 from rfl, show partR [] = 0 from rfl]
      by_cases hb : 1073741824 ≤ W
      · rw [hold_big (by omega), hold_big (by omega)]
      · congr 1; omega
    have hd : digB (bn c) = false := by unfold digB; exact decide_eq_false (by omega)
    have e : worthStep (W, -1) c = (W, 3) := by simp [worthStep, hc, show digB 46 = false by decide]
    rw [List.foldl_cons, e, fin_part W hw.2 r hr]
    rfl
  have hat : atB (S ++ (D ++ R)) 0 45 = belowL S := by
    rw [atB_peek _ _ _ (by decide)]
    rcases hS with rfl | ⟨c, rfl, h⟩
    · rw [List.nil_append]
      match D, hD, h0 with
      | d :: D', hD, _ =>
        have := dig_bd (hD d (by simp))
        show decide (bn d = 45) = false
        exact decide_eq_false (by omega)
      | [], _, h0 =>
        rcases hR with rfl | ⟨c, r, rfl, hc, _⟩
        · exact absurd rfl (h0.resolve_left (fun x => x rfl))
        · show decide (bn c = 45) = false
          exact decide_eq_false (by omega)
    rfl
  unfold worthL
  rw [hat, hold_minus, hfin]
def nparseP (t : List UInt8) : Option Int :=
  let S := t.take (signW t)
  let u := t.drop (signW t)
  let D := runOf digB u
  let v := u.drop D.length
  match v with
  | [] => if D = [] then none else some (if belowL S = true then -hold (1000 * wholeP D + 0) else hold (1000 * wholeP D + 0))
  | c :: r => if bn c = 46 then (if runOf digB r = [] ∨ (runOf digB r).length < r.length then none else some (if belowL S = true then -hold (1000 * wholeP D + partP r) else hold (1000 * wholeP D + partP r))) else none
theorem sign_take (l : List UInt8) : SignL (l.take (signW l)) := by
  match l with
  | [] => left; rfl
  | c :: r =>
    show SignL ((c :: r).take (if bn c = 43 ∨ bn c = 45 then 1 else 0))
    by_cases h : bn c = 43 ∨ bn c = 45
    · rw [if_pos h]; right; exact ⟨c, rfl, h⟩
    rw [if_neg h]; left; rfl
theorem signW_of (S X : List UInt8) (hS : SignL S) (hX : S ≠ [] ∨ ∀ c t, X = c :: t → ¬ (bn c = 43 ∨ bn c = 45)) : signW (S ++ X) = S.length := by
  rcases hS with rfl | ⟨c, rfl, h⟩
  · match X, hX with
    | [], _ => rfl
    | c :: t, hX =>
      have := hX.resolve_left (fun x => x rfl) c t rfl
      show (if bn c = 43 ∨ bn c = 45 then 1 else 0) = 0
      rw [if_neg this]
  show (if bn c = 43 ∨ bn c = 45 then 1 else 0) = 1
  rw [if_pos h]
theorem parse_text (S D R : List UInt8) (hS : SignL S) (hD : DigL D) (hR : R = [] ∨ ∃ c r, R = c :: r ∧ bn c = 46 ∧ DigL r ∧ r ≠ []) (h0 : D ≠ [] ∨ R ≠ []) :
    nparseP (S ++ (D ++ R)) = some (worthL (S ++ (D ++ R))) := by
  have hw := worth_text S D R hS hD (hR.imp id fun ⟨c, r, e, h1, h2, _⟩ => ⟨c, r, e, h1, h2⟩) h0
  have hsw : signW (S ++ (D ++ R)) = S.length := by
    refine signW_of S (D ++ R) hS (Or.inr ?_)
    intro c t e
    match D, hD, h0 with
    | d :: D', hD, _ =>
      have := dig_bd (hD d (by simp))
      simp only [List.cons_append, List.cons.injEq] at e
      rw [← e.1]; omega
    | [], _, h0 =>
      rcases hR with rfl | ⟨c2, r, rfl, hc, _⟩
      · simp at e
      simp only [List.nil_append, List.cons.injEq] at e
      rw [← e.1]; omega
  rw [hw]
  unfold nparseP
  simp only
  rw [hsw, List.take_left, List.drop_left]
  have hrun : runOf digB (D ++ R) = D := run_of_append D R hD (fun c t e => by
    rcases hR with rfl | ⟨c2, r, rfl, hc, _⟩
    · simp at e
    simp only [List.cons.injEq] at e
    rw [← e.1]; unfold digB; exact decide_eq_false (by omega))
  rw [hrun, List.drop_left]
  rcases hR with rfl | ⟨c, r, rfl, hc, hr, hne⟩
  · have hd : D ≠ [] := h0.resolve_right (fun x => x rfl)
    simp only
    rw [if_neg hd]
    rfl
  have hrr : runOf digB r = r := by
    have := run_of_append r [] hr (fun c t e => by simp at e)
    rwa [List.append_nil] at this
  simp only
  rw [if_pos hc, hrr, if_neg (by simp [hne])]
  rfl
theorem num_parts (l : List UInt8) (h : pnumB l = true) : ∃ S D R, l.take (numberL l) = S ++ (D ++ R) ∧ SignL S ∧ DigL D ∧ (R = [] ∨ ∃ c r, R = c :: r ∧ bn c = 46 ∧ DigL r ∧ r ≠ []) ∧ (D ≠ [] ∨ R ≠ []) := by
  have hS := sign_take l
  have hD := run_digs (l.drop (signW l))
  have e1 : l = l.take (signW l) ++ l.drop (signW l) := (List.take_append_drop _ _).symm
  have hlen : (l.take (signW l)).length = signW l := by
    match l with
    | [] => rfl
    | c :: r =>
      show ((c :: r).take (if bn c = 43 ∨ bn c = 45 then 1 else 0)).length = if bn c = 43 ∨ bn c = 45 then 1 else 0
      split <;> simp
  have e2 := run_split digB (l.drop (signW l))
  have hpos : 0 < numberL l := by rw [pnum_pos] at h; exact of_decide_eq_true h
  rw [← pnumL_eq l h] at hpos ⊢
  unfold pnumL at hpos ⊢
  simp only at hpos ⊢
  have hdl : digitsL (l.drop (signW l)) = (runOf digB (l.drop (signW l))).length := rfl
  rw [hdl] at hpos ⊢
  generalize hSS : l.take (signW l) = S at *
  generalize hDD : runOf digB (l.drop (signW l)) = D at *
  generalize hVV : (l.drop (signW l)).drop D.length = V at *
  have hl : l = S ++ (D ++ V) := by rw [e2]; exact e1
  have hsw : signW l = S.length := hlen.symm
  rw [hsw] at hpos ⊢
  have hpk : ∀ n, peekL l (S.length + D.length + n) = peekL V n := fun n => by
    rw [← hVV, List.drop_drop, peekL_drop, hsw]
  by_cases hdot : peekL l (S.length + D.length) = 46 ∧ digB (peekL l (S.length + D.length + 1)) = true
  · rw [if_pos hdot]
    have h1 := hpk 0
    rw [Nat.add_zero] at h1
    rw [h1, hpk 1] at hdot
    match V, hVV, hl, hpk, hdot with
    | [], _, _, _, hdot => exact absurd hdot.1 (by rw [peekL_nil]; decide)
    | c :: v, hVV, hl, hpk, hdot =>
      have hc : bn c = 46 := hdot.1
      have hdr : l.drop (S.length + D.length + 1) = v := by
        rw [hl, ← List.append_assoc, ← List.length_append, ← List.drop_drop, List.drop_left]; rfl
      have hne : runOf digB v ≠ [] := by
        have := digits_pos v
        have hp : peekL v 0 = peekL (c :: v) 1 := rfl
        rw [hp, hdot.2] at this
        have := of_decide_eq_true this
        intro e
        unfold digitsL at this
        rw [e] at this
        simp at this
      refine ⟨S, D, c :: runOf digB v, ?_, hS, hD, Or.inr ⟨c, _, rfl, hc, run_digs v, hne⟩, Or.inr (by simp)⟩
      rw [hdr]
      have hv := run_split digB v
      unfold digitsL
      have key : S ++ (D ++ c :: v) = (S ++ D ++ c :: runOf digB v) ++ v.drop (runOf digB v).length := by
        simp only [List.append_assoc, List.cons_append, hv]
      rw [hl, key]
      rw [show S.length + D.length + 1 + (runOf digB v).length = (S ++ D ++ c :: runOf digB v).length by simp; omega, List.take_left]
      simp
  rw [if_neg hdot]
  refine ⟨S, D, [], ?_, hS, hD, Or.inl rfl, Or.inl ?_⟩
  · rw [hl, ← List.append_assoc, ← List.length_append, List.take_left, List.append_nil]
  intro e
  rw [e] at hdot
  unfold pnumB at h
  rw [hsw] at h
  have h1 : digB (peekL l S.length) = false := by
    have := digits_pos (l.drop S.length)
    rw [peekL_drop, Nat.add_zero] at this
    rw [← this]
    refine decide_eq_false ?_
    unfold digitsL
    rw [← hsw, hDD, e]
    simp
  rw [h1, Bool.false_or, Bool.and_eq_true, decide_eq_true_eq] at h
  exact hdot (by simpa using h)
theorem parse_num (l : List UInt8) (h : pnumB l = true) : nparseP (l.take (numberL l)) = some (worthL (l.take (numberL l))) := by
  obtain ⟨S, D, R, e, h1, h2, h3, h4⟩ := num_parts l h
  rw [e]
  exact parse_text S D R h1 h2 h3 h4
theorem hasL_one (l : List UInt8) (b : UInt8) (hb : bn b ≠ 0) : hasL l [b] = decide (peekL l 0 = bn b) := by
  match l with
  | [] => symm; exact decide_eq_false (fun h => hb h.symm)
  | c :: r =>
    show (b == c && true) = decide (bn c = bn b)
    rw [Bool.and_true, Bool.eq_iff_iff, decide_eq_true_eq, beq_iff_eq]
    constructor
    · rintro rfl; rfl
    intro h; exact UInt8.toNat_inj.1 (by have : (c.toNat : Int) = b.toNat := h; omega)
theorem hasL_two (l : List UInt8) (a b : UInt8) (ha : bn a ≠ 0) (hb : bn b ≠ 0) : hasL l [a, b] = (decide (peekL l 0 = bn a) && decide (peekL l 1 = bn b)) := by
  match l with
  | [] => symm; rw [show peekL [] 0 = 0 from rfl, decide_eq_false (fun h => ha h.symm), Bool.false_and]; rfl
  | c :: r =>
    have h := hasL_one r b hb
    have e : hasL (c :: r) [a, b] = (decide (bn c = bn a) && hasL r [b]) := by
      show (a == c && List.isPrefixOf [b] r) = _
      congr 1
      rw [Bool.eq_iff_iff, decide_eq_true_eq, beq_iff_eq]
      constructor
      · rintro rfl; rfl
      intro h; exact UInt8.toNat_inj.1 (by have : (c.toNat : Int) = a.toNat := h; omega)
    rw [e, h]
    rfl
theorem hash_goes (r : List UInt8) : decide (0 < (runL r).length) = (decide (0 < r.length) && goesB (peekL r 0)) := by
  match r with
  | [] => rfl
  | c :: t =>
    unfold runL
    rw [List.takeWhile_cons, peekL_zero]
    cases h : goesB (bn c) <;> simp
def signP (c : Int) : Int := if c = 58 then 10 else if c = 59 then 11 else if c = 44 then 12 else if c = 40 then 13 else if c = 41 then 14 else if c = 91 then 15 else if c = 93 then 16 else if c = 123 then 17 else if c = 125 then 18 else 19
theorem sign_same (c : Int) : signP c = if 0 < signsK c then signsK c else 19 := by
  unfold signP signsK
  have e : ∀ (x : UInt8) (n : Nat), x.toNat = n → bn x = (n : Int) := fun x n h => by show (x.toNat : Int) = n; rw [h]
  simp only [signFrom, show bn 58 = 58 from rfl, show bn 59 = 59 from rfl, show bn 44 = 44 from rfl, show bn 40 = 40 from rfl, show bn 41 = 41 from rfl, show bn 91 = 91 from rfl, show bn 93 = 93 from rfl, show bn 123 = 123 from rfl, show bn 125 = 125 from rfl]
  by_cases h1 : c = 58
  · subst h1; rfl
  by_cases h2 : c = 59
  · subst h2; rfl
  by_cases h3 : c = 44
  · subst h3; rfl
  by_cases h4 : c = 40
  · subst h4; rfl
  by_cases h5 : c = 41
  · subst h5; rfl
  by_cases h6 : c = 91
  · subst h6; rfl
  by_cases h7 : c = 93
  · subst h7; rfl
  by_cases h8 : c = 123
  · subst h8; rfl
  by_cases h9 : c = 125
  · subst h9; rfl
  have f : ∀ {n : Int}, ¬ c = n → ¬ n = c := fun h x => h x.symm
  rw [if_neg h1, if_neg h2, if_neg h3, if_neg h4, if_neg h5, if_neg h6, if_neg h7, if_neg h8, if_neg h9, if_neg (f h1), if_neg (f h2), if_neg (f h3), if_neg (f h4), if_neg (f h5), if_neg (f h6), if_neg (f h7), if_neg (f h8), if_neg (f h9)]
  rfl
end Wsc
namespace Wsc
theorem part_step_bd {v x n : Int} (h : v + 10 * x ≤ 1000) (h0 : 0 ≤ x) (h1 : n ≤ 57) (h2 : 48 ≤ n) : v + (n - 48) * x + 10 * (x / 10) ≤ 1000 := by
  have := Int.mul_le_mul_of_nonneg_right (show n - 48 ≤ 9 by omega) h0
  omega
theorem wholeP_bd (ds : List UInt8) (h : DigL ds) : 0 ≤ wholeP ds ∧ wholeP ds ≤ 1073741824 := by
  obtain ⟨h1, h2⟩ := whole_eq ds h
  omega
theorem partF_bd (ds : List UInt8) (h : DigL ds) : ∀ v x : Int, 0 ≤ v → 0 ≤ x → v + 10 * x ≤ 1000 → 0 ≤ (ds.foldl partStep (v, x)).1 ∧ (ds.foldl partStep (v, x)).1 ≤ 1000 := by
  induction ds with
  | nil => intro v x h1 h2 h3; exact ⟨h1, by show v ≤ 1000; omega⟩
  | cons d r ih =>
    intro v x h1 h2 h3
    obtain ⟨b1, b2⟩ := dig_bd (h d (by simp))
    have e : partStep (v, x) d = (v + (bn d - 48) * x, x / 10) := by unfold partStep; simp only; rw [Int.tdiv_eq_ediv_of_nonneg h2]
    have hm := Int.mul_nonneg (show 0 ≤ bn d - 48 by omega) h2
    rw [List.foldl_cons, e]
    exact ih (fun y hy => h y (by simp [hy])) _ _ (by omega) (by omega) (part_step_bd h3 h2 b2 b1)
theorem partP_bd (ds : List UInt8) (h : DigL ds) : 0 ≤ partP ds ∧ partP ds ≤ 1000 := partF_bd ds h 0 100 (by decide) (by decide) (by decide)
def sgnP (b : Bool) (n : Int) : Int := if b = true then -n else n
theorem parse_dot (l D R : List UInt8) (m : Nat) (h1 : runOf digB (l.drop (signW l)) = D) (h2 : m = signW l + D.length) (h3 : peekL (l.drop m) 0 = 46) (h4 : runOf digB (l.drop (m + 1)) = R) (hm : m < l.length) :
    nparseP l = if R.length = 0 ∨ m + 1 + R.length < l.length then none else some (sgnP (belowL (l.take (signW l))) (hold (1000 * wholeP D + partP R))) := by
  unfold nparseP
  simp only
  rw [h1, List.drop_drop, ← h2]
  have hd : l.drop m = l[m] :: l.drop (m + 1) := List.drop_eq_getElem_cons hm
  rw [hd] at h3 ⊢
  have h3 : bn l[m] = 46 := h3
  simp only
  rw [if_pos h3, h4]
  have e : (R = [] ∨ R.length < (l.drop (m + 1)).length) ↔ (R.length = 0 ∨ m + 1 + R.length < l.length) := by
    rw [List.length_drop]
    constructor
    · rintro (h | h)
      · left; rw [h]; rfl
      · right; omega
    rintro (h | h)
    · left; exact List.eq_nil_of_length_eq_zero h
    right; omega
  by_cases h : R.length = 0 ∨ m + 1 + R.length < l.length
  · rw [if_pos h, if_pos (e.2 h)]
  rw [if_neg h, if_neg (fun x => h (e.1 x))]
  have hs := run_split digB (l.drop (m + 1))
  rw [h4] at hs
  have hnil : (l.drop (m + 1)).drop R.length = [] := List.eq_nil_of_length_eq_zero (by rw [List.length_drop, List.length_drop]; omega)
  rw [hnil, List.append_nil] at hs
  rw [← hs]
  rfl
theorem parse_flat (l D : List UInt8) (m : Nat) (h1 : runOf digB (l.drop (signW l)) = D) (h2 : m = signW l + D.length) (h3 : ¬ peekL (l.drop m) 0 = 46) (hm : m ≤ l.length) :
    nparseP l = if D.length = 0 ∨ m < l.length then none else some (sgnP (belowL (l.take (signW l))) (hold (1000 * wholeP D + 0))) := by
  unfold nparseP
  simp only
  rw [h1, List.drop_drop, ← h2]
  by_cases hlt : m < l.length
  · have hd : l.drop m = l[m] :: l.drop (m + 1) := List.drop_eq_getElem_cons hlt
    rw [hd] at h3 ⊢
    have h3 : ¬ bn l[m] = 46 := h3
    simp only
    rw [if_neg h3, if_pos (Or.inr hlt)]
  rw [List.drop_of_length_le (by omega)]
  simp only
  by_cases h0 : D = []
  · rw [if_pos h0, if_pos (Or.inl (by rw [h0]; rfl))]
  have hne : ¬ (D.length = 0 ∨ m < l.length) := fun h => Or.elim h (fun h => h0 (List.eq_nil_of_length_eq_zero h)) hlt
  rw [if_neg h0]
  conv => rhs; rw [if_neg hne]
  rfl
end Wsc
