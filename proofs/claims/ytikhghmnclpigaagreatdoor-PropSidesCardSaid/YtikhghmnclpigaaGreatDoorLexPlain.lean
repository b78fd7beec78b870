/-
  Plain words for numbers' texts and tokens (layers 1 and 5). No program in sight.
-/
import Derived.Test.YtikhghmnclpigaaGreatDoorTokPlain
namespace Wsc
open Go

def digB (n : Int) : Bool := decide (48 ≤ n ∧ n ≤ 57)
def blankB (n : Int) : Bool := decide (n = 32 ∨ n = 9 ∨ n = 10 ∨ n = 12 ∨ n = 13)
/-- the bytes of a kind from the front on. -/
def runOf (p : Int → Bool) (l : List UInt8) : List UInt8 := l.takeWhile fun c => p (bn c)
theorem runOf_go (p : Int → Bool) (s : ByteArray) (k : Nat) (h : k < s.size) (e : p (bn s[k]) = true) : (runOf p (s.data.toList.drop k)).length = (runOf p (s.data.toList.drop (k + 1))).length + 1 := by
  rw [drop_at s k h]; simp [runOf, e]
theorem runOf_stop (p : Int → Bool) (s : ByteArray) (k : Nat) (h : k < s.size) (e : p (bn s[k]) = false) : (runOf p (s.data.toList.drop k)).length = 0 := by
  rw [drop_at s k h]; simp [runOf, e]
theorem runOf_end (p : Int → Bool) (s : ByteArray) (k : Nat) (h : ¬ k < s.size) : (runOf p (s.data.toList.drop k)).length = 0 := by rw [drop_end s k h]; rfl
theorem runOf_le (p : Int → Bool) (l : List UInt8) : (runOf p l).length ≤ l.length := by
  unfold runOf
  induction l with
  | nil => simp
  | cons c l ih => simp only [List.takeWhile_cons]; split <;> simp; exact ih
def digitsL (l : List UInt8) : Nat := (runOf digB l).length
theorem digitsL_le (l : List UInt8) : digitsL l ≤ l.length := runOf_le _ _
/-- does a byte stand at a place? -/
def atB (l : List UInt8) (i : Nat) (k : Int) : Bool := match l[i]? with | some c => decide (bn c = k) | none => false
def signW : List UInt8 → Nat
  | [] => 0
  | c :: _ => if bn c = 43 ∨ bn c = 45 then 1 else 0
/-- how many bytes a number's text has, from the front on; 0: none begins there. -/
def numberL (l : List UInt8) : Nat :=
  if atB l (signW l + digitsL (l.drop (signW l))) 46 = true ∧ 0 < digitsL (l.drop (signW l + digitsL (l.drop (signW l)) + 1)) then
    signW l + digitsL (l.drop (signW l)) + 1 + digitsL (l.drop (signW l + digitsL (l.drop (signW l)) + 1))
  else if digitsL (l.drop (signW l)) = 0 then 0 else signW l + digitsL (l.drop (signW l))
theorem signW_end (s : ByteArray) (k : Nat) (h : ¬ k < s.size) : signW (s.data.toList.drop k) = 0 := by rw [drop_end s k h]; rfl
theorem signW_at (s : ByteArray) (k : Nat) (h : k < s.size) : signW (s.data.toList.drop k) = if bn s[k] = 43 ∨ bn s[k] = 45 then 1 else 0 := by rw [drop_at s k h]; rfl
theorem atB_in (s : ByteArray) (k i : Nat) (c : Int) (h : k + i < s.size) : atB (s.data.toList.drop k) i c = decide (bn s[k + i] = c) := by
  unfold atB
  rw [List.getElem?_drop, List.getElem?_eq_getElem (by simpa using h)]; rfl
theorem atB_out (s : ByteArray) (k i : Nat) (c : Int) (h : ¬ k + i < s.size) : atB (s.data.toList.drop k) i c = false := by
  unfold atB
  rw [List.getElem?_drop, List.getElem?_eq_none (by simp; omega)]
/-- a number's thousandths: one byte more. -/
def worthStep (x : Int × Int) (c : UInt8) : Int × Int :=
  let left := if bn c = 46 then 3 else x.2
  if digB (bn c) = false ∨ left = 0 then (x.1, left)
  else (if x.1 * 10 + (bn c - 48) > 1125899906842624 then 1125899906842624 else x.1 * 10 + (bn c - 48), if left > 0 then left - 1 else left)
def worthFin (x : Int × Int) : Int := if x.2 < 0 then x.1 * 1000 else if x.2 = 0 then x.1 else if x.2 = 1 then x.1 * 10 else if x.2 = 2 then x.1 * 100 else x.1 * 1000
def worthL (l : List UInt8) : Int := if atB l 0 45 = true then hold (-(worthFin (l.foldl worthStep (0, -1)))) else hold (worthFin (l.foldl worthStep (0, -1)))
theorem worthStep_bd (x : Int × Int) (c : UInt8) (h : 0 ≤ x.1 ∧ x.1 ≤ 1125899906842624 ∧ -1 ≤ x.2 ∧ x.2 ≤ 3) : 0 ≤ (worthStep x c).1 ∧ (worthStep x c).1 ≤ 1125899906842624 ∧ -1 ≤ (worthStep x c).2 ∧ (worthStep x c).2 ≤ 3 := by
  have h8 := c.toNat_lt
  obtain ⟨v, l⟩ := x
  unfold worthStep digB
  simp only at h ⊢
  by_cases h1 : bn c = 46 <;> simp only [h1, if_true, if_false] <;> (split <;> simp at * <;> (repeat' split) <;> omega)
/-- does a text begin with one? -/
def hasL (l t : List UInt8) : Bool := t.isPrefixOf l
/-- how many bytes stand up to and with a text, or to the end. -/
def behindL (t : List UInt8) : List UInt8 → Nat
  | [] => 0
  | c :: r => if hasL (c :: r) t = true then t.length else behindL t r + 1
def signFrom (c : Int) : List UInt8 → Int → Int
  | [], _ => 0
  | x :: r, i => if bn x = c then i else signFrom c r (i + 1)
def signsK (c : Int) : Int := signFrom c [58, 59, 44, 40, 41, 91, 93, 123, 125] 10
theorem signFrom_at (c : Int) (l : List UInt8) (k : Nat) (i : Int) (h : k < l.length) : signFrom c (l.drop k) i = if bn l[k] = c then i else signFrom c (l.drop (k + 1)) (i + 1) := by
  rw [List.drop_eq_getElem_cons h, signFrom]
theorem hasL_take (l t : List UInt8) : hasL l t = decide (t.length ≤ l.length ∧ l.take t.length = t) := by
  unfold hasL
  rw [Bool.eq_iff_iff, List.isPrefixOf_iff_prefix, decide_eq_true_iff]
  constructor
  · rintro ⟨r, rfl⟩; simp
  · rintro ⟨_, h⟩; rw [← h]; exact List.take_prefix _ _
theorem behindL_le (t : List UInt8) : ∀ l : List UInt8, behindL t l ≤ l.length
  | [] => Nat.le_refl _
  | c :: r => by
    unfold behindL
    split
    · rename_i h; rw [hasL_take] at h; simp at h; simp; omega
    · have := behindL_le t r; simp; omega
theorem behindL_go (t : List UInt8) (s : ByteArray) (k : Nat) (h : k < s.size) (e : hasL (s.data.toList.drop k) t = false) : behindL t (s.data.toList.drop k) = behindL t (s.data.toList.drop (k + 1)) + 1 := by
  rw [drop_at s k h] at *; rw [behindL, if_neg (by rw [e]; simp)]
theorem behindL_stop (t : List UInt8) (s : ByteArray) (k : Nat) (h : k < s.size) (e : hasL (s.data.toList.drop k) t = true) : behindL t (s.data.toList.drop k) = t.length := by
  rw [drop_at s k h] at *; rw [behindL, if_pos e]
theorem behindL_end (t : List UInt8) (s : ByteArray) (k : Nat) (h : ¬ k < s.size) : behindL t (s.data.toList.drop k) = 0 := by rw [drop_end s k h]; rfl
/-- a string behind its quote. -/
def quotedL (q : Int) (l : List UInt8) : Tok × Nat :=
  let b := runOf (fun n => decide (n ≠ q ∧ n ≠ 10)) l
  if b.length = l.length then (⟨5, b, 0⟩, b.length)
  else if atB l b.length 10 = true then (⟨6, b, 0⟩, b.length)
  else (⟨5, b, 0⟩, b.length + 1)
def measureL (l : List UInt8) (n : Nat) : Tok × Nat :=
  if atB l n 37 = true then (⟨8, [], worthL (l.take n)⟩, n + 1)
  else if startsL (l.drop n) = true then (⟨9, runL (l.drop n), worthL (l.take n)⟩, n + (runL (l.drop n)).length)
  else (⟨7, [], worthL (l.take n)⟩, n)
/-- what comes next: a token (of kind 0: none), and how many bytes it takes. -/
def oneL (l : List UInt8) : Tok × Nat :=
  match l with
  | [] => (⟨0, [], 0⟩, 0)
  | c :: r =>
    if hasL l [47, 42] = true then (⟨0, [], 0⟩, 2 + behindL [42, 47] (l.drop 2))
    else if blankB (bn c) = true then (⟨20, [], 0⟩, (runOf blankB l).length)
    else if bn c = 34 ∨ bn c = 39 then ((quotedL (bn c) r).1, (quotedL (bn c) r).2 + 1)
    else if 0 < numberL l then measureL l (numberL l)
    else if bn c = 35 ∧ 0 < (runL r).length then (⟨4, runL r, 0⟩, 1 + (runL r).length)
    else if bn c = 64 ∧ startsL r = true then (⟨3, runL r, 0⟩, 1 + (runL r).length)
    else if startsL l = true then
      (if hasL (l.drop (runL l).length) [40] = true then (⟨2, runL l, 0⟩, (runL l).length + 1) else (⟨1, runL l, 0⟩, (runL l).length))
    else if 0 < signsK (bn c) then (⟨signsK (bn c), [], 0⟩, 1)
    else (⟨19, [c], 0⟩, 1)
/-- a text's tokens. -/
def cutF : Nat → List UInt8 → List Tok
  | 0, _ => []
  | f + 1, l =>
    match l with
    | [] => []
    | _ :: _ => (if 0 < (oneL l).1.kind then [(oneL l).1] else []) ++ cutF f (l.drop (oneL l).2)
def cutL (l : List UInt8) : List Tok := cutF l.length l
end Wsc
