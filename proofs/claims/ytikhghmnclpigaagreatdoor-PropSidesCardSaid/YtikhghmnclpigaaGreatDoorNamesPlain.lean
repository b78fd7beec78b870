/-
  Plain laws of names: the bytes with which a name begins and goes on. No program in sight.
-/
import Derived.Lib.Strings
namespace Wsc
open Go

def beginsB (n : Int) : Bool := decide (97 ≤ n ∧ n ≤ 122 ∨ 65 ≤ n ∧ n ≤ 90 ∨ n = 95 ∨ 128 ≤ n)
def goesB (n : Int) : Bool := decide (97 ≤ n ∧ n ≤ 122 ∨ 65 ≤ n ∧ n ≤ 90 ∨ n = 95 ∨ 128 ≤ n ∨ 48 ≤ n ∧ n ≤ 57 ∨ n = 45)
/-- a byte as a number. -/
abbrev bn (c : UInt8) : Int := (c.toNat : Int)
def starts2 : List UInt8 → Bool
  | [] => false
  | d :: _ => decide (bn d = 45) || beginsB (bn d)
def startsL : List UInt8 → Bool
  | [] => false
  | c :: r => if bn c = 45 then starts2 r else beginsB (bn c)
/-- the bytes with which a name goes on. -/
def runL (l : List UInt8) : List UInt8 := l.takeWhile fun c => goesB (bn c)
def nameB (l : List UInt8) : Bool := startsL l && l.all (fun c => goesB (bn c)) && decide (l.length ≤ 32)

theorem drop_at (s : ByteArray) (k : Nat) (h : k < s.size) : s.data.toList.drop k = s[k] :: s.data.toList.drop (k + 1) := by
  rw [List.drop_eq_getElem_cons (by simpa using h)]; rfl
theorem drop_end (s : ByteArray) (k : Nat) (h : ¬ k < s.size) : s.data.toList.drop k = [] := List.drop_of_length_le (by simp; omega)
theorem startsL_end (s : ByteArray) (k : Nat) (h : ¬ k < s.size) : startsL (s.data.toList.drop k) = false := by rw [drop_end s k h]; rfl
theorem startsL_dash (s : ByteArray) (k : Nat) (h : k < s.size) (h1 : k + 1 < s.size) (e : bn s[k] = 45) : startsL (s.data.toList.drop k) = (decide (bn s[k + 1] = 45) || beginsB (bn s[k + 1])) := by
  rw [drop_at s k h, drop_at s (k + 1) h1, startsL, if_pos e]; rfl
theorem startsL_dash_end (s : ByteArray) (k : Nat) (h : k < s.size) (h1 : ¬ k + 1 < s.size) (e : bn s[k] = 45) : startsL (s.data.toList.drop k) = false := by
  rw [drop_at s k h, drop_end s (k + 1) h1, startsL, if_pos e]; rfl
theorem startsL_other (s : ByteArray) (k : Nat) (h : k < s.size) (e : bn s[k] ≠ 45) : startsL (s.data.toList.drop k) = beginsB (bn s[k]) := by
  rw [drop_at s k h, startsL, if_neg e]
theorem runL_go (s : ByteArray) (k : Nat) (h : k < s.size) (e : goesB (bn s[k]) = true) : (runL (s.data.toList.drop k)).length = (runL (s.data.toList.drop (k + 1))).length + 1 := by
  rw [drop_at s k h]; simp [runL, e]
theorem runL_stop (s : ByteArray) (k : Nat) (h : k < s.size) (e : goesB (bn s[k]) = false) : (runL (s.data.toList.drop k)).length = 0 := by
  rw [drop_at s k h]; simp [runL, e]
theorem runL_end (s : ByteArray) (k : Nat) (h : ¬ k < s.size) : (runL (s.data.toList.drop k)).length = 0 := by rw [drop_end s k h]; rfl
theorem runL_le (l : List UInt8) : (runL l).length ≤ l.length := by
  unfold runL
  induction l with
  | nil => simp
  | cons c l ih => simp only [List.takeWhile_cons]; split <;> simp; exact ih
theorem runL_all (l : List UInt8) : (decide ((runL l).length = l.length)) = l.all (fun c => goesB (bn c)) := by
  unfold runL
  induction l with
  | nil => rfl
  | cons c l ih =>
    simp only [List.takeWhile_cons, List.all_cons]
    cases h : goesB (bn c)
    · simp
    · simp only [Bool.true_and]; rw [← ih]; simp
end Wsc
