/-
  Plain laws of layer 1: numbers held, divided downward. No program in sight.
  Plain laws of names: the bytes with which a name begins and goes on. No program in sight.
-/
import Derived.Lib.Strings
namespace Wsc

/-- the nearest number that there is. -/
def hold (x : Int) : Int := if x < -1073741824 then -1073741824 else if 1073741824 < x then 1073741824 else x
/-- a quotient, the greatest whole number that is not above. -/
def floor (p d : Int) : Int := if d < 0 then (-p) / (-d) else p / d
def fpart (a n d : Int) : Int := if d = 0 then 0 else hold (floor (hold a * hold n) (hold d))

theorem hold_bd (x : Int) : -1073741824 ≤ hold x ∧ hold x ≤ 1073741824 := by unfold hold; split <;> (try split) <;> omega
theorem hold_id (x : Int) (h : -1073741824 ≤ x ∧ x ≤ 1073741824) : hold x = x := by unfold hold; split <;> (try split) <;> omega
theorem hold_mono {a b : Int} (h : a ≤ b) : hold a ≤ hold b := by unfold hold; repeat' split <;> omega
theorem hold_eq_zero (x : Int) : hold x = 0 ↔ x = 0 := by unfold hold; split <;> (try split) <;> omega
theorem hold_pos {x : Int} (h : 0 < x) : 0 < hold x := by unfold hold; split <;> (try split) <;> omega
theorem hold_neg {x : Int} (h : x < 0) : hold x < 0 := by unfold hold; split <;> (try split) <;> omega
theorem hold_nonneg {x : Int} (h : 0 ≤ x) : 0 ≤ hold x := by unfold hold; split <;> (try split) <;> omega
theorem hold_hold (x : Int) : hold (hold x) = hold x := hold_id _ (hold_bd x)

theorem mul_bd {a b A B : Int} (ha : -A ≤ a ∧ a ≤ A) (hb : -B ≤ b ∧ b ≤ B) : -(A * B) ≤ a * b ∧ a * b ≤ A * B := by
  have hA : 0 ≤ A := by omega
  have hB : 0 ≤ B := by omega
  have h1 : (a * b).natAbs ≤ (A * B).natAbs := by
    rw [Int.natAbs_mul, Int.natAbs_mul]; exact Nat.mul_le_mul (by omega) (by omega)
  have h2 : 0 ≤ A * B := Int.mul_nonneg hA hB
  omega
theorem hold_mul_bd (a n : Int) : -1152921504606846976 ≤ hold a * hold n ∧ hold a * hold n ≤ 1152921504606846976 := by
  have := mul_bd (hold_bd a) (hold_bd n); simpa using this

theorem div_le' {p d P : Int} (h : -P ≤ p ∧ p ≤ P) (hd : 1 ≤ d) : p / d ≤ P := by
  have : p / d < P + 1 := by
    rw [Int.ediv_lt_iff_lt_mul (by omega)]
    have : (P + 1) * 1 ≤ (P + 1) * d := Int.mul_le_mul_of_nonneg_left hd (by omega)
    omega
  omega
theorem div_bd {p d : Int} (P : Int) (h : -P ≤ p ∧ p ≤ P) (hd : 1 ≤ d) : -P ≤ p / d ∧ p / d ≤ P := by
  refine ⟨?_, div_le' h hd⟩
  rw [Int.le_ediv_iff_mul_le (by omega)]
  have : -P * d ≤ -P * 1 := Int.mul_le_mul_of_nonpos_left (by omega) hd
  omega
theorem floor_bd {p d : Int} (P : Int) (h : -P ≤ p ∧ p ≤ P) (hd : d ≠ 0) : -P ≤ floor p d ∧ floor p d ≤ P := by
  unfold floor; split
  · exact div_bd P (by omega) (by omega)
  · exact div_bd P h (by omega)

/-- Go's quotient and rest, turned into the floor. -/
theorem down_eq (p d : Int) (hd : d ≠ 0) : floor p d = if p.tmod d ≠ 0 ∧ (decide (p < 0) != decide (d < 0)) = true then p.tdiv d - 1 else p.tdiv d := by
  have e := Int.mul_tdiv_add_tmod p d
  have b1 := Int.tmod_lt_of_pos p (b := d)
  have key : ∀ P D : Int, 0 < D → P / D = if P.tmod D ≠ 0 ∧ P < 0 then P.tdiv D - 1 else P.tdiv D := by
    intro P D hD
    by_cases hP : P < 0
    · have e := Int.mul_tdiv_add_tmod P D
      have hn : P.tmod D ≤ 0 := by
        have := Int.tmod_nonneg D (a := -P) (by omega)
        rw [Int.neg_tmod] at this; omega
      have hl : -D < P.tmod D := by
        have := Int.tmod_lt_of_pos (-P) hD
        rw [Int.neg_tmod] at this; omega
      by_cases h0 : P.tmod D = 0
      · rw [if_neg (by simp [h0])]
        have : P = P.tdiv D * D := by rw [h0] at e; rw [Int.mul_comm]; omega
        conv => lhs; rw [this]
        exact Int.mul_ediv_cancel _ (by omega)
      · rw [if_pos ⟨h0, hP⟩]
        have : P = (P.tdiv D - 1) * D + (P.tmod D + D) := by rw [Int.sub_mul, Int.mul_comm]; omega
        conv => lhs; rw [this]
        rw [Int.add_comm, Int.add_mul_ediv_right _ _ (by omega), Int.ediv_eq_zero_of_lt (by omega) (by omega)]; omega
    · rw [if_neg (by omega), Int.tdiv_eq_ediv_of_nonneg (by omega)]
  unfold floor
  split
  · rename_i h
    rw [key (-p) (-d) (by omega), Int.neg_tmod, Int.tmod_neg, Int.neg_tdiv, Int.tdiv_neg, Int.neg_neg]
    by_cases hp : p < 0
    · rw [if_neg (by omega), if_neg (by simp [hp, h])]
    · by_cases h0 : p.tmod d = 0
      · rw [if_neg (by simp [h0]), if_neg (by simp [h0])]
      · have : -p < 0 := by
          rcases Int.lt_or_eq_of_le (show 0 ≤ p by omega) with g | g
          · omega
          · subst g; simp at h0
        rw [if_pos ⟨by omega, this⟩, if_pos ⟨h0, by simp [hp, h]⟩]
  · rename_i h
    rw [key p d (by omega)]
    by_cases hp : p < 0 <;> simp [hp, h]

theorem fpart_bd (a n d : Int) : -1073741824 ≤ fpart a n d ∧ fpart a n d ≤ 1073741824 := by
  unfold fpart; split
  · omega
  · exact hold_bd _
theorem floor_mono {p q d : Int} (hd : 0 < d) (h : p ≤ q) : floor p d ≤ floor q d := by
  unfold floor; rw [if_neg (by omega), if_neg (by omega)]; exact Int.ediv_le_ediv hd h
theorem fpart_mono {a n m d : Int} (ha : 0 ≤ a) (hd : 0 < d) (h : n ≤ m) : fpart a n d ≤ fpart a m d := by
  unfold fpart; rw [if_neg (by omega), if_neg (by omega)]
  exact hold_mono (floor_mono (hold_pos hd) (Int.mul_le_mul_of_nonneg_left (hold_mono h) (hold_nonneg ha)))
theorem neg_div_up (p d : Int) (h : 1 ≤ d) : (d - 1 - p) / d = - (p / d) := by
  have e := Int.mul_ediv_add_emod p d
  have b1 := Int.emod_nonneg p (b := d) (by omega)
  have b2 := Int.emod_lt_of_pos p (b := d) (by omega)
  have : d - 1 - p = (d - 1 - p % d) + (-(p / d)) * d := by rw [Int.neg_mul, Int.mul_comm]; omega
  rw [this, Int.add_mul_ediv_right _ _ (by omega), Int.ediv_eq_zero_of_lt (by omega) (by omega)]; omega
theorem tdiv_bd {p d P : Int} (hp : -P ≤ p ∧ p ≤ P) : -P ≤ p.tdiv d ∧ p.tdiv d ≤ P := by
  have h : (p.tdiv d).natAbs ≤ p.natAbs := by rw [Int.natAbs_tdiv]; exact Nat.div_le_self _ _
  omega
end Wsc
namespace Wsc
open Go

def beginsB (n : Int) : Bool := decide (97 ≤ n ∧ n ≤ 122 ∨ 65 ≤ n ∧ n ≤ 90 ∨ n = 95 ∨ 128 ≤ n)
def goesB (n : Int) : Bool := decide (97 ≤ n ∧ n ≤ 122 ∨ 65 ≤ n ∧ n ≤ 90 ∨ n = 95 ∨ 128 ≤ n ∨ 48 ≤ n ∧ n ≤ 57 ∨ n = 45)
/-- a byte as a number. -/
abbrev bn (c : UInt8) : Int := (c.toNat : Int)
def starts2 : List UInt8 → Bool
  | [] => false
  | d :: _ => decide (bn d = 45) || beginsB (bn d)
def startsL : List UInt8 → Bool
  | [] => false
  | c :: r => if bn c = 45 then starts2 r else beginsB (bn c)
/-- the bytes with which a name goes on. -/
def runL (l : List UInt8) : List UInt8 := l.takeWhile fun c => goesB (bn c)
def nameB (l : List UInt8) : Bool := startsL l && l.all (fun c => goesB (bn c)) && decide (l.length ≤ 32)

theorem drop_at (s : ByteArray) (k : Nat) (h : k < s.size) : s.data.toList.drop k = s[k] :: s.data.toList.drop (k + 1) := by
  rw [List.drop_eq_getElem_cons (by simpa using h)]; rfl
theorem drop_end (s : ByteArray) (k : Nat) (h : ¬ k < s.size) : s.data.toList.drop k = [] := List.drop_of_length_le (by simp; omega)
theorem startsL_end (s : ByteArray) (k : Nat) (h : ¬ k < s.size) : startsL (s.data.toList.drop k) = false := by rw [drop_end s k h]; rfl
theorem startsL_dash (s : ByteArray) (k : Nat) (h : k < s.size) (h1 : k + 1 < s.size) (e : bn s[k] = 45) : startsL (s.data.toList.drop k) = (decide (bn s[k + 1] = 45) || beginsB (bn s[k + 1])) := by
  rw [drop_at s k h, drop_at s (k + 1) h1, startsL, if_pos e]; rfl
theorem startsL_dash_end (s : ByteArray) (k : Nat) (h : k < s.size) (h1 : ¬ k + 1 < s.size) (e : bn s[k] = 45) : startsL (s.data.toList.drop k) = false := by
  rw [drop_at s k h, drop_end s (k + 1) h1, startsL, if_pos e]; rfl
theorem startsL_other (s : ByteArray) (k : Nat) (h : k < s.size) (e : bn s[k] ≠ 45) : startsL (s.data.toList.drop k) = beginsB (bn s[k]) := by
  rw [drop_at s k h, startsL, if_neg e]
theorem runL_go (s : ByteArray) (k : Nat) (h : k < s.size) (e : goesB (bn s[k]) = true) : (runL (s.data.toList.drop k)).length = (runL (s.data.toList.drop (k + 1))).length + 1 := by
  rw [drop_at s k h]; simp [runL, e]
theorem runL_stop (s : ByteArray) (k : Nat) (h : k < s.size) (e : goesB (bn s[k]) = false) : (runL (s.data.toList.drop k)).length = 0 := by
  rw [drop_at s k h]; simp [runL, e]
theorem runL_end (s : ByteArray) (k : Nat) (h : ¬ k < s.size) : (runL (s.data.toList.drop k)).length = 0 := by rw [drop_end s k h]; rfl
theorem runL_le (l : List UInt8) : (runL l).length ≤ l.length := by
  unfold runL
  induction l with
  | nil => simp
  | cons c l ih => simp only [List.takeWhile_cons]; split <;> simp; exact ih
theorem runL_all (l : List UInt8) : (decide ((runL l).length = l.length)) = l.all (fun c => goesB (bn c)) := by
  unfold runL
  induction l with
  | nil => rfl
  | cons c l ih =>
    simp only [List.takeWhile_cons, List.all_cons]
    cases h : goesB (bn c)
    · simp
    · simp only [Bool.true_and]; rw [← ih]; simp
end Wsc
