/-
  Plain laws of layer 18: words, their advances and widths, lines in a room. No program in sight.
  Plain laws of layer 18: what lines in a room are like; more room, no more lines; the extremes.
-/
import Derived.Lib.Split
import Derived.Lib.Join
import Derived.Test.YtabhokgefpilkaaGreatDoorZ2
set_option linter.all false
namespace Wsc
open Go
def run (l : List UInt8) : List UInt8 := l.takeWhile (· != 32)
theorem index_one (c : UInt8) : ∀ s : List UInt8, (Lib.index s [c] = -1 ∧ s.takeWhile (· != c) = s) ∨ (Lib.index s [c] = ((s.takeWhile (· != c)).length : Int) ∧ (s.takeWhile (· != c)).length < s.length)
  | [] => by simp [Lib.index]
  | x :: s => by
    by_cases h : x = c
    · subst h; right; simp [Lib.index, List.isPrefixOf]
    have hp : ([c].isPrefixOf (x :: s)) = false := by
      simp [List.isPrefixOf]; exact fun e => h e.symm
    have hx : (x != c) = true := by simpa using h
    rcases index_one c s with ⟨h1, h2⟩ | ⟨h1, h2⟩
    · left
      refine ⟨?_, ?_⟩
      · rw [Lib.index]; simp [hp, h1]
      · rw [List.takeWhile_cons, if_pos hx, h2]
    right
    have hne : (Lib.index s [c] == -1) = false := by rw [h1]; simp
    refine ⟨?_, ?_⟩
    · rw [Lib.index]; simp only [hp, hne]; simp [hx, h1]
    simp [hx, h2]
theorem splitK_length : ∀ (k : Nat) (l : List UInt8), k = Lib.count l [32] → (Lib.splitK [32] 0 k l).length = k + 1 := by
  intro k
  induction k with
  | zero => intro l _; simp [Lib.splitK]
  | succ k ih =>
    intro l hk
    rcases index_one 32 l with ⟨h1, h2⟩ | ⟨h1, h2⟩
    · have := Lib.count_miss (sub := [32]) h1; omega
    have hc := Lib.count_hit (s := l) (sub := [32]) (by simp) h1
    have hne : (Lib.index l [32] == -1) = false := by rw [h1]; simp
    rw [Lib.splitK]
    simp only [hne]
    rw [if_neg (by simp), List.length_cons, ih]
    rw [h1]; simp at hc ⊢; omega
def pieces (s : ByteArray) : List ByteArray := Lib.splitB ⟨#[32]⟩ 0 (Lib.countB s ⟨#[32]⟩) s
theorem pieces_data (s : ByteArray) : (pieces s).map (·.data.toList) = Lib.splitK [32] 0 (Lib.count s.data.toList [32]) s.data.toList := Lib.splitB_data _ _ _ _
theorem pieces_length (s : ByteArray) : (pieces s).length = Lib.countB s ⟨#[32]⟩ + 1 := by
  have h := splitK_length _ s.data.toList rfl
  rw [← pieces_data, List.length_map] at h
  exact h
def narrowL : List Int := [102, 105, 106, 108, 114, 116, 46, 44, 58, 59, 39, 33, 124, 40, 41, 91, 93]
def wideL : List Int := [109, 119, 77, 87, 37]
def adv (n : Int) : Int := if n = 32 then 250 else if narrowL.contains n then 300 else if wideL.contains n then 800 else if 65 ≤ n ∧ n ≤ 90 ∨ 48 ≤ n ∧ n ≤ 57 then 600 else 500
def advs (l : List UInt8) : Int := (l.map fun c => adv (c.toNat : Int)).sum
def jw (xs : List (List UInt8)) : Int := advs (Lib.join xs [32])
def width (xs : List (List UInt8)) (font : Int) : Int := fpart font (jw xs) 1000
end Wsc
namespace Wsc
open Go
end Wsc
