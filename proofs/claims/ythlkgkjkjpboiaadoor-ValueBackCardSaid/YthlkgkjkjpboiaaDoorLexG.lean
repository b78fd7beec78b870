/-
  The walk of ref05.One, joined; ref05.Cut.
-/
import Derived.Test.YthlkgkjkjpboiaaDoorLexF
namespace Go.Proofs.YthlkgkjkjpboiaaDoor
open Go.RowKit Wsc
theorem signW_le (l : List UInt8) : signW l ≤ 1 ∧ signW l ≤ l.length := by
  cases l with
  | nil => simp [signW]
  | cons c r => simp only [signW, List.length_cons]; split <;> omega
theorem atB_lt {l : List UInt8} {i : Nat} {k : Int} (h : atB l i k = true) : i < l.length := by
  unfold atB at h
  cases e : l[i]? with
  | none => rw [e] at h; cases h
  | some c => exact (List.getElem?_eq_some_iff.1 e).1
theorem numberL_le (l : List UInt8) : numberL l ≤ l.length := by
  unfold numberL
  have h1 := signW_le l
  have h2 := digitsL_le (l.drop (signW l))
  have h3 := digitsL_le (l.drop (signW l + digitsL (l.drop (signW l)) + 1))
  rw [List.length_drop] at h2 h3
  split
  · rename_i h; have := atB_lt h.1; omega
  · split <;> omega
theorem signFrom_nonneg (c : Int) : ∀ (l : List UInt8) (i : Int), 0 ≤ i → 0 ≤ signFrom c l i
  | [], i, h => Int.le_refl _
  | x :: r, i, h => by unfold signFrom; split; exact h; exact signFrom_nonneg c r (i + 1) (by omega)
theorem signsK_nonneg (c : Int) : 0 ≤ signsK c := signFrom_nonneg c _ 10 (by decide)
theorem starts35 (s : ByteArray) (n : Nat) (h : n < s.size) (e : bn s[n] = 35 ∨ bn s[n] = 64) : startsL (s.data.toList.drop n) = false := by
  rw [startsL_other s n h (by omega)]
  rcases e with e | e <;> rw [e] <;> decide
theorem one_any (s : ByteArray) (n : Nat) (w : World) (hs : s.size ≤ 4611686018427387903) (hn : n < s.size) :
    Calls Tryd.prog 41 #[.string s, .int .i64 n] w (OneRes w (oneL (s.data.toList.drop n)) n) := by
  cases h1 : hasL (s.data.toList.drop n) [47, 42]
  case true => exact one_cmt s n w hs hn h1
  cases h2 : blankB (bn s[n])
  case true => exact one_blank s n w hs hn h1 h2
  by_cases ha : bn s[n] = 34
  · exact one_dq s n w hs hn h1 h2 ha
  by_cases hb : bn s[n] = 39
  · exact one_sq s n w hs hn h1 h2 hb
  have h3 : ¬ (bn s[n] = 34 ∨ bn s[n] = 39) := by omega
  by_cases h4 : 0 < numberL (s.data.toList.drop n)
  · refine one_num s n w hs hn h1 h2 h3 h4 ?_
    have := numberL_le (s.data.toList.drop n)
    rw [List.length_drop, Array.length_toList] at this
    have : numberL (s.data.toList.drop n) ≤ s.size - n := this
    omega
  have hsg := signsK_nonneg (bn s[n])
  by_cases h35 : bn s[n] = 35
  · by_cases hq : 0 < (runL (s.data.toList.drop (n + 1))).length
    · exact one_hash s n w hs hn h1 h2 h3 h4 h35 hq
    · exact one_delim35 s n w hs hn h1 h2 h3 h4 h35 (by omega) (starts35 s n hn (Or.inl h35)) (by rw [h35]; decide)
  by_cases h64 : bn s[n] = 64
  · cases hq : startsL (s.data.toList.drop (n + 1))
    case true => exact one_at s n w hs hn h1 h2 h3 h4 h64 hq
    exact one_delim64 s n w hs hn h1 h2 h3 h4 h64 hq (starts35 s n hn (Or.inr h64)) (by rw [h64]; decide)
  cases st : startsL (s.data.toList.drop n)
  case true =>
    cases hp : hasL (s.data.toList.drop (n + (runL (s.data.toList.drop n)).length)) [40]
    case true => exact one_func s n w hs hn h1 h2 h3 h4 h35 h64 st hp
    exact one_ident s n w hs hn h1 h2 h3 h4 h35 h64 st hp
  by_cases hk : 0 < signsK (bn s[n])
  · exact one_sign s n w hs hn h1 h2 h3 h4 h35 h64 st hk
  · exact one_delim s n w hs hn h1 h2 h3 h4 h35 h64 st (by omega)
end Go.Proofs.YthlkgkjkjpboiaaDoor
