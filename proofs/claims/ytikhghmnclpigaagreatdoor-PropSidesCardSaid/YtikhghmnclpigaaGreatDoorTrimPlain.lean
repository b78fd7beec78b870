/-
  Plain laws of Trim: a list without Spaces at both ends. No program in sight.
-/
import Derived.Test.YtikhghmnclpigaaGreatDoorTokPlain
namespace Wsc
open Go

def isSp (t : Tok) : Bool := decide (t.kind = 20)
/-- the length without the Spaces at the end, of the first n. -/
def endL (l : List Tok) : Nat → Nat
  | 0 => 0
  | n + 1 => match l[n]? with
    | some t => if t.kind = 20 then endL l n else n + 1
    | none => endL l n
/-- a list without Spaces at both ends. -/
def trimL (l : List Tok) : List Tok := (l.take (endL l l.length)).drop (spacesL l)

theorem endL_sp (l : List Tok) (n : Nat) (h : n < l.length) (hk : l[n].kind = 20) : endL l (n + 1) = endL l n := by
  rw [endL, List.getElem?_eq_getElem h]; simp [hk]
theorem endL_no (l : List Tok) (n : Nat) (h : n < l.length) (hk : ¬ l[n].kind = 20) : endL l (n + 1) = n + 1 := by
  rw [endL, List.getElem?_eq_getElem h]; simp [hk]
theorem endL_le (l : List Tok) : ∀ n, endL l n ≤ n
  | 0 => Nat.le_refl _
  | n + 1 => by
    unfold endL
    split
    · split
      · have := endL_le l n; omega
      · omega
    · have := endL_le l n; omega
theorem spacesL_get : ∀ (l : List Tok) (i : Nat) (h : i < l.length), i < spacesL l → l[i].kind = 20
  | [], i, h, _ => by simp at h
  | t :: r, 0, _, h => by
    unfold spacesL at h
    split at h
    · assumption
    · omega
  | t :: r, i + 1, hl, h => by
    unfold spacesL at h
    split at h
    · simpa using spacesL_get r i (by simpa using hl) (by omega)
    · omega
theorem spacesL_at : ∀ (l : List Tok) (h : spacesL l < l.length), ¬ l[spacesL l].kind = 20
  | [], h => by simp at h
  | t :: r, h => by
    by_cases hk : t.kind = 20
    · have e : spacesL (t :: r) = spacesL r + 1 := by rw [spacesL, if_pos hk]
      have h2 : spacesL r < r.length := by rw [e] at h; simpa using h
      have := spacesL_at r h2
      simp only [e, List.getElem_cons_succ]; exact this
    · have e : spacesL (t :: r) = 0 := by rw [spacesL, if_neg hk]
      simp only [e, List.getElem_cons_zero]; exact hk
/-- where the last that is no Space stands: from the first such on. -/
theorem endL_gt (l : List Tok) (i : Nat) (h : i < l.length) (hk : ¬ l[i].kind = 20) : ∀ n, i < n → n ≤ l.length → i < endL l n
  | 0, h1, _ => by omega
  | n + 1, h1, h2 => by
    by_cases e : n = i
    · subst e; rw [endL_no l n h hk]; omega
    · have hn : n < l.length := by omega
      by_cases hs : l[n].kind = 20
      · rw [endL_sp l n hn hs]; exact endL_gt l i h hk n (by omega) (by omega)
      · rw [endL_no l n hn hs]; omega
theorem trimL_all (l : List Tok) (h : ¬ spacesL l < l.length) : trimL l = [] := by
  unfold trimL
  rw [List.drop_of_length_le]
  simp; have := endL_le l l.length; omega
theorem trimL_length (l : List Tok) : (trimL l).length = endL l l.length - spacesL l := by
  unfold trimL; simp; have := endL_le l l.length; omega
/-- the first place of what is no Space; -1: there is none. -/
def firstOther (l : List Tok) : Int := if spacesL l < l.length then (spacesL l : Int) else -1
theorem firstOther_in (l : List Tok) (h : spacesL l < l.length) : firstOther l = (spacesL l : Int) := if_pos h
theorem firstOther_out (l : List Tok) (h : ¬ spacesL l < l.length) : firstOther l = -1 := if_neg h
/-! by steps, as the reference goes -/
theorem endL_cons (t : Tok) (r : List Tok) : ∀ n, endL (t :: r) (n + 1) = if 0 < endL r n then endL r n + 1 else (if t.kind = 20 then 0 else 1)
  | 0 => by simp [endL]
  | n + 1 => by
    rw [endL, List.getElem?_cons_succ]
    cases h : r[n]? with
    | none => simp only; rw [endL_cons t r n, endL, h]
    | some u =>
      simp only
      by_cases hu : u.kind = 20
      · rw [if_pos hu, endL_cons t r n, endL, h]; simp [hu]
      · rw [if_neg hu, endL, h]; simp [hu]
theorem trimL_front (t : Tok) (r : List Tok) (h : t.kind = 20) : trimL (t :: r) = trimL r := by
  unfold trimL
  rw [spacesL, if_pos h, List.length_cons, endL_cons, h]
  by_cases h0 : 0 < endL r r.length
  · rw [if_pos h0, List.take_succ_cons, List.drop_succ_cons]
  · rw [if_neg h0, show endL r r.length = 0 by omega]; simp
theorem endL_take (l : List Tok) (t : Tok) : ∀ n, n ≤ l.length → endL (l ++ [t]) n = endL l n
  | 0, _ => rfl
  | n + 1, h => by
    rw [endL, endL, List.getElem?_append_left (by omega), endL_take l t n (by omega)]
theorem spacesL_append (l : List Tok) (t : Tok) : spacesL (l ++ [t]) = if spacesL l < l.length then spacesL l else l.length + (if t.kind = 20 then 1 else 0) := by
  induction l with
  | nil => simp [spacesL]
  | cons x r ih =>
    by_cases hx : x.kind = 20
    · have e1 : spacesL (x :: r) = spacesL r + 1 := by rw [spacesL, if_pos hx]
      have e2 : spacesL (x :: r ++ [t]) = spacesL (r ++ [t]) + 1 := by rw [List.cons_append, spacesL, if_pos hx]
      rw [e1, e2, ih]
      simp only [List.length_cons]
      by_cases h : spacesL r < r.length
      · rw [if_pos h, if_pos (by omega)]
      · rw [if_neg h, if_neg (show ¬ spacesL r + 1 < r.length + 1 by omega)]; omega
    · have e1 : spacesL (x :: r) = 0 := by rw [spacesL, if_neg hx]
      have e2 : spacesL (x :: r ++ [t]) = 0 := by rw [List.cons_append, spacesL, if_neg hx]
      rw [e1, e2, if_pos (by simp)]
theorem trimL_back (l : List Tok) (t : Tok) (h : t.kind = 20) : trimL (l ++ [t]) = trimL l := by
  unfold trimL
  have e : endL (l ++ [t]) (l ++ [t]).length = endL l l.length := by
    rw [List.length_append, List.length_singleton, endL_sp _ _ (by simp) (by simpa using h), endL_take l t _ (Nat.le_refl _)]
  have hle := endL_le l l.length
  rw [e, spacesL_append, List.take_append_of_le_length hle]
  by_cases h2 : spacesL l < l.length
  · rw [if_pos h2]
  · rw [if_neg h2, List.drop_of_length_le (by simp; omega), List.drop_of_length_le (by simp; omega)]
theorem trimL_done (l : List Tok) (h1 : ∀ h : 0 < l.length, ¬ l[0].kind = 20) (h2 : ∀ h : 0 < l.length, ¬ (l[l.length - 1]'(by omega)).kind = 20) : trimL l = l := by
  cases l with
  | nil => rfl
  | cons x r =>
    have h1' : ¬ x.kind = 20 := h1 (Nat.succ_pos _)
    have e1 : spacesL (x :: r) = 0 := by rw [spacesL, if_neg h1']
    have e2 : endL (x :: r) (x :: r).length = (x :: r).length := endL_no (x :: r) r.length (Nat.lt_succ_self _) (h2 (Nat.succ_pos _))
    unfold trimL
    rw [e1, e2]; simp
end Wsc
