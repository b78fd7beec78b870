/-
  Plain laws of layer 9: a value's tokens, read back alone and in lists. No program in sight.
-/
import Derived.Test.YtkbnmmknjmmlmaaGreatDoorTokPlain
namespace Wsc
open Go

def spT : Tok := ⟨20, [], 0⟩
def slT : Tok := ⟨19, [47], 0⟩
/-- a right value's tokens. -/
def rightToks (v : Val) : List Tok :=
  if v.kind = 1 then [⟨1, atL wordsL v.n, 0⟩]
  else if v.kind = 6 then [⟨1, v.name, 0⟩]
  else if v.kind = 2 then [⟨9, atL unitsL v.d, v.n⟩]
  else if v.kind = 3 then [⟨8, [], v.n⟩]
  else if v.kind = 5 then [⟨7, [], v.n⟩, spT, slT, spT, ⟨7, [], v.d⟩]
  else [⟨7, [], v.n⟩]
def tokensL (v : Val) : List Tok := if rightV v = true then rightToks v else []
theorem rightToks_length (v : Val) : (rightToks v).length = if v.kind = 5 then 5 else 1 := by
  unfold rightToks; (repeat' split) <;> first | rfl | omega
theorem tokensL_le (v : Val) : (tokensL v).length ≤ 5 := by
  unfold tokensL; split
  · rw [rightToks_length]; split <;> omega
  · simp
/-- no Slash is the first that is no Space. -/
def noSlash (r : List Tok) : Prop := signAt r (spacesL r) [47] = false
theorem signAt_drop (l : List Tok) (i j : Nat) (s : List UInt8) : signAt l (i + j) s = signAt (l.drop i) j s := by unfold signAt; rw [List.getElem?_drop]
theorem words_back : ∀ i : Fin 31, 1 ≤ i.val → placeL wordsL (wordsL.getD i.val []) = i.val := by decide +kernel
theorem units_back : ∀ i : Fin 9, 1 ≤ i.val → placeL unitsL (unitsL.getD i.val []) = i.val := by decide +kernel
theorem place_word (n : Int) (h : 1 ≤ n ∧ n ≤ 30) : (placeL wordsL (atL wordsL n) : Int) = n := by
  unfold atL; rw [wordsL_length, if_pos (by omega)]
  have := words_back ⟨n.toNat, by omega⟩ (by simp; omega)
  simp only at this
  rw [this]; omega
theorem place_unit (n : Int) (h : 1 ≤ n ∧ n ≤ 8) : (placeL unitsL (atL unitsL n) : Int) = n := by
  unfold atL; rw [unitsL_length, if_pos (by omega)]
  have := units_back ⟨n.toNat, by omega⟩ (by simp; omega)
  simp only at this
  rw [this]; omega
theorem ratioL_num (t : Tok) (r : List Tok) (h : noSlash r) : (ratioL (t :: r)).2 = 0 := by
  unfold ratioL
  rw [if_neg]
  rintro ⟨h1, _⟩
  unfold noSlash at h
  unfold skipL at h1
  rw [List.drop_succ_cons, List.drop_zero, signAt_drop, List.drop_succ_cons, List.drop_zero, h] at h1
  cases h1
theorem read_back (v : Val) (r : List Tok) (hv : rightV v = true) (hr : noSlash r) : readL (tokensL v ++ r) = (v, (tokensL v).length) := by
  have hv0 := hv
  obtain ⟨k, n, d, nm⟩ := v
  have key : frontL (tokensL ⟨k, n, d, nm⟩ ++ r) = (⟨k, n, d, nm⟩, (tokensL ⟨k, n, d, nm⟩).length) := by
    unfold tokensL
    rw [if_pos hv]
    unfold rightV at hv
    unfold rightToks
    simp only at hv ⊢
    by_cases h1 : k = 1
    · subst h1
      simp at hv
      obtain ⟨a, b, rfl, rfl⟩ := hv
      have hp := place_word n ⟨a, b⟩
      simp only [if_pos, List.cons_append, List.nil_append, frontL, List.length_singleton]
      rw [if_neg (by omega), if_neg (by omega), if_neg (by omega)]
      unfold wordV
      rw [if_pos (by omega), hp]
    rw [if_neg h1] at hv ⊢
    by_cases h6 : k = 6
    · subst h6
      simp at hv
      obtain ⟨rfl, rfl, a, b⟩ := hv
      simp only [if_pos, List.cons_append, List.nil_append, frontL, List.length_singleton]
      rw [if_neg (by omega), if_neg (by omega), if_neg (by omega)]
      unfold wordV
      rw [if_neg (by omega)]
    rw [if_neg h6]
    by_cases h2 : k = 2
    · subst h2
      simp at hv
      obtain ⟨a, b, c, rfl⟩ := hv
      have hp := place_unit d ⟨b, c⟩
      simp only [if_pos, List.cons_append, List.nil_append, frontL, List.length_singleton]
      rw [if_neg (by omega), if_neg (by omega), hp]
    rw [if_neg h2] at hv ⊢
    by_cases h3 : k = 3
    · subst h3
      simp at hv
      obtain ⟨a, rfl, rfl⟩ := hv
      simp only [if_pos, List.cons_append, List.nil_append, frontL, List.length_singleton]
      rw [if_neg (by omega)]
    rw [if_neg h3]
    by_cases h5 : k = 5
    · subst h5
      simp at hv
      obtain ⟨a, b, c, e, rfl⟩ := hv
      simp only [if_pos, List.cons_append, List.nil_append, frontL]
      have R : ratioL ((⟨7, [], n⟩ : Tok) :: spT :: slT :: spT :: ⟨7, [], d⟩ :: r) = (⟨5, n, d, []⟩, 5) := by
        have s1 : skipL ((⟨7, [], n⟩ : Tok) :: spT :: slT :: spT :: ⟨7, [], d⟩ :: r) 1 = 2 := by simp [skipL, spacesL, spT, slT]
        have s2 : skipL ((⟨7, [], n⟩ : Tok) :: spT :: slT :: spT :: ⟨7, [], d⟩ :: r) 3 = 4 := by simp [skipL, spacesL, spT]
        unfold ratioL
        rw [s1, s2, if_pos ⟨rfl, rfl⟩]
        rfl
      rw [R]
      rfl
    rw [if_neg h5] at hv ⊢
    by_cases h4 : k = 4
    · subst h4
      simp at hv
      obtain ⟨a, rfl, rfl⟩ := hv
      simp only [if_pos, List.cons_append, List.nil_append, frontL, List.length_singleton]
      rw [if_neg (by rw [ratioL_num _ _ hr]; omega)]
    · rw [if_neg (by omega)] at hv
      rw [if_neg h6] at hv
      cases hv
  unfold readL
  rw [key, if_pos hv0]
/-! lists -/
def restL (vs : List Val) : List Tok := vs.flatMap fun u => spT :: spT :: tokensL u
/-- values, with two Spaces between. -/
def joinL : List Val → List Tok
  | [] => []
  | v :: vs => tokensL v ++ restL vs
/-- the first token of a right value is neither Space nor Slash; nor is the last a Space. -/
theorem tokens_first (v : Val) (hv : rightV v = true) : ∃ t r, tokensL v = t :: r ∧ ¬ t.kind = 20 ∧ ¬ t.kind = 19 := by
  unfold tokensL; rw [if_pos hv]
  unfold rightToks
  (repeat' split) <;> exact ⟨_, _, rfl, by simp, by simp⟩
theorem tokens_last (v : Val) (hv : rightV v = true) : ∃ d t, tokensL v = d ++ [t] ∧ ¬ t.kind = 20 := by
  unfold tokensL; rw [if_pos hv]
  unfold rightToks
  (repeat' split)
  any_goals exact ⟨[], _, rfl, by simp⟩
  exact ⟨[⟨7, [], v.n⟩, spT, slT, spT], _, rfl, by simp⟩
theorem noSlash_nil : noSlash [] := rfl
theorem rest_noSlash (vs : List Val) (h : ∀ v ∈ vs, rightV v = true) : noSlash (restL vs) := by
  cases vs with
  | nil => exact noSlash_nil
  | cons v vs =>
    obtain ⟨t, r, e, h1, h2⟩ := tokens_first v (h v (by simp))
    unfold restL noSlash
    rw [List.flatMap_cons, e]
    have : spacesL ((spT :: spT :: t :: r) ++ vs.flatMap fun u => spT :: spT :: tokensL u) = 2 := by
      simp [spacesL, spT, h1]
    rw [this]
    simp [signAt, h2]
theorem rest_last (vs : List Val) (h : ∀ v ∈ vs, rightV v = true) (hn : vs ≠ []) : ∃ d t, restL vs = d ++ [t] ∧ ¬ t.kind = 20 := by
  rw [← List.dropLast_concat_getLast hn]
  obtain ⟨d, t, e, ht⟩ := tokens_last (vs.getLast hn) (h _ (List.getLast_mem hn))
  refine ⟨restL vs.dropLast ++ spT :: spT :: d, t, ?_, ht⟩
  simp [restL, e]
theorem join_trim (l : List Val) (h : ∀ v ∈ l, rightV v = true) (hn : l ≠ []) : trimL (joinL l) = joinL l := by
  cases l with
  | nil => exact absurd rfl hn
  | cons v vs =>
    obtain ⟨t, r, e, h1, _⟩ := tokens_first v (h v (by simp))
    have hlast : ∃ d u, joinL (v :: vs) = d ++ [u] ∧ ¬ u.kind = 20 := by
      by_cases hv : vs = []
      · subst hv
        obtain ⟨d, u, e2, hu⟩ := tokens_last v (h v (by simp))
        exact ⟨d, u, by simp [joinL, restL, e2], hu⟩
      · obtain ⟨d, u, e2, hu⟩ := rest_last vs (fun v hv => h v (by simp [hv])) hv
        exact ⟨tokensL v ++ d, u, by simp [joinL, e2], hu⟩
    obtain ⟨d, u, e2, hu⟩ := hlast
    refine trimL_done _ ?_ ?_
    · intro hp
      have : (joinL (v :: vs))[0] = t := by simp [joinL, e]
      rw [this]; exact h1
    · intro hp
      have : (joinL (v :: vs))[(joinL (v :: vs)).length - 1]'(by omega) = u := by simp [e2]
      rw [this]; exact hu
theorem parseF_join : ∀ (vs : List Val) (v : Val) (f : Nat), (∀ u ∈ v :: vs, rightV u = true) → vs.length < f → parseF f (joinL (v :: vs)) = some (v :: vs)
  | [], v, f, h, hf => by
    obtain ⟨f, rfl⟩ : ∃ g, f = g + 1 := ⟨f - 1, by omega⟩
    have hv := h v (by simp)
    obtain ⟨t, r, e, _, _⟩ := tokens_first v hv
    have R := read_back v [] hv noSlash_nil
    have J : joinL [v] = tokensL v ++ [] := by simp [joinL, restL]
    rw [J, parseF_one _ _ (by rw [R, e]; simp) (by rw [R]; simp), R]
  | u :: vs, v, f, h, hf => by
    obtain ⟨f, rfl⟩ : ∃ g, f = g + 1 := ⟨f - 1, by omega⟩
    have hv := h v (by simp)
    obtain ⟨t, r, e, _, _⟩ := tokens_first v hv
    have hr : ∀ x ∈ u :: vs, rightV x = true := fun x hx => h x (by simp at hx ⊢; exact Or.inr hx)
    have R := read_back v (restL (u :: vs)) hv (rest_noSlash _ hr)
    have J : joinL (v :: u :: vs) = tokensL v ++ restL (u :: vs) := rfl
    obtain ⟨t2, r2, e2, h20, _⟩ := tokens_first u (hr u (by simp))
    have hd : (tokensL v ++ restL (u :: vs)).drop (tokensL v).length = restL (u :: vs) := by simp
    have hs : spacesL (restL (u :: vs)) = 2 := by unfold restL; rw [List.flatMap_cons, e2]; simp [spacesL, spT, h20]
    have S : skipL (tokensL v ++ restL (u :: vs)) (tokensL v).length = (tokensL v).length + 2 := by unfold skipL; rw [hd, hs]
    have D : (tokensL v ++ restL (u :: vs)).drop ((tokensL v).length + 2) = joinL (u :: vs) := by
      rw [← List.drop_drop, hd]; rfl
    rw [J, parseF_more _ _ (by rw [R, e]; simp) (by rw [R, List.length_append]; unfold restL; simp) (by rw [R, S]; simp), R, S, D, parseF_join vs u f hr (by simp at hf; omega)]
    rfl
theorem parse_join (l : List Val) (h : ∀ v ∈ l, rightV v = true) (hn : l ≠ []) : parseL (joinL l) = some l := by
  unfold parseL
  rw [join_trim l h hn]
  cases l with
  | nil => exact absurd rfl hn
  | cons v vs =>
    refine parseF_join vs v _ h ?_
    have : vs.length ≤ (restL vs).length := by
      unfold restL
      clear h hn
      induction vs with
      | nil => simp
      | cons u vs ih => rw [List.flatMap_cons, List.length_append]; simp only [List.length_cons]; omega
    show vs.length < (tokensL v ++ restL vs).length + 1
    rw [List.length_append]; omega
end Wsc
