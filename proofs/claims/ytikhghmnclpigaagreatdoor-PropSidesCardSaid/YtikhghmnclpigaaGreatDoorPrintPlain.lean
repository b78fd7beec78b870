/-
  Plain laws of numbers' texts (layer 1): what is printed is measured, and is worth what it was. No program in sight.
-/
import Derived.Test.YtikhghmnclpigaaGreatDoorLexPlain
namespace Wsc
open Go

def dg (n : Nat) : UInt8 := UInt8.ofNat (48 + n)
theorem bn_dg (n : Nat) (h : n < 10) : bn (dg n) = 48 + n := by
  unfold bn dg; rw [UInt8.toNat_ofNat']; omega
theorem digB_dg (n : Nat) (h : n < 10) : digB (bn (dg n)) = true := by rw [bn_dg n h]; unfold digB; simp; omega
/-- the digits of a number that is not below 0. -/
def wholeL (n : Nat) : List UInt8 := if n < 10 then [dg n] else wholeL (n / 10) ++ [dg (n % 10)]
termination_by n
decreasing_by omega
theorem wholeL_small (n : Nat) (h : n < 10) : wholeL n = [dg n] := by rw [wholeL, if_pos h]
theorem wholeL_big (n : Nat) (h : ¬ n < 10) : wholeL n = wholeL (n / 10) ++ [dg (n % 10)] := by rw [wholeL, if_neg h]
/-- digits, the greatest first, while there is a rest: k is 100, 10 or 1. -/
def fracF : Nat → Nat → Nat → List UInt8
  | 0, _, _ => []
  | f + 1, p, k => if p = 0 then [] else wholeL (p / k) ++ fracF f (p % k) (k / 10)
def fracL (p : Nat) : List UInt8 := fracF 3 p 100
/-- the text of a number that is not below 0, in thousandths. -/
def posL (m : Nat) : List UInt8 := wholeL (m / 1000) ++ (if m % 1000 = 0 then [] else 46 :: fracL (m % 1000))
def printN (n : Int) : List UInt8 := if hold n < 0 then 45 :: posL (-(hold n)).toNat else posL (hold n).toNat
/-! all of them digits -/
def allDig (l : List UInt8) : Prop := ∀ c ∈ l, digB (bn c) = true
theorem wholeL_dig : ∀ (k n : Nat), n ≤ k → allDig (wholeL n) ∧ wholeL n ≠ []
  | 0, n, h => by
    rw [wholeL_small n (by omega)]
    exact ⟨fun c hc => by simp at hc; subst hc; exact digB_dg n (by omega), by simp⟩
  | k + 1, n, h => by
    by_cases hn : n < 10
    · rw [wholeL_small n hn]
      exact ⟨fun c hc => by simp at hc; subst hc; exact digB_dg n hn, by simp⟩
    · rw [wholeL_big n hn]
      refine ⟨fun c hc => ?_, by simp⟩
      rw [List.mem_append] at hc
      rcases hc with hc | hc
      · exact (wholeL_dig k (n / 10) (by omega)).1 c hc
      · simp at hc; subst hc; exact digB_dg _ (by omega)
theorem whole_dig (n : Nat) : allDig (wholeL n) := (wholeL_dig n n (Nat.le_refl _)).1
theorem whole_ne (n : Nat) : wholeL n ≠ [] := (wholeL_dig n n (Nat.le_refl _)).2
theorem wholeL_len : ∀ (k n : Nat), n < 10 ^ (k + 1) → (wholeL n).length ≤ k + 1
  | 0, n, h => by rw [wholeL_small n (by omega)]; simp
  | k + 1, n, h => by
    by_cases hn : n < 10
    · rw [wholeL_small n hn]; simp
    · rw [wholeL_big n hn, List.length_append, List.length_singleton]
      have := wholeL_len k (n / 10) (by rw [Nat.div_lt_iff_lt_mul (by decide)]; rwa [Nat.pow_succ] at h)
      omega
theorem fracF_dig : ∀ (f p k : Nat), allDig (fracF f p k)
  | 0, _, _ => fun c hc => by cases hc
  | f + 1, p, k => by
    unfold fracF
    split
    · exact fun c hc => by cases hc
    · intro c hc
      rw [List.mem_append] at hc
      rcases hc with hc | hc
      · exact whole_dig _ c hc
      · exact fracF_dig f _ _ c hc
theorem frac_ne (p : Nat) (h : ¬ p = 0) : fracL p ≠ [] := by
  unfold fracL fracF
  rw [if_neg h]
  intro e
  exact whole_ne _ (List.append_eq_nil_iff.1 e).1
/-! measured -/
/-- no digit and no dot is first. -/
def stopL (r : List UInt8) : Prop := ∀ c t, r = c :: t → digB (bn c) = false ∧ ¬ bn c = 46
theorem stop_nil : stopL [] := fun c t e => by cases e
theorem run_dig (l r : List UInt8) (hl : allDig l) (hr : ∀ c t, r = c :: t → digB (bn c) = false) : runOf digB (l ++ r) = l := by
  unfold runOf
  induction l with
  | nil =>
    cases r with
    | nil => rfl
    | cons c t => simp [hr c t rfl]
  | cons c l ih =>
    rw [List.cons_append, List.takeWhile_cons, if_pos (hl c (by simp)), ih (fun x hx => hl x (by simp [hx]))]
theorem atB_append (l r : List UInt8) (k : Int) : atB (l ++ r) l.length k = atB r 0 k := by
  unfold atB; rw [List.getElem?_append_right (Nat.le_refl _), Nat.sub_self]
theorem posL_first (m : Nat) : ∃ c t, posL m = c :: t ∧ digB (bn c) = true := by
  unfold posL
  have h1 := whole_dig (m / 1000)
  have h2 := whole_ne (m / 1000)
  cases h : wholeL (m / 1000) with
  | nil => exact absurd h h2
  | cons c t => exact ⟨c, _, rfl, h1 c (by rw [h]; simp)⟩
theorem atB_stop (r : List UInt8) (h : stopL r) : atB r 0 46 = false := by
  cases r with
  | nil => rfl
  | cons c t => simp [atB, (h c t rfl).2]
theorem digits_zero (r : List UInt8) (h : stopL r) : digitsL r = 0 := by
  unfold digitsL
  cases r with
  | nil => rfl
  | cons c t => simp [runOf, (h c t rfl).1]
/-- behind the sign. -/
theorem number_pos (m : Nat) (r : List UInt8) (h : stopL r) : numberL (posL m ++ r) = (posL m).length := by
  obtain ⟨c, t, e, hc⟩ := posL_first m
  have hs : signW (posL m ++ r) = 0 := by
    rw [e, List.cons_append, signW, if_neg]
    unfold digB at hc; simp at hc; omega
  unfold numberL
  rw [hs, List.drop_zero, Nat.zero_add]
  unfold posL
  by_cases h0 : m % 1000 = 0
  · rw [if_pos h0, List.append_nil]
    have hd : digitsL (wholeL (m / 1000) ++ r) = (wholeL (m / 1000)).length := by
      unfold digitsL; rw [run_dig _ _ (whole_dig _) (fun c t e => (h c t e).1)]
    have hne : ¬ (wholeL (m / 1000)).length = 0 := fun e => whole_ne _ (List.eq_nil_of_length_eq_zero e)
    rw [hd, atB_append, atB_stop r h, if_neg (by simp), if_neg hne]
  · rw [if_neg h0, List.append_assoc, List.cons_append]
    have hd : digitsL (wholeL (m / 1000) ++ 46 :: (fracL (m % 1000) ++ r)) = (wholeL (m / 1000)).length := by
      unfold digitsL; rw [run_dig _ _ (whole_dig _) (fun c t e => by cases e; rfl)]
    have h46 : atB (wholeL (m / 1000) ++ 46 :: (fracL (m % 1000) ++ r)) (wholeL (m / 1000)).length 46 = true := by rw [atB_append]; rfl
    have hdrop : (wholeL (m / 1000) ++ 46 :: (fracL (m % 1000) ++ r)).drop ((wholeL (m / 1000)).length + 1) = fracL (m % 1000) ++ r := by
      rw [← List.drop_drop, List.drop_left]; rfl
    have hd2 : digitsL (fracL (m % 1000) ++ r) = (fracL (m % 1000)).length := by
      unfold digitsL; rw [run_dig (fracL (m % 1000)) _ (fracF_dig _ _ _) (fun c t e => (h c t e).1)]
    have hne : 0 < (fracL (m % 1000)).length := List.length_pos_iff.2 (frac_ne _ h0)
    rw [hd, h46, hdrop, hd2, if_pos ⟨rfl, hne⟩]
    simp; omega
theorem number_neg (X : List UInt8) (h : signW X = 0) (hp : 0 < numberL X) : numberL (45 :: X) = numberL X + 1 := by
  have hs : signW (45 :: X) = 1 := rfl
  unfold numberL at hp ⊢
  rw [h, Nat.zero_add, List.drop_zero] at hp ⊢
  rw [hs, List.drop_succ_cons, List.drop_zero, Nat.add_comm 1 (digitsL X)]
  have a1 : atB (45 :: X) (digitsL X + 1) 46 = atB X (digitsL X) 46 := by unfold atB; rw [List.getElem?_cons_succ]
  rw [a1, List.drop_succ_cons]
  split at hp
  · rename_i h1; rw [if_pos h1, if_pos h1]; omega
  · rename_i h1; rw [if_neg h1, if_neg h1]
    split at hp
    · omega
    · rename_i h2; rw [if_neg h2, if_neg h2]
theorem sign_pos (m : Nat) (r : List UInt8) : signW (posL m ++ r) = 0 := by
  obtain ⟨c, t, e, hc⟩ := posL_first m
  rw [e, List.cons_append, signW, if_neg]
  unfold digB at hc; simp at hc; omega
theorem number_print (n : Int) (r : List UInt8) (h : stopL r) : numberL (printN n ++ r) = (printN n).length := by
  unfold printN
  split
  · have hp := number_pos (-(hold n)).toNat r h
    obtain ⟨c, t, e, _⟩ := posL_first (-(hold n)).toNat
    rw [List.cons_append, number_neg _ (sign_pos _ _) (by rw [hp, e]; simp), hp]; rfl
  · exact number_pos _ r h
theorem print_pos (n : Int) : 0 < (printN n).length := by
  unfold printN
  split
  · simp
  · obtain ⟨c, t, e, _⟩ := posL_first (hold n).toNat
    rw [e]; simp
/-! worth -/
theorem step_dig (x : Int) (l : Int) (d : Nat) (hd : d < 10) (hl : ¬ l = 0) (hb : x * 10 + d ≤ 1125899906842624) : worthStep (x, l) (dg d) = (x * 10 + d, if l > 0 then l - 1 else l) := by
  unfold worthStep
  rw [bn_dg d hd]
  have hD : digB (48 + (d : Int)) = true := by unfold digB; simp; omega
  simp only
  rw [if_neg (show ¬ (48 + (d : Int) = 46) by omega), if_neg (by rw [hD]; simp [hl]), if_neg (by omega)]
  congr 1
  omega
theorem fold_whole : ∀ (k n : Nat), n ≤ k → n ≤ 1073741824 → (wholeL n).foldl worthStep (0, -1) = ((n : Int), -1)
  | 0, n, h, hb => by
    rw [wholeL_small n (by omega), List.foldl_cons, List.foldl_nil, step_dig 0 (-1) n (by omega) (by omega) (by omega)]
    simp
  | k + 1, n, h, hb => by
    by_cases hn : n < 10
    · rw [wholeL_small n hn, List.foldl_cons, List.foldl_nil, step_dig 0 (-1) n hn (by omega) (by omega)]
      simp
    · rw [wholeL_big n hn, List.foldl_append, fold_whole k (n / 10) (by omega) (by omega), List.foldl_cons, List.foldl_nil, step_dig _ (-1) (n % 10) (by omega) (by omega) (by omega)]
      rw [if_neg (by omega)]
      congr 1
      omega
theorem frac_eq (p : Nat) (h : p < 1000) (h0 : ¬ p = 0) : fracL p = dg (p / 100) :: (if p % 100 = 0 then [] else dg (p % 100 / 10) :: (if p % 10 = 0 then [] else [dg (p % 10)])) := by
  unfold fracL fracF
  rw [if_neg h0, wholeL_small _ (by omega), List.singleton_append]
  congr 1
  unfold fracF
  by_cases h1 : p % 100 = 0
  · rw [if_pos h1, if_pos h1]
  · rw [if_neg h1, if_neg h1, wholeL_small _ (by omega), List.singleton_append]
    congr 1
    unfold fracF
    have e : p % 100 % (100 / 10) = p % 10 := by omega
    rw [e]
    by_cases h2 : p % 10 = 0
    · rw [if_pos h2, if_pos h2]
    · rw [if_neg h2, if_neg h2, wholeL_small _ (by omega)]
      simp [fracF]
theorem worth_pos (m : Nat) (hm : m ≤ 1073741824) : worthFin ((posL m).foldl worthStep (0, -1)) = m := by
  unfold posL
  rw [List.foldl_append, fold_whole (m / 1000) _ (Nat.le_refl _) (by omega)]
  by_cases h0 : m % 1000 = 0
  · rw [if_pos h0, List.foldl_nil]
    unfold worthFin
    simp only
    rw [if_pos (by decide)]
    omega
  · rw [if_neg h0, List.foldl_cons]
    have hdot : worthStep (((m / 1000 : Nat) : Int), -1) 46 = (((m / 1000 : Nat) : Int), 3) := rfl
    rw [hdot, frac_eq _ (by omega) h0, List.foldl_cons, step_dig _ 3 _ (by omega) (by omega) (by omega), if_pos (by decide)]
    by_cases h1 : m % 1000 % 100 = 0
    · rw [if_pos h1, List.foldl_nil]
      unfold worthFin
      simp only
      rw [if_neg (by decide), if_neg (by decide), if_neg (by decide), if_pos (by decide)]
      omega
    · rw [if_neg h1, List.foldl_cons, step_dig _ (3 - 1) _ (by omega) (by omega) (by omega), if_pos (by decide)]
      by_cases h2 : m % 1000 % 10 = 0
      · rw [if_pos h2, List.foldl_nil]
        unfold worthFin
        simp only
        rw [if_neg (by decide), if_neg (by decide), if_pos (by decide)]
        omega
      · rw [if_neg h2, List.foldl_cons, List.foldl_nil, step_dig _ (3 - 1 - 1) _ (by omega) (by omega) (by omega), if_pos (by decide)]
        unfold worthFin
        simp only
        rw [if_neg (by decide), if_pos (by decide)]
        omega
theorem worth_print (n : Int) (h : hold n = n) : worthL (printN n) = n := by
  have hb := hold_bd n
  unfold printN
  split
  · rename_i h0
    unfold worthL
    rw [if_pos (show atB (45 :: posL (-(hold n)).toNat) 0 45 = true from rfl), List.foldl_cons]
    have e : worthStep (0, -1) 45 = (0, -1) := rfl
    rw [e, worth_pos _ (by omega), show -(((-(hold n)).toNat : Nat) : Int) = hold n by omega, hold_hold, h]
  · rename_i h0
    obtain ⟨c, t, e, hc⟩ := posL_first (hold n).toNat
    have h45 : atB (posL (hold n).toNat) 0 45 = false := by
      rw [e]; unfold digB at hc; simp at hc; simp [atB]; omega
    unfold worthL
    rw [h45, if_neg (by simp), worth_pos _ (by omega), show (((hold n).toNat : Nat) : Int) = hold n by omega, hold_hold, h]
/-- the first byte of a number's text is a digit or a minus. -/
theorem print_first (n : Int) : ∃ c t, printN n = c :: t ∧ (digB (bn c) = true ∨ bn c = 45) := by
  unfold printN
  split
  · exact ⟨45, _, rfl, Or.inr rfl⟩
  · obtain ⟨c, t, e, hc⟩ := posL_first (hold n).toNat
    exact ⟨c, t, e, Or.inl hc⟩
theorem whole_len (n : Nat) (h : n ≤ 1073741824) : (wholeL n).length ≤ 10 := wholeL_len 9 n (by omega)
theorem print_len (n : Int) : (printN n).length ≤ 15 := by
  have hb := hold_bd n
  have key : ∀ m, m ≤ 1073741824 → (posL m).length ≤ 14 := by
    intro m hm
    unfold posL
    rw [List.length_append]
    have h1 := whole_len (m / 1000) (by omega)
    split
    · simp; omega
    · rename_i h0
      rw [frac_eq _ (by omega) h0]
      simp only [List.length_cons]
      (repeat' split) <;> simp <;> omega
  unfold printN
  split
  · have := key (-(hold n)).toNat (by omega); simp; omega
  · have := key (hold n).toNat (by omega); omega
end Wsc
