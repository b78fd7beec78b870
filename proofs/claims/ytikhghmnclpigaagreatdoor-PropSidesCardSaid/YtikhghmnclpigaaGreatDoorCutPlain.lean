/-
  Plain laws of cut texts: what is printed of a right value's tokens is cut into them.
-/
import Derived.Test.YtikhghmnclpigaaGreatDoorLexF
import Derived.Test.YtikhghmnclpigaaGreatDoorPrintPlain
import Derived.Test.YtikhghmnclpigaaGreatDoorTokensPlain
namespace Go.Proofs.YtikhghmnclpigaaGreatDoor
open Go.RowKit Wsc
theorem cutF_same : ∀ (f g : Nat) (l : List UInt8), l.length ≤ f → l.length ≤ g → cutF f l = cutF g l
  | 0, g, l, hf, _ => by
    have : l = [] := List.eq_nil_of_length_eq_zero (by omega)
    subst this; rw [cut_nil, cut_nil]
  | f + 1, 0, l, _, hg => by
    have : l = [] := List.eq_nil_of_length_eq_zero (by omega)
    subst this; rw [cut_nil, cut_nil]
  | f + 1, g + 1, l, hf, hg => by
    by_cases h0 : 0 < l.length
    · have hb := oneL_bd l h0
      rw [cut_step f l h0, cut_step g l h0, cutF_same f g (l.drop (oneL l).2) (by rw [List.length_drop]; omega) (by rw [List.length_drop]; omega)]
    · have : l = [] := List.eq_nil_of_length_eq_zero (by omega)
      subst this; rw [cut_nil, cut_nil]
theorem cutL_nil : cutL [] = [] := rfl
theorem cutL_cons (l : List UInt8) (t : Tok) (k : Nat) (h0 : 0 < l.length) (h : oneL l = (t, k)) (ht : 0 < t.kind) : cutL l = t :: cutL (l.drop k) := by
  have hb := oneL_bd l h0
  unfold cutL
  rw [cutF_same l.length (l.length + 1) l (Nat.le_refl _) (by omega), cut_step _ l h0, h, if_pos ht]
  rw [h] at hb
  rw [cutF_same l.length (l.drop k).length (l.drop k) (by rw [List.length_drop]; omega) (Nat.le_refl _)]
  rfl
/-! numbers -/
theorem one_print (n : Int) (r : List UInt8) (h : stopL r) : oneL (printN n ++ r) = measureL (printN n ++ r) (printN n).length := by
  obtain ⟨c, t, e, hc⟩ := print_first n
  have hn := number_print n r h
  have hp := print_pos n
  rw [e, List.cons_append] at hn ⊢
  rw [e] at hp
  have h47 : ¬ c = 47 := by rintro rfl; revert hc; decide
  have hbl : blankB (bn c) = false := by
    unfold digB at hc; unfold blankB; simp at hc ⊢; omega
  have hq : ¬ (bn c = 34 ∨ bn c = 39) := by
    unfold digB at hc; simp at hc; omega
  unfold oneL
  simp only
  rw [if_neg, if_neg (by rw [hbl]; simp), if_neg hq, if_pos (by rw [hn]; exact hp), hn]
  unfold hasL
  simp [List.isPrefixOf]
  intro e2; exact absurd e2.symm h47
theorem measure_at (n : Int) (r : List UInt8) (hh : hold n = n) : measureL (printN n ++ r) (printN n).length =
    if atB r 0 37 = true then (⟨8, [], n⟩, (printN n).length + 1)
    else if startsL r = true then (⟨9, runL r, n⟩, (printN n).length + (runL r).length)
    else (⟨7, [], n⟩, (printN n).length) := by
  unfold measureL
  rw [atB_append, List.drop_left, List.take_left, worth_print n hh]
theorem cut_num (n : Int) (r : List UInt8) (hh : hold n = n) (h : stopL r) (h37 : atB r 0 37 = false) (hs : startsL r = false) : cutL (printN n ++ r) = ⟨7, [], n⟩ :: cutL r := by
  have hp := print_pos n
  rw [cutL_cons (printN n ++ r) ⟨7, [], n⟩ (printN n).length (by rw [List.length_append]; omega) (by rw [one_print n r h, measure_at n r hh, if_neg (by rw [h37]; simp), if_neg (by rw [hs]; simp)]) (show (0 : Int) < 7 by decide), List.drop_left]
theorem cut_pct (n : Int) (hh : hold n = n) : cutL (printN n ++ [37]) = [⟨8, [], n⟩] := by
  have hp := print_pos n
  have hst : stopL [37] := fun c t e => by cases e; decide
  rw [cutL_cons (printN n ++ [37]) ⟨8, [], n⟩ ((printN n).length + 1) (by rw [List.length_append]; omega) (by rw [one_print n [37] hst, measure_at n [37] hh, if_pos (show atB [37] 0 37 = true from rfl)]) (show (0 : Int) < 8 by decide), ← List.drop_drop, List.drop_left]
  rfl
theorem cut_dim (n : Int) (u : List UInt8) (hh : hold n = n) (hs : startsL u = true) (hr : runL u = u) (hst : stopL u) (h37 : atB u 0 37 = false) : cutL (printN n ++ u) = [⟨9, u, n⟩] := by
  have hp := print_pos n
  rw [cutL_cons (printN n ++ u) ⟨9, u, n⟩ ((printN n).length + u.length) (by rw [List.length_append]; omega) (by rw [one_print n u hst, measure_at n u hh, if_neg (by rw [h37]; simp), if_pos hs, hr]) (show (0 : Int) < 9 by decide), ← List.drop_drop, List.drop_left, List.drop_length]
  rfl
/-! names -/
theorem starts_cases (l : List UInt8) (h : startsL l = true) : ∃ c r, l = c :: r ∧ (beginsB (bn c) = true ∨ (bn c = 45 ∧ ∃ d t, r = d :: t ∧ (bn d = 45 ∨ beginsB (bn d) = true))) := by
  cases l with
  | nil => cases h
  | cons c r =>
    refine ⟨c, r, rfl, ?_⟩
    by_cases h45 : bn c = 45
    · rw [startsL, if_pos h45] at h
      right
      refine ⟨h45, ?_⟩
      cases r with
      | nil => cases h
      | cons d t =>
        refine ⟨d, t, rfl, ?_⟩
        unfold starts2 at h
        simpa using h
    · rw [startsL, if_neg h45] at h
      exact Or.inl h
theorem digits_no (c : UInt8) (r : List UInt8) (h : digB (bn c) = false) : digitsL (c :: r) = 0 := by
  unfold digitsL runOf; rw [List.takeWhile_cons, if_neg (by rw [h]; simp)]; rfl
theorem number_zero (c : UInt8) (r : List UInt8) (h1 : digB (bn c) = false) (h2 : ¬ (bn c = 43 ∨ bn c = 45)) (h3 : ¬ bn c = 46) : numberL (c :: r) = 0 := by
  unfold numberL
  rw [show signW (c :: r) = 0 from if_neg h2, List.drop_zero, digits_no c r h1, Nat.zero_add, if_neg, if_pos rfl]
  simp [atB, h3]
theorem number_no (l : List UInt8) (h : startsL l = true) : numberL l = 0 := by
  obtain ⟨c, r, rfl, hc | ⟨h45, d, t, rfl, hd⟩⟩ := starts_cases l h
  · have h1 : digB (bn c) = false := by unfold beginsB at hc; unfold digB; simp at hc ⊢; omega
    have h2 : ¬ (bn c = 43 ∨ bn c = 45) := by unfold beginsB at hc; simp at hc; omega
    have h3 : ¬ bn c = 46 := by unfold beginsB at hc; simp at hc; omega
    exact number_zero c r h1 h2 h3
  · have h1 : digB (bn d) = false := by unfold beginsB at hd; unfold digB; simp at hd ⊢; omega
    have h3 : ¬ bn d = 46 := by unfold beginsB at hd; simp at hd; omega
    unfold numberL
    rw [show signW (c :: d :: t) = 1 from if_pos (Or.inr h45), List.drop_succ_cons, List.drop_zero, digits_no d t h1, if_neg, if_pos rfl]
    simp [atB, h3]
theorem cut_name (nm : List UInt8) (h : startsL nm = true) (hr : runL nm = nm) : cutL nm = [⟨1, nm, 0⟩] := by
  have hn := number_no nm h
  have h0 : 0 < nm.length := by cases nm with
    | nil => cases h
    | cons c r => simp
  have O : oneL nm = (⟨1, nm, 0⟩, nm.length) := by
    obtain ⟨c, r, rfl, hc⟩ := starts_cases nm h
    have hf : beginsB (bn c) = true ∨ bn c = 45 := by rcases hc with hc | ⟨hc, _⟩; exact Or.inl hc; exact Or.inr hc
    have h47 : ¬ c = 47 := by rintro rfl; revert hf; decide
    have hbl : blankB (bn c) = false := by unfold beginsB at hf; unfold blankB; simp at hf ⊢; omega
    have hq : ¬ (bn c = 34 ∨ bn c = 39) := by unfold beginsB at hf; simp at hf; omega
    have h35 : ¬ bn c = 35 := by unfold beginsB at hf; simp at hf; omega
    have h64 : ¬ bn c = 64 := by unfold beginsB at hf; simp at hf; omega
    unfold oneL
    simp only
    rw [if_neg, if_neg (by rw [hbl]; simp), if_neg hq, if_neg (by omega), if_neg (fun x => h35 x.1), if_neg (fun x => h64 x.1), if_pos h, hr, List.drop_length, if_neg (by simp [hasL])]
    unfold hasL
    simp [List.isPrefixOf]
    intro e2; exact absurd e2.symm h47
  rw [cutL_cons nm _ _ h0 O (show (0 : Int) < 1 by decide), List.drop_length]
  rfl
theorem run_all (l : List UInt8) (h : l.all (fun c => goesB (bn c)) = true) : runL l = l := by
  unfold runL
  induction l with
  | nil => rfl
  | cons c l ih =>
    rw [List.all_cons] at h
    simp at h
    rw [List.takeWhile_cons, if_pos h.1, ih (by simpa using h.2)]
theorem cut_nameB (nm : List UInt8) (h : nameB nm = true) : cutL nm = [⟨1, nm, 0⟩] := by
  unfold nameB at h
  simp only [Bool.and_eq_true] at h
  exact cut_name nm h.1.1 (run_all nm h.1.2)
theorem words_names : ∀ i : Fin 31, 1 ≤ i.val → nameB (wordsL.getD i.val []) = true := by decide +kernel
def unitOk (u : List UInt8) : Bool := startsL u && decide (runL u = u) && (match u with | c :: _ => !digB (bn c) && !decide (bn c = 46) && !decide (bn c = 37) | [] => false)
theorem units_ok : ∀ i : Fin 9, 1 ≤ i.val → unitOk (unitsL.getD i.val []) = true := by decide +kernel
theorem unit_facts (u : List UInt8) (h : unitOk u = true) : startsL u = true ∧ runL u = u ∧ ∃ c t, u = c :: t ∧ digB (bn c) = false ∧ ¬ bn c = 46 ∧ ¬ bn c = 37 := by
  unfold unitOk at h
  simp only [Bool.and_eq_true, decide_eq_true_eq] at h
  obtain ⟨⟨h1, h2⟩, h3⟩ := h
  refine ⟨h1, h2, ?_⟩
  cases u with
  | nil => cases h3
  | cons c t =>
    simp at h3
    exact ⟨c, t, rfl, h3.1.1, h3.1.2, h3.2⟩
theorem units_names (i : Fin 9) (h : 1 ≤ i.val) : startsL (unitsL.getD i.val []) = true ∧ runL (unitsL.getD i.val []) = unitsL.getD i.val [] ∧ ∃ c t, unitsL.getD i.val [] = c :: t ∧ digB (bn c) = false ∧ ¬ bn c = 46 ∧ ¬ bn c = 37 := unit_facts _ (units_ok i h)
/-! a token's text, and the texts of a list -/
def textL (t : Tok) : Option (List UInt8) :=
  if t.kind = 1 ∨ t.kind = 19 then some t.text
  else if t.kind = 2 then some (t.text ++ [40])
  else if t.kind = 3 then some (64 :: t.text)
  else if t.kind = 4 then some (35 :: t.text)
  else if t.kind = 5 then some (if (34 : UInt8) ∈ t.text then 39 :: t.text ++ [39] else 34 :: t.text ++ [34])
  else if t.kind = 7 then some (printN t.n)
  else if t.kind = 8 then some (printN t.n ++ [37])
  else if t.kind = 9 then some (printN t.n ++ t.text)
  else if t.kind = 10 then some [58]
  else if t.kind = 11 then some [59]
  else if t.kind = 12 then some [44]
  else if t.kind = 13 then some [40]
  else if t.kind = 14 then some [41]
  else if t.kind = 15 then some [91]
  else if t.kind = 16 then some [93]
  else if t.kind = 17 then some [123]
  else if t.kind = 18 then some [125]
  else if t.kind = 20 then some [32]
  else none
def textD (t : Tok) : List UInt8 := (textL t).getD []
/-- what stands between two: a comment where they would grow into one another. -/
def gapL (p t : Tok) : List UInt8 := if cutL (textD p ++ textD t) = [p, t] then [] else [47, 42, 42, 47]
def printFrom : Tok → List Tok → List UInt8
  | _, [] => []
  | p, t :: r => gapL p t ++ textD t ++ printFrom t r
def printL : List Tok → List UInt8
  | [] => []
  | t :: r => textD t ++ printFrom t r
theorem print_one (t : Tok) : printL [t] = textD t := by simp [printL, printFrom]
theorem heldB_hold {n : Int} (h : heldB n = true) : hold n = n := by unfold heldB at h; simpa using h
theorem cut_ratio (n d : Int) (hn : hold n = n) (hd : hold d = d) : printL [⟨7, [], n⟩, spT, slT, spT, ⟨7, [], d⟩] = printN n ++ (32 :: 47 :: 32 :: printN d) ∧ cutL (printN n ++ (32 :: 47 :: 32 :: printN d)) = [⟨7, [], n⟩, spT, slT, spT, ⟨7, [], d⟩] := by
  have st : ∀ r, stopL (32 :: r) := fun r c t e => by cases e; decide
  have c1 : cutL (32 :: printN d) = [spT, ⟨7, [], d⟩] := by
    obtain ⟨c, t, e, hc⟩ := print_first d
    have hb : blankB (bn c) = false := by unfold digB at hc; unfold blankB; simp at hc ⊢; omega
    have O : oneL (32 :: printN d) = (spT, 1) := by
      rw [e]
      unfold oneL
      simp only
      rw [if_neg (by simp [hasL, List.isPrefixOf]), if_pos (by decide)]
      have : (runOf blankB (32 :: c :: t)).length = 1 := by
        unfold runOf
        rw [List.takeWhile_cons, if_pos (by decide), List.takeWhile_cons, if_neg (by rw [hb]; simp)]; rfl
      rw [this]; rfl
    have := cut_num d [] hd stop_nil rfl rfl
    rw [List.append_nil] at this
    rw [cutL_cons _ spT 1 (by simp) O (by decide), List.drop_succ_cons, List.drop_zero, this]; rfl
  have c2 : cutL (32 :: 47 :: 32 :: printN d) = [spT, slT, spT, ⟨7, [], d⟩] := by
    have O1 : oneL (32 :: 47 :: 32 :: printN d) = (spT, 1) := by
      unfold oneL
      simp only
      rw [if_neg (by simp [hasL, List.isPrefixOf]), if_pos (by decide)]
      rfl
    have O2 : oneL (47 :: 32 :: printN d) = (slT, 1) := by
      unfold oneL
      simp only
      rw [if_neg (by simp [hasL, List.isPrefixOf]), if_neg (by decide), if_neg (by decide), if_neg (by rw [number_zero _ _ (by decide) (by decide) (by decide)]; omega), if_neg (fun x => absurd x.1 (by decide)), if_neg (fun x => absurd x.1 (by decide)), if_neg (by rw [startsL, if_neg (by decide)]; decide), if_neg (by decide)]
      rfl
    rw [cutL_cons _ spT 1 (by simp) O1 (by decide), List.drop_succ_cons, List.drop_zero, cutL_cons _ slT 1 (by simp) O2 (by decide), List.drop_succ_cons, List.drop_zero, c1]
  have c0 : cutL (printN n ++ [32]) = [⟨7, [], n⟩, spT] := by
    rw [cut_num n [32] hn (st _) rfl rfl]; rfl
  constructor
  · have g1 : gapL ⟨7, [], n⟩ spT = [] := by
      unfold gapL; rw [if_pos]; exact c0
    have g2 : gapL spT slT = [] := by
      unfold gapL; rw [if_pos]; decide +kernel
    have g3 : gapL slT spT = [] := by
      unfold gapL; rw [if_pos]; decide +kernel
    have g4 : gapL spT ⟨7, [], d⟩ = [] := by
      unfold gapL; rw [if_pos]; exact c1
    simp only [printL, printFrom]
    rw [g1, g2, g3, g4]
    simp [textD, textL, spT, slT]
  · rw [cut_num n _ hn (st _) rfl rfl, c2]
/-- what is printed of a right value's tokens is cut into them. -/
theorem cut_tokens (v : Val) (hv : rightV v = true) : cutL (printL (tokensL v)) = tokensL v := by
  have hv0 := hv
  obtain ⟨k, n, d, nm⟩ := v
  unfold tokensL
  rw [if_pos hv]
  unfold rightV at hv
  unfold rightToks
  simp only at hv ⊢
  by_cases h1 : k = 1
  · subst h1
    simp at hv
    obtain ⟨a, b, rfl, rfl⟩ := hv
    simp only [if_pos, print_one]
    have : nameB (atL wordsL n) = true := by
      unfold atL; rw [wordsL_length, if_pos (by omega)]
      exact words_names ⟨n.toNat, by omega⟩ (by simp; omega)
    exact cut_nameB _ this
  rw [if_neg h1] at hv ⊢
  by_cases h6 : k = 6
  · subst h6
    simp at hv
    obtain ⟨rfl, rfl, a, b⟩ := hv
    simp only [if_pos, print_one]
    exact cut_nameB _ a
  rw [if_neg h6]
  by_cases h2 : k = 2
  · subst h2
    simp at hv
    obtain ⟨a, b, c, rfl⟩ := hv
    simp only [if_pos, print_one]
    have hu := units_names ⟨d.toNat, by omega⟩ (by simp; omega)
    have e : atL unitsL d = unitsL.getD d.toNat [] := by unfold atL; rw [unitsL_length, if_pos (by omega)]
    simp only at hu
    rw [← e] at hu
    obtain ⟨u1, u2, c0, t0, u3, u4, u5, u6⟩ := hu
    exact cut_dim n _ (heldB_hold a) u1 u2 (fun x t ex => by rw [u3] at ex; cases ex; exact ⟨u4, u5⟩) (by rw [u3]; simp [atB]; omega)
  rw [if_neg h2] at hv ⊢
  by_cases h3 : k = 3
  · subst h3
    simp at hv
    obtain ⟨a, rfl, rfl⟩ := hv
    simp only [if_pos, print_one]
    exact cut_pct n (heldB_hold a)
  rw [if_neg h3]
  by_cases h5 : k = 5
  · subst h5
    simp at hv
    obtain ⟨a, b, c, e, rfl⟩ := hv
    simp only [if_pos]
    obtain ⟨e1, e2⟩ := cut_ratio n d (heldB_hold a) (heldB_hold b)
    rw [e1]; exact e2
  rw [if_neg h5] at hv ⊢
  by_cases h4 : k = 4
  · subst h4
    simp at hv
    obtain ⟨a, rfl, rfl⟩ := hv
    rw [print_one]
    have := cut_num n [] (heldB_hold a) stop_nil rfl rfl
    rw [List.append_nil] at this
    exact this
  · rw [if_neg (by omega)] at hv
    rw [if_neg h6] at hv
    cases hv
end Go.Proofs.YtikhghmnclpigaaGreatDoor
