/-
  The walks of value.held, value.Right.
-/
import Derived.Test.YtfiidocojooghaaDoorValA
import Derived.Test.YtfiidocojooghaaDoorFix
import Derived.Test.YtfiidocojooghaaDoorValPlain
namespace Go.Proofs.YtfiidocojooghaaDoor
open Go.RowKit Wsc
theorem held_any (n : Int) (w : World) :
    Calls Tryd.prog 44 #[.int .i64 n] w fun e w' => e = .returned (.bool (heldB n)) ∧ w = w' := by
  have H := fun ww => hold_any n ww
  unfold heldB
  generalize hold n = h at *
  have H := Lib.hid H
  go_enter Tryd.func44, Tryd.ntmps44
  go_wp2_with (go_at_call 53; refine (H.out _).mono ?_; rintro e w' ⟨rfl, rfl⟩)
  go_ret
  exact ⟨ret_bo (by rw [BEq.comm]; rfl), rfl⟩
/-- a text is empty, or it is not: as the walk asks. -/
theorem empty_of (l : List UInt8) (h : l = []) : (bs l).toList = [] ∧ (bs l).toList.isEmpty = true ∧ (!(bs l).toList.isEmpty) = false := by
  subst h; rw [Lib.toList_data, bs_data]; simp
theorem nonempty_of (l : List UInt8) (h : l ≠ []) : ¬ (bs l).toList = [] ∧ (bs l).toList.isEmpty = false ∧ (!(bs l).toList.isEmpty) = true := by
  rw [Lib.toList_data, bs_data]; cases l with
  | nil => exact absurd rfl h
  | cons c r => simp
theorem bs_toList (l : List UInt8) : (bs l).toList = l := by rw [Lib.toList_data, bs_data]
theorem right_word (n d : Int) (nm : List UInt8) (w : World) (hg : Gl w) :
    Calls Tryd.prog 32 #[valV ⟨1, n, d, nm⟩] w fun e w' => e = .returned (.bool (decide (1 ≤ n ∧ n ≤ 30 ∧ d = 0 ∧ nm = []))) ∧ Below w.heap.size w w' := by
  have hA := Lib.hid ((Below.refl w.heap.size w).alloc (Nat.le_refl _) (.cells #[.int .i64 1, .int .i64 n, .int .i64 d, .string (bs nm)] 34))
  have T := Lib.hid (text_any n _ (hg.below hA.out))
  unfold valV
  go_enter Tryd.func32, Tryd.ntmps32
  go_wp2_with fail
  refine T.out.mono ?_
  rintro e w1 ⟨rfl, hb⟩
  obtain ⟨r0, r1, r2, r3, _, _, _, _⟩ := (Blk4.new w 34 (.int .i64 1) (.int .i64 n) (.int .i64 d) (.string (bs nm))).below hb (by simp)
  have hB := Lib.hid (hA.out.trans (hb.mono (by simp)))
  clear hb
  have hat := atL_words n
  by_cases ht : atL wordsL n = []
  · have h0 := hat.1 ht
    obtain ⟨e1, e2, e3⟩ := empty_of _ ht
    have h0 := Lib.hid h0
    clear hat ht
    generalize atL wordsL n = tx at *
    go_wp2
    go_ret
    exact ⟨ret_bo (by have := h0.out; simp; omega), hB.out⟩
  · have h0 : 1 ≤ n ∧ n ≤ 30 := by
      cases Classical.em (1 ≤ n ∧ n ≤ 30) with
      | inl h => exact h
      | inr h => exact absurd (hat.2 h) ht
    obtain ⟨e1, e2, e3⟩ := nonempty_of _ ht
    have H0 := Lib.hid h0
    clear ht hat h0
    generalize atL wordsL n = tx at *
    go_wp2
    all_goals go_ret
    all_goals exact ⟨ret_bo (by have := H0.out; go_light; rw [Bool.eq_iff_iff]; simp [bs_toList, *]), hB.out⟩
theorem right_length (n d : Int) (nm : List UInt8) (w : World) (hg : Gl w) :
    Calls Tryd.prog 32 #[valV ⟨2, n, d, nm⟩] w fun e w' => e = .returned (.bool (decide (heldB n = true ∧ 1 ≤ d ∧ d ≤ 8 ∧ nm = []))) ∧ Below w.heap.size w w' := by
  have hA := Lib.hid ((Below.refl w.heap.size w).alloc (Nat.le_refl _) (.cells #[.int .i64 2, .int .i64 n, .int .i64 d, .string (bs nm)] 34))
  have T := Lib.hid (unitAt_any d _ (hg.below hA.out))
  have H := held_any n
  unfold valV
  cases hn : heldB n
  · rw [hn] at H
    have H2 := Lib.hid H
    clear hn H
    go_enter Tryd.func32, Tryd.ntmps32
    go_wp2_with (go_at_call 44; refine (H2.out _).mono ?_; rintro e w' ⟨rfl, rfl⟩)
    go_ret
    exact ⟨ret_bo (by simp), hA.out⟩
  · rw [hn] at H
    have H2 := Lib.hid H
    clear hn H
    go_enter Tryd.func32, Tryd.ntmps32
    go_wp2_with (go_at_call 44; refine (H2.out _).mono ?_; rintro e w' ⟨rfl, rfl⟩)
    refine T.out.mono ?_
    rintro e w1 ⟨rfl, hb⟩
    obtain ⟨r0, r1, r2, r3, _, _, _, _⟩ := (Blk4.new w 34 (.int .i64 2) (.int .i64 n) (.int .i64 d) (.string (bs nm))).below hb (by simp)
    have hB := Lib.hid (hA.out.trans (hb.mono (by simp)))
    clear hb
    have hat := atL_units d
    by_cases ht : atL unitsL d = []
    · have h0 := hat.1 ht
      obtain ⟨e1, e2, e3⟩ := empty_of _ ht
      have H0 := Lib.hid h0
      clear hat ht h0
      generalize atL unitsL d = tx at *
      go_wp2
      go_ret
      exact ⟨ret_bo (by have := H0.out; simp; omega), hB.out⟩
    · have h0 : 1 ≤ d ∧ d ≤ 8 := by
        cases Classical.em (1 ≤ d ∧ d ≤ 8) with
        | inl h => exact h
        | inr h => exact absurd (hat.2 h) ht
      obtain ⟨e1, e2, e3⟩ := nonempty_of _ ht
      have H0 := Lib.hid h0
      clear ht hat h0
      generalize atL unitsL d = tx at *
      go_wp2
      all_goals go_ret
      all_goals exact ⟨ret_bo (by have := H0.out; go_light; rw [Bool.eq_iff_iff]; simp [bs_toList, *]), hB.out⟩
theorem right_number (k n d : Int) (nm : List UInt8) (w : World) (hk : k = 3 ∨ k = 4) :
    Calls Tryd.prog 32 #[valV ⟨k, n, d, nm⟩] w fun e w' => e = .returned (.bool (decide (heldB n = true ∧ d = 0 ∧ nm = []))) ∧ Below w.heap.size w w' := by
  have hA := Lib.hid ((Below.refl w.heap.size w).alloc (Nat.le_refl _) (.cells #[.int .i64 k, .int .i64 n, .int .i64 d, .string (bs nm)] 34))
  have H := held_any n
  unfold valV
  rcases hk with rfl | rfl
  all_goals
    cases hn : heldB n
    · rw [hn] at H
      have H2 := Lib.hid H
      clear hn H
      go_enter Tryd.func32, Tryd.ntmps32
      go_wp2_with (go_at_call 44; refine (H2.out _).mono ?_; rintro e w' ⟨rfl, rfl⟩)
      go_ret
      exact ⟨ret_bo (by simp), hA.out⟩
    · rw [hn] at H
      have H2 := Lib.hid H
      clear hn H
      go_enter Tryd.func32, Tryd.ntmps32
      go_wp2_with (go_at_call 44; refine (H2.out _).mono ?_; rintro e w' ⟨rfl, rfl⟩)
      all_goals go_ret
      all_goals exact ⟨ret_bo (by go_light; rw [Bool.eq_iff_iff]; simp [bs_toList, *] <;> (intros; omega)), (Below.refl _ _).alloc (Nat.le_refl _) _⟩
theorem right_ratio (n d : Int) (nm : List UInt8) (w : World) :
    Calls Tryd.prog 32 #[valV ⟨5, n, d, nm⟩] w fun e w' => e = .returned (.bool (decide (heldB n = true ∧ heldB d = true ∧ 0 ≤ n ∧ 0 ≤ d ∧ nm = []))) ∧ Below w.heap.size w w' := by
  have hA := Lib.hid ((Below.refl w.heap.size w).alloc (Nat.le_refl _) (.cells #[.int .i64 5, .int .i64 n, .int .i64 d, .string (bs nm)] 34))
  have H := held_any n
  have D := held_any d
  unfold valV
  cases hn : heldB n
  · rw [hn] at H
    have H2 := Lib.hid H
    clear hn H
    go_enter Tryd.func32, Tryd.ntmps32
    go_wp2_with (go_at_call 44; refine (H2.out _).mono ?_; rintro e w' ⟨rfl, rfl⟩)
    go_ret
    exact ⟨ret_bo (by simp), hA.out⟩
  · rw [hn] at H
    have H2 := Lib.hid H
    clear hn H
    cases hd : heldB d
    all_goals
      rw [hd] at D
      have D2 := Lib.hid D
      clear hd D
      go_enter Tryd.func32, Tryd.ntmps32
      go_wp2_with fail
      refine (H2.out _).mono ?_
      rintro e w' ⟨rfl, rfl⟩
      go_wp2_with fail
      refine (D2.out _).mono ?_
      rintro e w' ⟨rfl, rfl⟩
      go_wp2
      all_goals go_ret
      all_goals exact ⟨ret_bo (by go_light; rw [Bool.eq_iff_iff]; simp [bs_toList, *] <;> (intros; omega)), (Below.refl _ _).alloc (Nat.le_refl _) _⟩
theorem right_name (n d : Int) (nm : List UInt8) (w : World) (hg : Gl w) :
    Calls Tryd.prog 32 #[valV ⟨6, n, d, nm⟩] w fun e w' => e = .returned (.bool (decide (n = 0 ∧ d = 0 ∧ nameB nm = true ∧ placeL wordsL nm = 0))) ∧ Below w.heap.size w w' := by
  have hA := Lib.hid ((Below.refl w.heap.size w).alloc (Nat.le_refl _) (.cells #[.int .i64 6, .int .i64 n, .int .i64 d, .string (bs nm)] 34))
  have N := fun ww => treeName_any (bs nm) ww
  have W := word_any (bs nm) _ (hg.below hA.out)
  rw [bs_data] at N W
  unfold valV
  cases hn : nameB nm
  · rw [hn] at N
    have N2 := Lib.hid N
    clear hn N W
    go_enter Tryd.func32, Tryd.ntmps32
    go_wp2_with (go_at_call 45; refine (N2.out _).mono ?_; rintro e w' ⟨rfl, rfl⟩)
    all_goals go_ret
    all_goals exact ⟨ret_bo (by go_light; rw [Bool.eq_iff_iff]; simp [*]), (Below.refl _ _).alloc (Nat.le_refl _) _⟩
  · rw [hn] at N
    have N2 := Lib.hid N
    have W2 := Lib.hid W
    clear hn N W
    by_cases h0 : n = 0 ∧ d = 0
    · obtain ⟨rfl, rfl⟩ := h0
      go_enter Tryd.func32, Tryd.ntmps32
      go_wp2_with (first
        | (go_at_call 45; refine (N2.out _).mono ?_; rintro e w' ⟨rfl, rfl⟩)
        | (go_at_call 43; refine W2.out.mono ?_; rintro e w1 ⟨rfl, hb⟩))
      go_ret
      exact ⟨ret_bo (by rw [Bool.eq_iff_iff]; simp <;> omega), hA.out.trans (hb.mono (by simp))⟩
    · have h0' : ¬ (n = 0) ∨ ¬ (d = 0) := by omega
      clear h0
      by_cases hn0 : n = 0
      · have hd0 : (d == 0) = false := by simp; omega
        subst hn0
        clear h0'
        go_enter Tryd.func32, Tryd.ntmps32
        go_wp2
        go_ret
        exact ⟨ret_bo (by rw [Bool.eq_iff_iff]; simp at hd0; simp [hd0]), hA.out⟩
      · have hn1 : (n == 0) = false := by simpa using hn0
        have HN := Lib.hid hn0
        clear h0' hn0
        go_enter Tryd.func32, Tryd.ntmps32
        go_wp2
        go_ret
        exact ⟨ret_bo (by rw [Bool.eq_iff_iff]; simp [HN.out]), hA.out⟩
theorem right_other (k n d : Int) (nm : List UInt8) (w : World) (h : k ≠ 1 ∧ k ≠ 2 ∧ k ≠ 3 ∧ k ≠ 4 ∧ k ≠ 5 ∧ k ≠ 6) :
    Calls Tryd.prog 32 #[valV ⟨k, n, d, nm⟩] w fun e w' => e = .returned (.bool false) ∧ Below w.heap.size w w' := by
  have hA := Lib.hid ((Below.refl w.heap.size w).alloc (Nat.le_refl _) (.cells #[.int .i64 k, .int .i64 n, .int .i64 d, .string (bs nm)] 34))
  obtain ⟨h1, h2, h3, h4, h5, h6⟩ := h
  have e1 : (k == 1) = false := by simpa using h1
  have e2 : (k == 2) = false := by simpa using h2
  have e3 : (k == 3) = false := by simpa using h3
  have e4 : (k == 4) = false := by simpa using h4
  have e5 : (k == 5) = false := by simpa using h5
  have e6 : (k == 6) = false := by simpa using h6
  unfold valV
  go_enter Tryd.func32, Tryd.ntmps32
  go_wp2
  go_ret
  exact ⟨rfl, hA.out⟩
theorem right_any (v : Val) (w : World) (hg : Gl w) :
    Calls Tryd.prog 32 #[valV v] w fun e w' => e = .returned (.bool (rightV v)) ∧ Below w.heap.size w w' := by
  obtain ⟨k, n, d, nm⟩ := v
  unfold rightV
  simp only
  by_cases h1 : k = 1
  · subst h1; rw [if_pos rfl]; exact right_word n d nm w hg
  rw [if_neg h1]
  by_cases h2 : k = 2
  · subst h2; rw [if_pos rfl]; exact right_length n d nm w hg
  rw [if_neg h2]
  by_cases h3 : k = 3 ∨ k = 4
  · rw [if_pos h3]; exact right_number k n d nm w h3
  rw [if_neg h3]
  by_cases h5 : k = 5
  · subst h5; rw [if_pos rfl]; exact right_ratio n d nm w
  rw [if_neg h5]
  by_cases h6 : k = 6
  · subst h6; rw [if_pos rfl]; exact right_name n d nm w hg
  rw [if_neg h6]
  exact right_other k n d nm w ⟨h1, h2, fun e => h3 (Or.inl e), fun e => h3 (Or.inr e), h5, h6⟩
end Go.Proofs.YtfiidocojooghaaDoor
