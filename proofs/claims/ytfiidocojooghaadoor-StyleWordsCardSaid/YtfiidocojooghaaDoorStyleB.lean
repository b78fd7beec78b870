/-
  The walks of lengths: fix.Px, Percent, holder.Measure (printed by gen_measure.py).
-/
import Derived.Test.YtfiidocojooghaaDoorStyleA
namespace Go.Proofs.YtfiidocojooghaaDoor
open Go.RowKit Wsc
theorem fpx_any (n : Int) (w : World) :
    Calls Tryd.prog 54 #[.int .i64 n] w fun e w' => e = .returned (.int .i64 (fpart n 64 1000)) ∧ w = w' := by
  have P := Lib.hid (fun ww => fixPart_any n 64 1000 ww)
  go_enter Tryd.func54, Tryd.ntmps54
  go_wp2_with (go_at_call 55; refine (P.out _).mono ?_; rintro e w1 ⟨rfl, rfl⟩)
  go_ret
  exact ⟨rfl, rfl⟩
theorem percent_any (b n : Int) (w : World) :
    Calls Tryd.prog 56 #[.int .i64 b, .int .i64 n] w fun e w' => e = .returned (.int .i64 (fpart b n 100000)) ∧ w = w' := by
  have P := Lib.hid (fun ww => fixPart_any b n 100000 ww)
  go_enter Tryd.func56, Tryd.ntmps56
  go_wp2_with (go_at_call 55; refine (P.out _).mono ?_; rintro e w1 ⟨rfl, rfl⟩)
  go_ret
  exact ⟨rfl, rfl⟩

theorem measure_no (v : Val) (font wd ht : Int) (w : World) (hk : v.kind ≠ 2) :
    Calls Tryd.prog 39 #[.agg #[.int .i64 v.kind, .int .i64 v.n, .int .i64 v.d, .string (bs v.name)], .int .i64 font, .int .i64 wd, .int .i64 ht] w fun e w' => e = .returned (.int .i64 0) ∧ Below w.heap.size w w' := by
  go_enter Tryd.func39, Tryd.ntmps39
  go_wp2
  go_ret
  exact ⟨rfl, (Below.refl _ _).alloc (Nat.le_refl _) _⟩
set_option maxRecDepth 100000 in
theorem measure_1 (n : Int) (nm : List UInt8) (font wd ht : Int) (w : World) :
    Calls Tryd.prog 39 #[.agg #[.int .i64 2, .int .i64 n, .int .i64 1, .string (bs nm)], .int .i64 font, .int .i64 wd, .int .i64 ht] w fun e w' => e = .returned (.int .i64 (fpart n 64 1000)) ∧ Below w.heap.size w w' := by
  have H1 := Lib.hid (fun ww => hold_any wd ww)
  have H2 := Lib.hid (fun ww => hold_any ht ww)
  generalize hold wd = hw at *
  generalize hold ht = hh at *
  have C := Lib.hid (fun ww => fpx_any n ww)
  go_enter Tryd.func39, Tryd.ntmps39
  go_wp2_with (first | (go_at_call 53; refine (H1.out _).mono ?_; rintro e w1 ⟨rfl, rfl⟩) | (go_at_call 53; refine (H2.out _).mono ?_; rintro e w1 ⟨rfl, rfl⟩) | (go_at_call 54; refine (C.out _).mono ?_; rintro e w1 ⟨rfl, rfl⟩))
  all_goals go_ret
  all_goals exact ⟨rfl, (Below.refl _ _).alloc (Nat.le_refl _) _⟩
set_option maxRecDepth 100000 in
theorem measure_2 (n : Int) (nm : List UInt8) (font wd ht : Int) (w : World) :
    Calls Tryd.prog 39 #[.agg #[.int .i64 2, .int .i64 n, .int .i64 2, .string (bs nm)], .int .i64 font, .int .i64 wd, .int .i64 ht] w fun e w' => e = .returned (.int .i64 (fpart font n 1000)) ∧ Below w.heap.size w w' := by
  have H1 := Lib.hid (fun ww => hold_any wd ww)
  have H2 := Lib.hid (fun ww => hold_any ht ww)
  generalize hold wd = hw at *
  generalize hold ht = hh at *
  have C := Lib.hid (fun ww => fixPart_any font n 1000 ww)
  go_enter Tryd.func39, Tryd.ntmps39
  go_wp2_with (first | (go_at_call 53; refine (H1.out _).mono ?_; rintro e w1 ⟨rfl, rfl⟩) | (go_at_call 53; refine (H2.out _).mono ?_; rintro e w1 ⟨rfl, rfl⟩) | (go_at_call 55; refine (C.out _).mono ?_; rintro e w1 ⟨rfl, rfl⟩))
  all_goals go_ret
  all_goals exact ⟨rfl, (Below.refl _ _).alloc (Nat.le_refl _) _⟩
set_option maxRecDepth 100000 in
theorem measure_3 (n : Int) (nm : List UInt8) (font wd ht : Int) (w : World) :
    Calls Tryd.prog 39 #[.agg #[.int .i64 2, .int .i64 n, .int .i64 3, .string (bs nm)], .int .i64 font, .int .i64 wd, .int .i64 ht] w fun e w' => e = .returned (.int .i64 (fpart (hold wd) n 100000)) ∧ Below w.heap.size w w' := by
  have H1 := Lib.hid (fun ww => hold_any wd ww)
  have H2 := Lib.hid (fun ww => hold_any ht ww)
  generalize hold wd = hw at *
  generalize hold ht = hh at *
  have C := Lib.hid (fun ww => percent_any hw n ww)
  go_enter Tryd.func39, Tryd.ntmps39
  go_wp2_with (first | (go_at_call 53; refine (H1.out _).mono ?_; rintro e w1 ⟨rfl, rfl⟩) | (go_at_call 53; refine (H2.out _).mono ?_; rintro e w1 ⟨rfl, rfl⟩) | (go_at_call 56; refine (C.out _).mono ?_; rintro e w1 ⟨rfl, rfl⟩))
  all_goals go_ret
  all_goals exact ⟨rfl, (Below.refl _ _).alloc (Nat.le_refl _) _⟩
set_option maxRecDepth 100000 in
theorem measure_5 (n : Int) (nm : List UInt8) (font wd ht : Int) (w : World) :
    Calls Tryd.prog 39 #[.agg #[.int .i64 2, .int .i64 n, .int .i64 5, .string (bs nm)], .int .i64 font, .int .i64 wd, .int .i64 ht] w fun e w' => e = .returned (.int .i64 (fpart (hold wd) n 100000)) ∧ Below w.heap.size w w' := by
  have H1 := Lib.hid (fun ww => hold_any wd ww)
  have H2 := Lib.hid (fun ww => hold_any ht ww)
  generalize hold wd = hw at *
  generalize hold ht = hh at *
  have C := Lib.hid (fun ww => percent_any hw n ww)
  go_enter Tryd.func39, Tryd.ntmps39
  go_wp2_with (first | (go_at_call 53; refine (H1.out _).mono ?_; rintro e w1 ⟨rfl, rfl⟩) | (go_at_call 53; refine (H2.out _).mono ?_; rintro e w1 ⟨rfl, rfl⟩) | (go_at_call 56; refine (C.out _).mono ?_; rintro e w1 ⟨rfl, rfl⟩))
  all_goals go_ret
  all_goals exact ⟨rfl, (Below.refl _ _).alloc (Nat.le_refl _) _⟩
set_option maxRecDepth 100000 in
theorem measure_4 (n : Int) (nm : List UInt8) (font wd ht : Int) (w : World) :
    Calls Tryd.prog 39 #[.agg #[.int .i64 2, .int .i64 n, .int .i64 4, .string (bs nm)], .int .i64 font, .int .i64 wd, .int .i64 ht] w fun e w' => e = .returned (.int .i64 (fpart (hold ht) n 100000)) ∧ Below w.heap.size w w' := by
  have H1 := Lib.hid (fun ww => hold_any wd ww)
  have H2 := Lib.hid (fun ww => hold_any ht ww)
  generalize hold wd = hw at *
  generalize hold ht = hh at *
  have C := Lib.hid (fun ww => percent_any hh n ww)
  go_enter Tryd.func39, Tryd.ntmps39
  go_wp2_with (first | (go_at_call 53; refine (H1.out _).mono ?_; rintro e w1 ⟨rfl, rfl⟩) | (go_at_call 53; refine (H2.out _).mono ?_; rintro e w1 ⟨rfl, rfl⟩) | (go_at_call 56; refine (C.out _).mono ?_; rintro e w1 ⟨rfl, rfl⟩))
  all_goals go_ret
  all_goals exact ⟨rfl, (Below.refl _ _).alloc (Nat.le_refl _) _⟩
set_option maxRecDepth 100000 in
theorem measure_6 (n : Int) (nm : List UInt8) (font wd ht : Int) (w : World) :
    Calls Tryd.prog 39 #[.agg #[.int .i64 2, .int .i64 n, .int .i64 6, .string (bs nm)], .int .i64 font, .int .i64 wd, .int .i64 ht] w fun e w' => e = .returned (.int .i64 (fpart (hold ht) n 100000)) ∧ Below w.heap.size w w' := by
  have H1 := Lib.hid (fun ww => hold_any wd ww)
  have H2 := Lib.hid (fun ww => hold_any ht ww)
  generalize hold wd = hw at *
  generalize hold ht = hh at *
  have C := Lib.hid (fun ww => percent_any hh n ww)
  go_enter Tryd.func39, Tryd.ntmps39
  go_wp2_with (first | (go_at_call 53; refine (H1.out _).mono ?_; rintro e w1 ⟨rfl, rfl⟩) | (go_at_call 53; refine (H2.out _).mono ?_; rintro e w1 ⟨rfl, rfl⟩) | (go_at_call 56; refine (C.out _).mono ?_; rintro e w1 ⟨rfl, rfl⟩))
  all_goals go_ret
  all_goals exact ⟨rfl, (Below.refl _ _).alloc (Nat.le_refl _) _⟩
set_option maxRecDepth 100000 in
theorem measure_7 (n : Int) (nm : List UInt8) (font wd ht : Int) (w : World) :
    Calls Tryd.prog 39 #[.agg #[.int .i64 2, .int .i64 n, .int .i64 7, .string (bs nm)], .int .i64 font, .int .i64 wd, .int .i64 ht] w fun e w' => e = .returned (.int .i64 (fpart (min (hold wd) (hold ht)) n 100000)) ∧ Below w.heap.size w w' := by
  have H1 := Lib.hid (fun ww => hold_any wd ww)
  have H2 := Lib.hid (fun ww => hold_any ht ww)
  generalize hold wd = hw at *
  generalize hold ht = hh at *
  have C := Lib.hid (fun q ww => percent_any q n ww)
  go_enter Tryd.func39, Tryd.ntmps39
  go_wp2_with (first | (go_at_call 53; refine (H1.out _).mono ?_; rintro e w1 ⟨rfl, rfl⟩) | (go_at_call 53; refine (H2.out _).mono ?_; rintro e w1 ⟨rfl, rfl⟩) | (go_at_call 56; refine (C.out _ _).mono ?_; rintro e w1 ⟨rfl, rfl⟩))
  all_goals go_ret
  all_goals exact ⟨rfl, (Below.refl _ _).alloc (Nat.le_refl _) _⟩
set_option maxRecDepth 100000 in
theorem measure_8 (n : Int) (nm : List UInt8) (font wd ht : Int) (w : World) :
    Calls Tryd.prog 39 #[.agg #[.int .i64 2, .int .i64 n, .int .i64 8, .string (bs nm)], .int .i64 font, .int .i64 wd, .int .i64 ht] w fun e w' => e = .returned (.int .i64 (fpart (max (hold wd) (hold ht)) n 100000)) ∧ Below w.heap.size w w' := by
  have H1 := Lib.hid (fun ww => hold_any wd ww)
  have H2 := Lib.hid (fun ww => hold_any ht ww)
  generalize hold wd = hw at *
  generalize hold ht = hh at *
  have C := Lib.hid (fun q ww => percent_any q n ww)
  go_enter Tryd.func39, Tryd.ntmps39
  go_wp2_with (first | (go_at_call 53; refine (H1.out _).mono ?_; rintro e w1 ⟨rfl, rfl⟩) | (go_at_call 53; refine (H2.out _).mono ?_; rintro e w1 ⟨rfl, rfl⟩) | (go_at_call 56; refine (C.out _ _).mono ?_; rintro e w1 ⟨rfl, rfl⟩))
  all_goals go_ret
  all_goals exact ⟨rfl, (Below.refl _ _).alloc (Nat.le_refl _) _⟩
set_option maxRecDepth 100000 in
theorem measure_o (n d : Int) (nm : List UInt8) (font wd ht : Int) (w : World) (h1 : (d == 1) = false) (h2 : (d == 2) = false) (h3 : (d == 3) = false) (h4 : (d == 4) = false) (h5 : (d == 5) = false) (h6 : (d == 6) = false) (h7 : (d == 7) = false) (h8 : (d == 8) = false) :
    Calls Tryd.prog 39 #[.agg #[.int .i64 2, .int .i64 n, .int .i64 d, .string (bs nm)], .int .i64 font, .int .i64 wd, .int .i64 ht] w fun e w' => e = .returned (.int .i64 (0)) ∧ Below w.heap.size w w' := by
  have H1 := Lib.hid (fun ww => hold_any wd ww)
  have H2 := Lib.hid (fun ww => hold_any ht ww)
  generalize hold wd = hw at *
  generalize hold ht = hh at *
  go_enter Tryd.func39, Tryd.ntmps39
  go_wp2_with (first | (go_at_call 53; refine (H1.out _).mono ?_; rintro e w1 ⟨rfl, rfl⟩) | (go_at_call 53; refine (H2.out _).mono ?_; rintro e w1 ⟨rfl, rfl⟩))
  all_goals go_ret
  all_goals exact ⟨rfl, (Below.refl _ _).alloc (Nat.le_refl _) _⟩
/-- a length's worth. -/
theorem measure_any (v : Val) (font wd ht : Int) (w : World) :
    Calls Tryd.prog 39 #[.agg #[.int .i64 v.kind, .int .i64 v.n, .int .i64 v.d, .string (bs v.name)], .int .i64 font, .int .i64 wd, .int .i64 ht] w fun e w' => e = .returned (.int .i64 (measureM v font wd ht)) ∧ Below w.heap.size w w' := by
  by_cases hk : v.kind = 2
  · obtain ⟨k, n, d, nm⟩ := v
    simp only at hk
    subst hk
    unfold measureM
    simp only
    rw [if_neg (by simp)]
    by_cases h1 : d = 1
    · subst h1; rw [if_pos (by decide)]; exact measure_1 n nm font wd ht w
    by_cases h2 : d = 2
    · subst h2; rw [if_neg (by decide), if_pos (by decide)]; exact measure_2 n nm font wd ht w
    by_cases h3 : d = 3
    · subst h3; rw [if_neg (by decide), if_neg (by decide), if_pos (by decide)]; exact measure_3 n nm font wd ht w
    by_cases h4 : d = 4
    · subst h4; rw [if_neg (by decide), if_neg (by decide), if_neg (by decide), if_pos (by decide)]; exact measure_4 n nm font wd ht w
    by_cases h5 : d = 5
    · subst h5; rw [if_neg (by decide), if_neg (by decide), if_pos (by decide)]; exact measure_5 n nm font wd ht w
    by_cases h6 : d = 6
    · subst h6; rw [if_neg (by decide), if_neg (by decide), if_neg (by decide), if_pos (by decide)]; exact measure_6 n nm font wd ht w
    by_cases h7 : d = 7
    · subst h7; rw [if_neg (by decide), if_neg (by decide), if_neg (by decide), if_neg (by decide), if_pos (by decide)]; exact measure_7 n nm font wd ht w
    by_cases h8 : d = 8
    · subst h8; rw [if_neg (by decide), if_neg (by decide), if_neg (by decide), if_neg (by decide), if_neg (by decide), if_pos (by decide)]; exact measure_8 n nm font wd ht w
    rw [if_neg h1, if_neg h2, if_neg (by omega), if_neg (by omega), if_neg h7, if_neg h8]
    exact measure_o n d nm font wd ht w (by simp; omega) (by simp; omega) (by simp; omega) (by simp; omega) (by simp; omega) (by simp; omega) (by simp; omega) (by simp; omega)
  · rw [show measureM v font wd ht = 0 by unfold measureM; rw [if_pos hk]]
    exact measure_no v font wd ht w hk
end Go.Proofs.YtfiidocojooghaaDoor
