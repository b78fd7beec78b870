/-
  The walks of layer 1's numbers: Hold, down, Part and the reference's Hold, Floor, Part, on all arguments.
-/
import Derived.Test.YtflakidnjchhhaaDoorChecked
import Derived.Test.YtflakidnjchhhaaDoorFixPlain
import Derived.WalkKit
import Derived.Lib.Hide
import Derived.Deep.QuietTactic
import Derived.BigQuiet
import Derived.WalkLawsBesides
namespace Go.Proofs.YtflakidnjchhhaaDoor
open Go.RowKit Wsc
theorem ret_i {a b : Int} (h : a = b) : Ending.returned (.int .i64 a) = .returned (.int .i64 b) := by rw [h]
theorem hold_any (x : Int) (w : World) :
    Calls Tryd.prog 30 #[.int .i64 x] w fun e w' => e = .returned (.int .i64 (hold x)) ∧ w = w' := by
  go_enter Tryd.func30, Tryd.ntmps30
  go_wp2
  all_goals go_ret
  all_goals exact ⟨ret_i (by unfold hold; (repeat' split at *) <;> omega), rfl⟩
theorem down_any (p d : Int) (w : World) (hp : -1152921504606846976 ≤ p ∧ p ≤ 1152921504606846976) (hd : d ≠ 0) (hd2 : -1073741824 ≤ d ∧ d ≤ 1073741824) :
    Calls Tryd.prog 38 #[.int .i64 p, .int .i64 d] w fun e w' => e = .returned (.int .i64 (floor p d)) ∧ w = w' := by
  have E := Lib.hid (down_eq p d hd)
  have hq := tdiv_bd (d := d) hp
  by_cases h0 : p.tmod d = 0
  · go_enter Tryd.func38, Tryd.ntmps38
    go_wp2
    go_ret
    exact ⟨ret_i (by rw [E.out, if_neg (by simp [h0])]), rfl⟩
  · have hz := Lib.hid h0
    by_cases h1 : p < 0
    · have hm : (p.tmod d != 0) = true := by simpa using h0
      by_cases h2 : d < 0
      all_goals
        go_enter Tryd.func38, Tryd.ntmps38
        go_wp2
        go_ret
        exact ⟨ret_i (by rw [E.out]; simp [hz.out]; omega), rfl⟩
    · have hm : (p % d != 0) = true := by rw [Int.tmod_eq_emod_of_nonneg (by omega)] at h0; simpa using h0
      by_cases h2 : d < 0
      all_goals
        go_enter Tryd.func38, Tryd.ntmps38
        go_wp2
        go_ret
        exact ⟨ret_i (by rw [E.out]; simp [hz.out]; omega), rfl⟩
theorem fixPart_any (a n d : Int) (w : World) :
    Calls Tryd.prog 32 #[.int .i64 a, .int .i64 n, .int .i64 d] w fun e w' => e = .returned (.int .i64 (fpart a n d)) ∧ w = w' := by
  by_cases hd : d = 0
  · subst hd
    go_enter Tryd.func32, Tryd.ntmps32
    go_wp2
    go_ret
    exact ⟨ret_i (by simp [fpart]), rfl⟩
  · have h1 := hold_mul_bd a n
    have h2 := hold_bd d
    have h3 := mt (hold_eq_zero d).mp hd
    go_enter Tryd.func32, Tryd.ntmps32
    go_wp2_with (first | (go_at_call 30; refine (hold_any _ _).mono ?_; rintro e w' ⟨rfl, rfl⟩) | (go_at_call 38; refine (down_any _ _ _ h1 h3 h2).mono ?_; rintro e w' ⟨rfl, rfl⟩))
    go_ret
    exact ⟨ret_i (by simp [fpart, hd]), rfl⟩
theorem refHold_any (x : Int) (w : World) :
    Calls Tryd.prog 31 #[.int .i64 x] w fun e w' => e = .returned (.int .i64 (hold x)) ∧ w = w' := by
  go_enter Tryd.func31, Tryd.ntmps31
  go_wp2
  all_goals go_ret
  all_goals exact ⟨ret_i (by unfold hold; (repeat' split) <;> omega), rfl⟩
theorem refFloor_pos (p d : Int) (w : World) (hp : -1152921504606846976 ≤ p ∧ p ≤ 1152921504606846976) (hd : 1 ≤ d) (hd2 : d ≤ 1073741824) :
    Calls Tryd.prog 37 #[.int .i64 p, .int .i64 d] w fun e w' => e = .returned (.int .i64 (p / d)) ∧ w = w' := by
  have H := div_bd _ hp hd
  by_cases h : 0 ≤ p
  · go_enter Tryd.func37, Tryd.ntmps37
    go_wp2
    go_ret
    exact ⟨rfl, rfl⟩
  · have H2 := div_bd (d := d) 2305843009213693952 (p := d - 1 - p) (by omega) hd
    go_enter Tryd.func37, Tryd.ntmps37
    go_wp2
    go_ret
    exact ⟨ret_i (by 
     have e : (d - 1 - p) / d = - (p / d) := neg_div_up p d (by omega)
     omega), rfl⟩
theorem refFloor_any (p d : Int) (w : World) (hp : -1152921504606846976 ≤ p ∧ p ≤ 1152921504606846976) (hd : d ≠ 0) (hd2 : -1073741824 ≤ d ∧ d ≤ 1073741824) :
    Calls Tryd.prog 37 #[.int .i64 p, .int .i64 d] w fun e w' => e = .returned (.int .i64 (floor p d)) ∧ w = w' := by
  by_cases h : d < 0
  · go_enter Tryd.func37, Tryd.ntmps37
    go_wp2_with (go_at_call 37; refine (refFloor_pos (-p) (-d) _ (by omega) (by omega) (by omega)).mono ?_; rintro e w' ⟨rfl, rfl⟩)
    go_ret
    exact ⟨ret_i (by simp [floor, h]), rfl⟩
  · have := refFloor_pos p d w hp (by omega) (by omega)
    unfold floor; rw [if_neg h]; exact this
theorem refPart_any (a n d : Int) (w : World) :
    Calls Tryd.prog 28 #[.int .i64 a, .int .i64 n, .int .i64 d] w fun e w' => e = .returned (.int .i64 (fpart a n d)) ∧ w = w' := by
  by_cases hd : d = 0
  · subst hd
    go_enter Tryd.func28, Tryd.ntmps28
    go_wp2_with (first | (go_at_call 31; refine (refHold_any _ _).mono ?_; rintro e w' ⟨rfl, rfl⟩))
    go_ret
    exact ⟨ret_i (by simp [fpart]), rfl⟩
  · have h1 := hold_mul_bd a n
    have h2 := hold_bd d
    have h3 := mt (hold_eq_zero d).mp hd
    go_enter Tryd.func28, Tryd.ntmps28
    go_wp2_with (first | (go_at_call 31; refine (refHold_any _ _).mono ?_; rintro e w' ⟨rfl, rfl⟩) | (go_at_call 37; refine (refFloor_any _ _ _ h1 h3 h2).mono ?_; rintro e w' ⟨rfl, rfl⟩))
    go_ret
    exact ⟨ret_i (by simp [fpart, hd]), rfl⟩
end Go.Proofs.YtflakidnjchhhaaDoor
