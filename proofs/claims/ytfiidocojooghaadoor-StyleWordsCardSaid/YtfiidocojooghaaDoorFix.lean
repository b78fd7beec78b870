/-
  The walks of layer 1's numbers: Hold, down, Part and the reference's Hold, Floor, Part, on all arguments.
-/
import Derived.Test.YtfiidocojooghaaDoorChecked
import Derived.Test.YtfiidocojooghaaDoorFixPlain
import Derived.WalkKit
import Derived.Lib.Hide
import Derived.Deep.QuietTactic
import Derived.BigQuiet
import Derived.WalkLawsBesides
namespace Go.Proofs.YtfiidocojooghaaDoor
open Go.RowKit Wsc
theorem ret_i {a b : Int} (h : a = b) : Ending.returned (.int .i64 a) = .returned (.int .i64 b) := by rw [h]
theorem hold_any (x : Int) (w : World) :
    Calls Tryd.prog 53 #[.int .i64 x] w fun e w' => e = .returned (.int .i64 (hold x)) ∧ w = w' := by
  go_enter Tryd.func53, Tryd.ntmps53
  go_wp2
  all_goals go_ret
  all_goals exact ⟨ret_i (by unfold hold; (repeat' split at *) <;> omega), rfl⟩
theorem down_any (p d : Int) (w : World) (hp : -1152921504606846976 ≤ p ∧ p ≤ 1152921504606846976) (hd : d ≠ 0) (hd2 : -1073741824 ≤ d ∧ d ≤ 1073741824) :
    Calls Tryd.prog 63 #[.int .i64 p, .int .i64 d] w fun e w' => e = .returned (.int .i64 (floor p d)) ∧ w = w' := by
  have E := Lib.hid (down_eq p d hd)
  have hq := tdiv_bd (d := d) hp
  by_cases h0 : p.tmod d = 0
  · go_enter Tryd.func63, Tryd.ntmps63
    go_wp2
    go_ret
    exact ⟨ret_i (by rw [E.out, if_neg (by simp [h0])]), rfl⟩
  · have hz := Lib.hid h0
    by_cases h1 : p < 0
    · have hm : (p.tmod d != 0) = true := by simpa using h0
      by_cases h2 : d < 0
      all_goals
        go_enter Tryd.func63, Tryd.ntmps63
        go_wp2
        go_ret
        exact ⟨ret_i (by rw [E.out]; simp [hz.out]; omega), rfl⟩
    · have hm : (p % d != 0) = true := by rw [Int.tmod_eq_emod_of_nonneg (by omega)] at h0; simpa using h0
      by_cases h2 : d < 0
      all_goals
        go_enter Tryd.func63, Tryd.ntmps63
        go_wp2
        go_ret
        exact ⟨ret_i (by rw [E.out]; simp [hz.out]; omega), rfl⟩
theorem fixPart_any (a n d : Int) (w : World) :
    Calls Tryd.prog 55 #[.int .i64 a, .int .i64 n, .int .i64 d] w fun e w' => e = .returned (.int .i64 (fpart a n d)) ∧ w = w' := by
  by_cases hd : d = 0
  · subst hd
    go_enter Tryd.func55, Tryd.ntmps55
    go_wp2
    go_ret
    exact ⟨ret_i (by simp [fpart]), rfl⟩
  · have h1 := hold_mul_bd a n
    have h2 := hold_bd d
    have h3 := mt (hold_eq_zero d).mp hd
    go_enter Tryd.func55, Tryd.ntmps55
    go_wp2_with (first | (go_at_call 53; refine (hold_any _ _).mono ?_; rintro e w' ⟨rfl, rfl⟩) | (go_at_call 63; refine (down_any _ _ _ h1 h3 h2).mono ?_; rintro e w' ⟨rfl, rfl⟩))
    go_ret
    exact ⟨ret_i (by simp [fpart, hd]), rfl⟩
end Go.Proofs.YtfiidocojooghaaDoor
