/-
  The walks of layer 17: whose a field is, which words a property has (printed by gen_fields.py).
-/
import Derived.Test.YtfiidocojooghaaDoorPropF
namespace Go.Proofs.YtfiidocojooghaaDoor
open Go.RowKit Wsc
theorem ret_ptr {g a b : Nat} (h : a = b) : Ending.returned (.pointer (some ⟨g, a, none⟩)) = .returned (.pointer (some ⟨g, b, none⟩)) := by rw [h]

set_option maxRecDepth 100000 in
theorem st_sized_3 (g o : Nat) (w : World) :
    Calls Tryd.prog 21 #[.pointer (some ⟨g, o, none⟩), .int .i64 3] w fun e w' => e = .returned (.pointer (some ⟨g, o + 2, none⟩)) ∧ w = w' := by
  go_enter Tryd.func21, Tryd.ntmps21
  go_wp2
  go_ret
  exact ⟨ret_ptr (by omega), rfl⟩
set_option maxRecDepth 100000 in
theorem st_sized_4 (g o : Nat) (w : World) :
    Calls Tryd.prog 21 #[.pointer (some ⟨g, o, none⟩), .int .i64 4] w fun e w' => e = .returned (.pointer (some ⟨g, o + 4, none⟩)) ∧ w = w' := by
  go_enter Tryd.func21, Tryd.ntmps21
  go_wp2
  go_ret
  exact ⟨ret_ptr (by omega), rfl⟩
set_option maxRecDepth 100000 in
theorem st_sized_5 (g o : Nat) (w : World) :
    Calls Tryd.prog 21 #[.pointer (some ⟨g, o, none⟩), .int .i64 5] w fun e w' => e = .returned (.pointer (some ⟨g, o + 6, none⟩)) ∧ w = w' := by
  go_enter Tryd.func21, Tryd.ntmps21
  go_wp2
  go_ret
  exact ⟨ret_ptr (by omega), rfl⟩
set_option maxRecDepth 100000 in
theorem st_sized_6 (g o : Nat) (w : World) :
    Calls Tryd.prog 21 #[.pointer (some ⟨g, o, none⟩), .int .i64 6] w fun e w' => e = .returned (.pointer (some ⟨g, o + 8, none⟩)) ∧ w = w' := by
  go_enter Tryd.func21, Tryd.ntmps21
  go_wp2
  go_ret
  exact ⟨ret_ptr (by omega), rfl⟩
set_option maxRecDepth 100000 in
theorem st_sized_7 (g o : Nat) (w : World) :
    Calls Tryd.prog 21 #[.pointer (some ⟨g, o, none⟩), .int .i64 7] w fun e w' => e = .returned (.pointer (some ⟨g, o + 10, none⟩)) ∧ w = w' := by
  go_enter Tryd.func21, Tryd.ntmps21
  go_wp2
  go_ret
  exact ⟨ret_ptr (by omega), rfl⟩
set_option maxRecDepth 100000 in
theorem st_sized_8 (g o : Nat) (w : World) :
    Calls Tryd.prog 21 #[.pointer (some ⟨g, o, none⟩), .int .i64 8] w fun e w' => e = .returned (.pointer (some ⟨g, o + 12, none⟩)) ∧ w = w' := by
  go_enter Tryd.func21, Tryd.ntmps21
  go_wp2
  go_ret
  exact ⟨ret_ptr (by omega), rfl⟩
set_option maxRecDepth 100000 in
theorem st_sized_9 (g o : Nat) (w : World) :
    Calls Tryd.prog 21 #[.pointer (some ⟨g, o, none⟩), .int .i64 9] w fun e w' => e = .returned (.pointer (some ⟨g, o + 14, none⟩)) ∧ w = w' := by
  go_enter Tryd.func21, Tryd.ntmps21
  go_wp2
  go_ret
  exact ⟨ret_ptr (by omega), rfl⟩
set_option maxRecDepth 100000 in
theorem st_sized_10 (g o : Nat) (w : World) :
    Calls Tryd.prog 21 #[.pointer (some ⟨g, o, none⟩), .int .i64 10] w fun e w' => e = .returned (.pointer (some ⟨g, o + 16, none⟩)) ∧ w = w' := by
  go_enter Tryd.func21, Tryd.ntmps21
  go_wp2
  go_ret
  exact ⟨ret_ptr (by omega), rfl⟩
set_option maxRecDepth 100000 in
theorem st_sized_11 (g o : Nat) (w : World) :
    Calls Tryd.prog 21 #[.pointer (some ⟨g, o, none⟩), .int .i64 11] w fun e w' => e = .returned (.pointer (some ⟨g, o + 18, none⟩)) ∧ w = w' := by
  go_enter Tryd.func21, Tryd.ntmps21
  go_wp2
  go_ret
  exact ⟨ret_ptr (by omega), rfl⟩
set_option maxRecDepth 100000 in
theorem st_sized_12 (g o : Nat) (w : World) :
    Calls Tryd.prog 21 #[.pointer (some ⟨g, o, none⟩), .int .i64 12] w fun e w' => e = .returned (.pointer (some ⟨g, o + 20, none⟩)) ∧ w = w' := by
  go_enter Tryd.func21, Tryd.ntmps21
  go_wp2
  go_ret
  exact ⟨ret_ptr (by omega), rfl⟩
set_option maxRecDepth 100000 in
theorem st_sized_13 (g o : Nat) (w : World) :
    Calls Tryd.prog 21 #[.pointer (some ⟨g, o, none⟩), .int .i64 13] w fun e w' => e = .returned (.pointer (some ⟨g, o + 22, none⟩)) ∧ w = w' := by
  go_enter Tryd.func21, Tryd.ntmps21
  go_wp2
  go_ret
  exact ⟨ret_ptr (by omega), rfl⟩
set_option maxRecDepth 100000 in
theorem st_sized_14 (g o : Nat) (w : World) :
    Calls Tryd.prog 21 #[.pointer (some ⟨g, o, none⟩), .int .i64 14] w fun e w' => e = .returned (.pointer (some ⟨g, o + 24, none⟩)) ∧ w = w' := by
  go_enter Tryd.func21, Tryd.ntmps21
  go_wp2
  go_ret
  exact ⟨ret_ptr (by omega), rfl⟩
set_option maxRecDepth 100000 in
theorem st_sized_15 (g o : Nat) (w : World) :
    Calls Tryd.prog 21 #[.pointer (some ⟨g, o, none⟩), .int .i64 15] w fun e w' => e = .returned (.pointer (some ⟨g, o + 26, none⟩)) ∧ w = w' := by
  go_enter Tryd.func21, Tryd.ntmps21
  go_wp2
  go_ret
  exact ⟨ret_ptr (by omega), rfl⟩
set_option maxRecDepth 100000 in
theorem st_sized_16 (g o : Nat) (w : World) :
    Calls Tryd.prog 21 #[.pointer (some ⟨g, o, none⟩), .int .i64 16] w fun e w' => e = .returned (.pointer (some ⟨g, o + 28, none⟩)) ∧ w = w' := by
  go_enter Tryd.func21, Tryd.ntmps21
  go_wp2
  go_ret
  exact ⟨ret_ptr (by omega), rfl⟩
set_option maxRecDepth 100000 in
theorem st_sized_26 (g o : Nat) (w : World) :
    Calls Tryd.prog 21 #[.pointer (some ⟨g, o, none⟩), .int .i64 26] w fun e w' => e = .returned (.pointer (some ⟨g, o + 40, none⟩)) ∧ w = w' := by
  go_enter Tryd.func21, Tryd.ntmps21
  go_wp2
  go_ret
  exact ⟨ret_ptr (by omega), rfl⟩
set_option maxRecDepth 100000 in
theorem st_sized_32 (g o : Nat) (w : World) :
    Calls Tryd.prog 21 #[.pointer (some ⟨g, o, none⟩), .int .i64 32] w fun e w' => e = .returned (.pointer (some ⟨g, o + 47, none⟩)) ∧ w = w' := by
  go_enter Tryd.func21, Tryd.ntmps21
  go_wp2
  go_ret
  exact ⟨ret_ptr (by omega), rfl⟩
set_option maxRecDepth 100000 in
theorem st_sized_33 (g o : Nat) (w : World) :
    Calls Tryd.prog 21 #[.pointer (some ⟨g, o, none⟩), .int .i64 33] w fun e w' => e = .returned (.pointer (some ⟨g, o + 49, none⟩)) ∧ w = w' := by
  go_enter Tryd.func21, Tryd.ntmps21
  go_wp2
  go_ret
  exact ⟨ret_ptr (by omega), rfl⟩
set_option maxRecDepth 100000 in
theorem st_sized_hi (g o : Nat) (p : Int) (w : World) (h3 : (p == 3) = false) (h4 : (p == 4) = false) (h5 : (p == 5) = false) (h6 : (p == 6) = false) (h7 : (p == 7) = false) (h8 : (p == 8) = false) (h26 : (p == 26) = false) (h32 : (p == 32) = false) (h33 : (p == 33) = false) (hx : 17 ≤ p) :
    Calls Tryd.prog 21 #[.pointer (some ⟨g, o, none⟩), .int .i64 p] w fun e w' => e = .returned (.pointer none) ∧ w = w' := by
  go_enter Tryd.func21, Tryd.ntmps21
  go_wp2
  go_ret
  exact ⟨rfl, rfl⟩
set_option maxRecDepth 100000 in
theorem st_sized_lo (g o : Nat) (p : Int) (w : World) (h3 : (p == 3) = false) (h4 : (p == 4) = false) (h5 : (p == 5) = false) (h6 : (p == 6) = false) (h7 : (p == 7) = false) (h8 : (p == 8) = false) (h26 : (p == 26) = false) (h32 : (p == 32) = false) (h33 : (p == 33) = false) (hx : p < 9) :
    Calls Tryd.prog 21 #[.pointer (some ⟨g, o, none⟩), .int .i64 p] w fun e w' => e = .returned (.pointer none) ∧ w = w' := by
  go_enter Tryd.func21, Tryd.ntmps21
  go_wp2
  go_ret
  exact ⟨rfl, rfl⟩
set_option maxRecDepth 100000 in
theorem st_number_1 (g o : Nat) (w : World) :
    Calls Tryd.prog 22 #[.pointer (some ⟨g, o, none⟩), .int .i64 1] w fun e w' => e = .returned (.pointer (some ⟨g, o + 0, none⟩)) ∧ w = w' := by
  go_enter Tryd.func22, Tryd.ntmps22
  go_wp2
  go_ret
  exact ⟨ret_ptr (by omega), rfl⟩
set_option maxRecDepth 100000 in
theorem st_number_17 (g o : Nat) (w : World) :
    Calls Tryd.prog 22 #[.pointer (some ⟨g, o, none⟩), .int .i64 17] w fun e w' => e = .returned (.pointer (some ⟨g, o + 30, none⟩)) ∧ w = w' := by
  go_enter Tryd.func22, Tryd.ntmps22
  go_wp2
  go_ret
  exact ⟨ret_ptr (by omega), rfl⟩
set_option maxRecDepth 100000 in
theorem st_number_18 (g o : Nat) (w : World) :
    Calls Tryd.prog 22 #[.pointer (some ⟨g, o, none⟩), .int .i64 18] w fun e w' => e = .returned (.pointer (some ⟨g, o + 31, none⟩)) ∧ w = w' := by
  go_enter Tryd.func22, Tryd.ntmps22
  go_wp2
  go_ret
  exact ⟨ret_ptr (by omega), rfl⟩
set_option maxRecDepth 100000 in
theorem st_number_19 (g o : Nat) (w : World) :
    Calls Tryd.prog 22 #[.pointer (some ⟨g, o, none⟩), .int .i64 19] w fun e w' => e = .returned (.pointer (some ⟨g, o + 32, none⟩)) ∧ w = w' := by
  go_enter Tryd.func22, Tryd.ntmps22
  go_wp2
  go_ret
  exact ⟨ret_ptr (by omega), rfl⟩
set_option maxRecDepth 100000 in
theorem st_number_20 (g o : Nat) (w : World) :
    Calls Tryd.prog 22 #[.pointer (some ⟨g, o, none⟩), .int .i64 20] w fun e w' => e = .returned (.pointer (some ⟨g, o + 33, none⟩)) ∧ w = w' := by
  go_enter Tryd.func22, Tryd.ntmps22
  go_wp2
  go_ret
  exact ⟨ret_ptr (by omega), rfl⟩
set_option maxRecDepth 100000 in
theorem st_number_22 (g o : Nat) (w : World) :
    Calls Tryd.prog 22 #[.pointer (some ⟨g, o, none⟩), .int .i64 22] w fun e w' => e = .returned (.pointer (some ⟨g, o + 36, none⟩)) ∧ w = w' := by
  go_enter Tryd.func22, Tryd.ntmps22
  go_wp2
  go_ret
  exact ⟨ret_ptr (by omega), rfl⟩
set_option maxRecDepth 100000 in
theorem st_number_23 (g o : Nat) (w : World) :
    Calls Tryd.prog 22 #[.pointer (some ⟨g, o, none⟩), .int .i64 23] w fun e w' => e = .returned (.pointer (some ⟨g, o + 37, none⟩)) ∧ w = w' := by
  go_enter Tryd.func22, Tryd.ntmps22
  go_wp2
  go_ret
  exact ⟨ret_ptr (by omega), rfl⟩
set_option maxRecDepth 100000 in
theorem st_number_24 (g o : Nat) (w : World) :
    Calls Tryd.prog 22 #[.pointer (some ⟨g, o, none⟩), .int .i64 24] w fun e w' => e = .returned (.pointer (some ⟨g, o + 38, none⟩)) ∧ w = w' := by
  go_enter Tryd.func22, Tryd.ntmps22
  go_wp2
  go_ret
  exact ⟨ret_ptr (by omega), rfl⟩
set_option maxRecDepth 100000 in
theorem st_number_25 (g o : Nat) (w : World) :
    Calls Tryd.prog 22 #[.pointer (some ⟨g, o, none⟩), .int .i64 25] w fun e w' => e = .returned (.pointer (some ⟨g, o + 39, none⟩)) ∧ w = w' := by
  go_enter Tryd.func22, Tryd.ntmps22
  go_wp2
  go_ret
  exact ⟨ret_ptr (by omega), rfl⟩
set_option maxRecDepth 100000 in
theorem st_number_27 (g o : Nat) (w : World) :
    Calls Tryd.prog 22 #[.pointer (some ⟨g, o, none⟩), .int .i64 27] w fun e w' => e = .returned (.pointer (some ⟨g, o + 42, none⟩)) ∧ w = w' := by
  go_enter Tryd.func22, Tryd.ntmps22
  go_wp2
  go_ret
  exact ⟨ret_ptr (by omega), rfl⟩
set_option maxRecDepth 100000 in
theorem st_number_28 (g o : Nat) (w : World) :
    Calls Tryd.prog 22 #[.pointer (some ⟨g, o, none⟩), .int .i64 28] w fun e w' => e = .returned (.pointer (some ⟨g, o + 43, none⟩)) ∧ w = w' := by
  go_enter Tryd.func22, Tryd.ntmps22
  go_wp2
  go_ret
  exact ⟨ret_ptr (by omega), rfl⟩
set_option maxRecDepth 100000 in
theorem st_number_29 (g o : Nat) (w : World) :
    Calls Tryd.prog 22 #[.pointer (some ⟨g, o, none⟩), .int .i64 29] w fun e w' => e = .returned (.pointer (some ⟨g, o + 44, none⟩)) ∧ w = w' := by
  go_enter Tryd.func22, Tryd.ntmps22
  go_wp2
  go_ret
  exact ⟨ret_ptr (by omega), rfl⟩
set_option maxRecDepth 100000 in
theorem st_number_30 (g o : Nat) (w : World) :
    Calls Tryd.prog 22 #[.pointer (some ⟨g, o, none⟩), .int .i64 30] w fun e w' => e = .returned (.pointer (some ⟨g, o + 45, none⟩)) ∧ w = w' := by
  go_enter Tryd.func22, Tryd.ntmps22
  go_wp2
  go_ret
  exact ⟨ret_ptr (by omega), rfl⟩
set_option maxRecDepth 100000 in
theorem st_number_31 (g o : Nat) (w : World) :
    Calls Tryd.prog 22 #[.pointer (some ⟨g, o, none⟩), .int .i64 31] w fun e w' => e = .returned (.pointer (some ⟨g, o + 46, none⟩)) ∧ w = w' := by
  go_enter Tryd.func22, Tryd.ntmps22
  go_wp2
  go_ret
  exact ⟨ret_ptr (by omega), rfl⟩
set_option maxRecDepth 100000 in
theorem st_number_34 (g o : Nat) (w : World) :
    Calls Tryd.prog 22 #[.pointer (some ⟨g, o, none⟩), .int .i64 34] w fun e w' => e = .returned (.pointer (some ⟨g, o + 51, none⟩)) ∧ w = w' := by
  go_enter Tryd.func22, Tryd.ntmps22
  go_wp2
  go_ret
  exact ⟨ret_ptr (by omega), rfl⟩
set_option maxRecDepth 100000 in
theorem st_number_36 (g o : Nat) (w : World) :
    Calls Tryd.prog 22 #[.pointer (some ⟨g, o, none⟩), .int .i64 36] w fun e w' => e = .returned (.pointer (some ⟨g, o + 53, none⟩)) ∧ w = w' := by
  go_enter Tryd.func22, Tryd.ntmps22
  go_wp2
  go_ret
  exact ⟨ret_ptr (by omega), rfl⟩
set_option maxRecDepth 100000 in
theorem st_number_37 (g o : Nat) (w : World) :
    Calls Tryd.prog 22 #[.pointer (some ⟨g, o, none⟩), .int .i64 37] w fun e w' => e = .returned (.pointer (some ⟨g, o + 54, none⟩)) ∧ w = w' := by
  go_enter Tryd.func22, Tryd.ntmps22
  go_wp2
  go_ret
  exact ⟨ret_ptr (by omega), rfl⟩
set_option maxRecDepth 100000 in
theorem st_number_hi (g o : Nat) (p : Int) (w : World) (h1 : (p == 1) = false) (h22 : (p == 22) = false) (h23 : (p == 23) = false) (h24 : (p == 24) = false) (h25 : (p == 25) = false) (h27 : (p == 27) = false) (h28 : (p == 28) = false) (h29 : (p == 29) = false) (h30 : (p == 30) = false) (h31 : (p == 31) = false) (h34 : (p == 34) = false) (h36 : (p == 36) = false) (h37 : (p == 37) = false) (hx : 21 ≤ p) :
    Calls Tryd.prog 22 #[.pointer (some ⟨g, o, none⟩), .int .i64 p] w fun e w' => e = .returned (.pointer none) ∧ w = w' := by
  go_enter Tryd.func22, Tryd.ntmps22
  go_wp2
  go_ret
  exact ⟨rfl, rfl⟩
set_option maxRecDepth 100000 in
theorem st_number_lo (g o : Nat) (p : Int) (w : World) (h1 : (p == 1) = false) (h22 : (p == 22) = false) (h23 : (p == 23) = false) (h24 : (p == 24) = false) (h25 : (p == 25) = false) (h27 : (p == 27) = false) (h28 : (p == 28) = false) (h29 : (p == 29) = false) (h30 : (p == 30) = false) (h31 : (p == 31) = false) (h34 : (p == 34) = false) (h36 : (p == 36) = false) (h37 : (p == 37) = false) (hx : p < 17) :
    Calls Tryd.prog 22 #[.pointer (some ⟨g, o, none⟩), .int .i64 p] w fun e w' => e = .returned (.pointer none) ∧ w = w' := by
  go_enter Tryd.func22, Tryd.ntmps22
  go_wp2
  go_ret
  exact ⟨rfl, rfl⟩
theorem st_sized_any (g o : Nat) (p : Int) (w : World) :
    Calls Tryd.prog 21 #[.pointer (some ⟨g, o, none⟩), .int .i64 p] w fun e w' => e = .returned (.pointer ((sizedOff p).map fun k => ⟨g, o + k, none⟩)) ∧ w = w' := by
  by_cases h3 : p = 3
  · subst h3; exact st_sized_3 g o w
  by_cases h4 : p = 4
  · subst h4; exact st_sized_4 g o w
  by_cases h5 : p = 5
  · subst h5; exact st_sized_5 g o w
  by_cases h6 : p = 6
  · subst h6; exact st_sized_6 g o w
  by_cases h7 : p = 7
  · subst h7; exact st_sized_7 g o w
  by_cases h8 : p = 8
  · subst h8; exact st_sized_8 g o w
  by_cases h9 : p = 9
  · subst h9; exact st_sized_9 g o w
  by_cases h10 : p = 10
  · subst h10; exact st_sized_10 g o w
  by_cases h11 : p = 11
  · subst h11; exact st_sized_11 g o w
  by_cases h12 : p = 12
  · subst h12; exact st_sized_12 g o w
  by_cases h13 : p = 13
  · subst h13; exact st_sized_13 g o w
  by_cases h14 : p = 14
  · subst h14; exact st_sized_14 g o w
  by_cases h15 : p = 15
  · subst h15; exact st_sized_15 g o w
  by_cases h16 : p = 16
  · subst h16; exact st_sized_16 g o w
  by_cases h26 : p = 26
  · subst h26; exact st_sized_26 g o w
  by_cases h32 : p = 32
  · subst h32; exact st_sized_32 g o w
  by_cases h33 : p = 33
  · subst h33; exact st_sized_33 g o w
  have e : sizedOff p = none := by unfold sizedOff; rw [if_neg h3, if_neg h4, if_neg h5, if_neg h6, if_neg h7, if_neg h8, if_neg h26, if_neg h32, if_neg h33, if_neg (by omega), if_neg (by omega)]
  rw [e]
  by_cases hx : 17 ≤ p
  · exact st_sized_hi g o p w (by simp; omega) (by simp; omega) (by simp; omega) (by simp; omega) (by simp; omega) (by simp; omega) (by simp; omega) (by simp; omega) (by simp; omega) hx
  · exact st_sized_lo g o p w (by simp; omega) (by simp; omega) (by simp; omega) (by simp; omega) (by simp; omega) (by simp; omega) (by simp; omega) (by simp; omega) (by simp; omega) (by omega)
theorem st_number_any (g o : Nat) (p : Int) (w : World) :
    Calls Tryd.prog 22 #[.pointer (some ⟨g, o, none⟩), .int .i64 p] w fun e w' => e = .returned (.pointer ((numOff p).map fun k => ⟨g, o + k, none⟩)) ∧ w = w' := by
  by_cases h1 : p = 1
  · subst h1; exact st_number_1 g o w
  by_cases h17 : p = 17
  · subst h17; exact st_number_17 g o w
  by_cases h18 : p = 18
  · subst h18; exact st_number_18 g o w
  by_cases h19 : p = 19
  · subst h19; exact st_number_19 g o w
  by_cases h20 : p = 20
  · subst h20; exact st_number_20 g o w
  by_cases h22 : p = 22
  · subst h22; exact st_number_22 g o w
  by_cases h23 : p = 23
  · subst h23; exact st_number_23 g o w
  by_cases h24 : p = 24
  · subst h24; exact st_number_24 g o w
  by_cases h25 : p = 25
  · subst h25; exact st_number_25 g o w
  by_cases h27 : p = 27
  · subst h27; exact st_number_27 g o w
  by_cases h28 : p = 28
  · subst h28; exact st_number_28 g o w
  by_cases h29 : p = 29
  · subst h29; exact st_number_29 g o w
  by_cases h30 : p = 30
  · subst h30; exact st_number_30 g o w
  by_cases h31 : p = 31
  · subst h31; exact st_number_31 g o w
  by_cases h34 : p = 34
  · subst h34; exact st_number_34 g o w
  by_cases h36 : p = 36
  · subst h36; exact st_number_36 g o w
  by_cases h37 : p = 37
  · subst h37; exact st_number_37 g o w
  have e : numOff p = none := by unfold numOff; rw [if_neg h1, if_neg h22, if_neg h23, if_neg h24, if_neg h25, if_neg h27, if_neg h28, if_neg h29, if_neg h30, if_neg h31, if_neg h34, if_neg h36, if_neg h37, if_neg (by omega)]
  rw [e]
  by_cases hx : 21 ≤ p
  · exact st_number_hi g o p w (by simp; omega) (by simp; omega) (by simp; omega) (by simp; omega) (by simp; omega) (by simp; omega) (by simp; omega) (by simp; omega) (by simp; omega) (by simp; omega) (by simp; omega) (by simp; omega) (by simp; omega) hx
  · exact st_number_lo g o p w (by simp; omega) (by simp; omega) (by simp; omega) (by simp; omega) (by simp; omega) (by simp; omega) (by simp; omega) (by simp; omega) (by simp; omega) (by simp; omega) (by simp; omega) (by simp; omega) (by simp; omega) (by omega)
def rowL (p : Int) : List UInt8 :=
  if p = 1 then [98, 108, 111, 99, 107, 32, 102, 108, 101, 120, 32, 110, 111, 110, 101] else if p = 22 then [114, 111, 119, 32, 114, 111, 119, 45, 114, 101, 118, 101, 114, 115, 101, 32, 99, 111, 108, 117, 109, 110, 32, 99, 111, 108, 117, 109, 110, 45, 114, 101, 118, 101, 114, 115, 101] else if p = 23 then [110, 111, 119, 114, 97, 112, 32, 119, 114, 97, 112, 32, 119, 114, 97, 112, 45, 114, 101, 118, 101, 114, 115, 101] else if p = 28 then [115, 116, 97, 114, 116, 32, 101, 110, 100, 32, 99, 101, 110, 116, 101, 114, 32, 115, 112, 97, 99, 101, 45, 98, 101, 116, 119, 101, 101, 110, 32, 115, 112, 97, 99, 101, 45, 97, 114, 111, 117, 110, 100, 32, 115, 112, 97, 99, 101, 45, 101, 118, 101, 110, 108, 121] else if p = 29 then [115, 116, 114, 101, 116, 99, 104, 32, 115, 116, 97, 114, 116, 32, 101, 110, 100, 32, 99, 101, 110, 116, 101, 114] else if p = 30 then [97, 117, 116, 111, 32, 115, 116, 114, 101, 116, 99, 104, 32, 115, 116, 97, 114, 116, 32, 101, 110, 100, 32, 99, 101, 110, 116, 101, 114] else if p = 31 then [115, 116, 114, 101, 116, 99, 104, 32, 115, 116, 97, 114, 116, 32, 101, 110, 100, 32, 99, 101, 110, 116, 101, 114, 32, 115, 112, 97, 99, 101, 45, 98, 101, 116, 119, 101, 101, 110, 32, 115, 112, 97, 99, 101, 45, 97, 114, 111, 117, 110, 100, 32, 115, 112, 97, 99, 101, 45, 101, 118, 101, 110, 108, 121] else if p = 34 then [110, 111, 114, 109, 97, 108, 32, 105, 110, 108, 105, 110, 101, 45, 115, 105, 122, 101, 32, 115, 105, 122, 101] else []
set_option maxRecDepth 100000 in
theorem row_1 (w : World) :
    Calls Tryd.prog 40 #[.int .i64 1] w fun e w' => e = .returned (.string (bs [98, 108, 111, 99, 107, 32, 102, 108, 101, 120, 32, 110, 111, 110, 101])) ∧ w = w' := by
  go_enter Tryd.func40, Tryd.ntmps40
  go_wp2
  go_ret
  exact ⟨rfl, rfl⟩
set_option maxRecDepth 100000 in
theorem row_22 (w : World) :
    Calls Tryd.prog 40 #[.int .i64 22] w fun e w' => e = .returned (.string (bs [114, 111, 119, 32, 114, 111, 119, 45, 114, 101, 118, 101, 114, 115, 101, 32, 99, 111, 108, 117, 109, 110, 32, 99, 111, 108, 117, 109, 110, 45, 114, 101, 118, 101, 114, 115, 101])) ∧ w = w' := by
  go_enter Tryd.func40, Tryd.ntmps40
  go_wp2
  go_ret
  exact ⟨rfl, rfl⟩
set_option maxRecDepth 100000 in
theorem row_23 (w : World) :
    Calls Tryd.prog 40 #[.int .i64 23] w fun e w' => e = .returned (.string (bs [110, 111, 119, 114, 97, 112, 32, 119, 114, 97, 112, 32, 119, 114, 97, 112, 45, 114, 101, 118, 101, 114, 115, 101])) ∧ w = w' := by
  go_enter Tryd.func40, Tryd.ntmps40
  go_wp2
  go_ret
  exact ⟨rfl, rfl⟩
set_option maxRecDepth 100000 in
theorem row_28 (w : World) :
    Calls Tryd.prog 40 #[.int .i64 28] w fun e w' => e = .returned (.string (bs [115, 116, 97, 114, 116, 32, 101, 110, 100, 32, 99, 101, 110, 116, 101, 114, 32, 115, 112, 97, 99, 101, 45, 98, 101, 116, 119, 101, 101, 110, 32, 115, 112, 97, 99, 101, 45, 97, 114, 111, 117, 110, 100, 32, 115, 112, 97, 99, 101, 45, 101, 118, 101, 110, 108, 121])) ∧ w = w' := by
  go_enter Tryd.func40, Tryd.ntmps40
  go_wp2
  go_ret
  exact ⟨rfl, rfl⟩
set_option maxRecDepth 100000 in
theorem row_29 (w : World) :
    Calls Tryd.prog 40 #[.int .i64 29] w fun e w' => e = .returned (.string (bs [115, 116, 114, 101, 116, 99, 104, 32, 115, 116, 97, 114, 116, 32, 101, 110, 100, 32, 99, 101, 110, 116, 101, 114])) ∧ w = w' := by
  go_enter Tryd.func40, Tryd.ntmps40
  go_wp2
  go_ret
  exact ⟨rfl, rfl⟩
set_option maxRecDepth 100000 in
theorem row_30 (w : World) :
    Calls Tryd.prog 40 #[.int .i64 30] w fun e w' => e = .returned (.string (bs [97, 117, 116, 111, 32, 115, 116, 114, 101, 116, 99, 104, 32, 115, 116, 97, 114, 116, 32, 101, 110, 100, 32, 99, 101, 110, 116, 101, 114])) ∧ w = w' := by
  go_enter Tryd.func40, Tryd.ntmps40
  go_wp2
  go_ret
  exact ⟨rfl, rfl⟩
set_option maxRecDepth 100000 in
theorem row_31 (w : World) :
    Calls Tryd.prog 40 #[.int .i64 31] w fun e w' => e = .returned (.string (bs [115, 116, 114, 101, 116, 99, 104, 32, 115, 116, 97, 114, 116, 32, 101, 110, 100, 32, 99, 101, 110, 116, 101, 114, 32, 115, 112, 97, 99, 101, 45, 98, 101, 116, 119, 101, 101, 110, 32, 115, 112, 97, 99, 101, 45, 97, 114, 111, 117, 110, 100, 32, 115, 112, 97, 99, 101, 45, 101, 118, 101, 110, 108, 121])) ∧ w = w' := by
  go_enter Tryd.func40, Tryd.ntmps40
  go_wp2
  go_ret
  exact ⟨rfl, rfl⟩
set_option maxRecDepth 100000 in
theorem row_34 (w : World) :
    Calls Tryd.prog 40 #[.int .i64 34] w fun e w' => e = .returned (.string (bs [110, 111, 114, 109, 97, 108, 32, 105, 110, 108, 105, 110, 101, 45, 115, 105, 122, 101, 32, 115, 105, 122, 101])) ∧ w = w' := by
  go_enter Tryd.func40, Tryd.ntmps40
  go_wp2
  go_ret
  exact ⟨rfl, rfl⟩
set_option maxRecDepth 100000 in
theorem row_none (p : Int) (w : World) (h1 : (p == 1) = false) (h22 : (p == 22) = false) (h23 : (p == 23) = false) (h28 : (p == 28) = false) (h29 : (p == 29) = false) (h30 : (p == 30) = false) (h31 : (p == 31) = false) (h34 : (p == 34) = false) :
    Calls Tryd.prog 40 #[.int .i64 p] w fun e w' => e = .returned (.string ⟨#[]⟩) ∧ w = w' := by
  go_enter Tryd.func40, Tryd.ntmps40
  go_wp2
  go_ret
  exact ⟨rfl, rfl⟩
theorem row_any (p : Int) (w : World) :
    Calls Tryd.prog 40 #[.int .i64 p] w fun e w' => e = .returned (.string (bs (rowL p))) ∧ w = w' := by
  by_cases h1 : p = 1
  · subst h1; exact row_1 w
  by_cases h22 : p = 22
  · subst h22; exact row_22 w
  by_cases h23 : p = 23
  · subst h23; exact row_23 w
  by_cases h28 : p = 28
  · subst h28; exact row_28 w
  by_cases h29 : p = 29
  · subst h29; exact row_29 w
  by_cases h30 : p = 30
  · subst h30; exact row_30 w
  by_cases h31 : p = 31
  · subst h31; exact row_31 w
  by_cases h34 : p = 34
  · subst h34; exact row_34 w
  have e : rowL p = [] := by unfold rowL; rw [if_neg h1, if_neg h22, if_neg h23, if_neg h28, if_neg h29, if_neg h30, if_neg h31, if_neg h34]
  rw [e]; exact row_none p w (by simp; omega) (by simp; omega) (by simp; omega) (by simp; omega) (by simp; omega) (by simp; omega) (by simp; omega) (by simp; omega)
set_option maxRecDepth 100000 in
theorem pcr_30 : (pieces (bs [97, 117, 116, 111, 32, 115, 116, 114, 101, 116, 99, 104, 32, 115, 116, 97, 114, 116, 32, 101, 110, 100, 32, 99, 101, 110, 116, 101, 114])).map (·.data.toList) = ([1, 20, 17, 18, 19] : List Nat).map wd := by rw [pieces_data]; decide +kernel
set_option maxRecDepth 100000 in
theorem pcr_31 : (pieces (bs [115, 116, 114, 101, 116, 99, 104, 32, 115, 116, 97, 114, 116, 32, 101, 110, 100, 32, 99, 101, 110, 116, 101, 114, 32, 115, 112, 97, 99, 101, 45, 98, 101, 116, 119, 101, 101, 110, 32, 115, 112, 97, 99, 101, 45, 97, 114, 111, 117, 110, 100, 32, 115, 112, 97, 99, 101, 45, 101, 118, 101, 110, 108, 121])).map (·.data.toList) = ([20, 17, 18, 19, 21, 22, 23] : List Nat).map wd := by rw [pieces_data]; decide +kernel
theorem rowL_ks (p : Int) : rowL p ≠ [] → (pieces (bs (rowL p))).map (·.data.toList) = (rowM p).map wd := by
  intro hne
  by_cases h1 : p = 1
  · subst h1; exact pc_3_4_2
  by_cases h22 : p = 22
  · subst h22; exact pc_10_11_12_13
  by_cases h23 : p = 23
  · subst h23; exact pc_14_15_16
  by_cases h28 : p = 28
  · subst h28; exact pc_17_18_19_21_22_23
  by_cases h29 : p = 29
  · subst h29; exact pc_20_17_18_19
  by_cases h30 : p = 30
  · subst h30; exact pcr_30
  by_cases h31 : p = 31
  · subst h31; exact pcr_31
  by_cases h34 : p = 34
  · subst h34; exact pc_24_25_26
  exact absurd (show rowL p = [] by unfold rowL; rw [if_neg h1, if_neg h22, if_neg h23, if_neg h28, if_neg h29, if_neg h30, if_neg h31, if_neg h34]) hne
theorem rowL_nil (p : Int) : rowL p = [] ↔ rowM p = [] := by
  by_cases h1 : p = 1
  · subst h1; decide
  by_cases h22 : p = 22
  · subst h22; decide
  by_cases h23 : p = 23
  · subst h23; decide
  by_cases h28 : p = 28
  · subst h28; decide
  by_cases h29 : p = 29
  · subst h29; decide
  by_cases h30 : p = 30
  · subst h30; decide
  by_cases h31 : p = 31
  · subst h31; decide
  by_cases h34 : p = 34
  · subst h34; decide
  unfold rowL rowM
  rw [if_neg h1, if_neg h22, if_neg h23, if_neg h28, if_neg h29, if_neg h30, if_neg h31, if_neg h34, if_neg h1, if_neg h22, if_neg h23, if_neg h28, if_neg h29, if_neg h30, if_neg h31, if_neg h34]
  simp
end Go.Proofs.YtfiidocojooghaaDoor
