/-
  Texts of the proof, merged: The walks of what the document says of layer 10: names, words, first values. The walks of layer 10's names: Named, Name.
-/
import Derived.Test.YtabhokgefpilkaaGreatDoorZ11
import Derived.Test.YtabhokgefpilkaaGreatDoorZ23
set_option linter.all false
set_option maxRecDepth 100000
namespace Go.Proofs.YtabhokgefpilkaaGreatDoor
open Go.RowKit Wsc
def WordsRes (xs : List (List UInt8)) (e : Ending) (w' : World) : Prop := ∃ a c, e = .returned (.slice a xs.length c) ∧ SlAt w' (.slice a xs.length c) xs.length (strs xs)
theorem refW_1 (w : World) : Calls Tryz.prog 73 #[.int .i64 1] w fun e w' => WordsRes (([3, 4, 2] : List Nat).map wd) e w' ∧ Below w.heap.size w w' := by
  have S := Lib.hid (SlAt.new w (strs (([3, 4, 2] : List Nat).map wd)) 3 3 9 (Nat.le_refl _) (by decide))
  have hb := Lib.hid ((Below.refl w.heap.size w).alloc (Nat.le_refl _) (.cells (strs (([3, 4, 2] : List Nat).map wd)).toArray 9))
  go_enter Tryz.func73, Tryz.ntmps73
  go_wp2
  go_ret
  exact ⟨⟨some ⟨w.heap.size, 0, none⟩, _, rfl, S.out⟩, hb.out⟩
theorem refW_2 (w : World) : Calls Tryz.prog 73 #[.int .i64 2] w fun e w' => WordsRes (([5, 6] : List Nat).map wd) e w' ∧ Below w.heap.size w w' := by
  have S := Lib.hid (SlAt.new w (strs (([5, 6] : List Nat).map wd)) 2 2 9 (Nat.le_refl _) (by decide))
  have hb := Lib.hid ((Below.refl w.heap.size w).alloc (Nat.le_refl _) (.cells (strs (([5, 6] : List Nat).map wd)).toArray 9))
  go_enter Tryz.func73, Tryz.ntmps73
  go_wp2
  go_ret
  exact ⟨⟨some ⟨w.heap.size, 0, none⟩, _, rfl, S.out⟩, hb.out⟩
theorem refW_3 (w : World) : Calls Tryz.prog 73 #[.int .i64 3] w fun e w' => WordsRes (([1, 7, 8, 9] : List Nat).map wd) e w' ∧ Below w.heap.size w w' := by
  have S := Lib.hid (SlAt.new w (strs (([1, 7, 8, 9] : List Nat).map wd)) 4 4 9 (Nat.le_refl _) (by decide))
  have hb := Lib.hid ((Below.refl w.heap.size w).alloc (Nat.le_refl _) (.cells (strs (([1, 7, 8, 9] : List Nat).map wd)).toArray 9))
  go_enter Tryz.func73, Tryz.ntmps73
  go_wp2
  go_ret
  exact ⟨⟨some ⟨w.heap.size, 0, none⟩, _, rfl, S.out⟩, hb.out⟩
theorem refW_4 (w : World) : Calls Tryz.prog 73 #[.int .i64 4] w fun e w' => WordsRes (([1] : List Nat).map wd) e w' ∧ Below w.heap.size w w' := by
  have S := Lib.hid (SlAt.new w (strs (([1] : List Nat).map wd)) 1 1 9 (Nat.le_refl _) (by decide))
  have hb := Lib.hid ((Below.refl w.heap.size w).alloc (Nat.le_refl _) (.cells (strs (([1] : List Nat).map wd)).toArray 9))
  go_enter Tryz.func73, Tryz.ntmps73
  go_wp2
  go_ret
  exact ⟨⟨some ⟨w.heap.size, 0, none⟩, _, rfl, S.out⟩, hb.out⟩
theorem refW_5 (w : World) : Calls Tryz.prog 73 #[.int .i64 5] w fun e w' => WordsRes (([1, 7, 8, 9] : List Nat).map wd) e w' ∧ Below w.heap.size w w' := by
  have S := Lib.hid (SlAt.new w (strs (([1, 7, 8, 9] : List Nat).map wd)) 4 4 9 (Nat.le_refl _) (by decide))
  have hb := Lib.hid ((Below.refl w.heap.size w).alloc (Nat.le_refl _) (.cells (strs (([1, 7, 8, 9] : List Nat).map wd)).toArray 9))
  go_enter Tryz.func73, Tryz.ntmps73
  go_wp2
  go_ret
  exact ⟨⟨some ⟨w.heap.size, 0, none⟩, _, rfl, S.out⟩, hb.out⟩
theorem refW_6 (w : World) : Calls Tryz.prog 73 #[.int .i64 6] w fun e w' => WordsRes (([1] : List Nat).map wd) e w' ∧ Below w.heap.size w w' := by
  have S := Lib.hid (SlAt.new w (strs (([1] : List Nat).map wd)) 1 1 9 (Nat.le_refl _) (by decide))
  have hb := Lib.hid ((Below.refl w.heap.size w).alloc (Nat.le_refl _) (.cells (strs (([1] : List Nat).map wd)).toArray 9))
  go_enter Tryz.func73, Tryz.ntmps73
  go_wp2
  go_ret
  exact ⟨⟨some ⟨w.heap.size, 0, none⟩, _, rfl, S.out⟩, hb.out⟩
theorem refW_7 (w : World) : Calls Tryz.prog 73 #[.int .i64 7] w fun e w' => WordsRes (([2, 7, 8, 9] : List Nat).map wd) e w' ∧ Below w.heap.size w w' := by
  have S := Lib.hid (SlAt.new w (strs (([2, 7, 8, 9] : List Nat).map wd)) 4 4 9 (Nat.le_refl _) (by decide))
  have hb := Lib.hid ((Below.refl w.heap.size w).alloc (Nat.le_refl _) (.cells (strs (([2, 7, 8, 9] : List Nat).map wd)).toArray 9))
  go_enter Tryz.func73, Tryz.ntmps73
  go_wp2
  go_ret
  exact ⟨⟨some ⟨w.heap.size, 0, none⟩, _, rfl, S.out⟩, hb.out⟩
theorem refW_8 (w : World) : Calls Tryz.prog 73 #[.int .i64 8] w fun e w' => WordsRes (([2] : List Nat).map wd) e w' ∧ Below w.heap.size w w' := by
  have S := Lib.hid (SlAt.new w (strs (([2] : List Nat).map wd)) 1 1 9 (Nat.le_refl _) (by decide))
  have hb := Lib.hid ((Below.refl w.heap.size w).alloc (Nat.le_refl _) (.cells (strs (([2] : List Nat).map wd)).toArray 9))
  go_enter Tryz.func73, Tryz.ntmps73
  go_wp2
  go_ret
  exact ⟨⟨some ⟨w.heap.size, 0, none⟩, _, rfl, S.out⟩, hb.out⟩
theorem refW_9 (w : World) : Calls Tryz.prog 73 #[.int .i64 9] w fun e w' => WordsRes (([1] : List Nat).map wd) e w' ∧ Below w.heap.size w w' := by
  have S := Lib.hid (SlAt.new w (strs (([1] : List Nat).map wd)) 1 1 9 (Nat.le_refl _) (by decide))
  have hb := Lib.hid ((Below.refl w.heap.size w).alloc (Nat.le_refl _) (.cells (strs (([1] : List Nat).map wd)).toArray 9))
  go_enter Tryz.func73, Tryz.ntmps73
  go_wp2
  go_ret
  exact ⟨⟨some ⟨w.heap.size, 0, none⟩, _, rfl, S.out⟩, hb.out⟩
theorem refW_10 (w : World) : Calls Tryz.prog 73 #[.int .i64 10] w fun e w' => WordsRes (([1] : List Nat).map wd) e w' ∧ Below w.heap.size w w' := by
  have S := Lib.hid (SlAt.new w (strs (([1] : List Nat).map wd)) 1 1 9 (Nat.le_refl _) (by decide))
  have hb := Lib.hid ((Below.refl w.heap.size w).alloc (Nat.le_refl _) (.cells (strs (([1] : List Nat).map wd)).toArray 9))
  go_enter Tryz.func73, Tryz.ntmps73
  go_wp2
  go_ret
  exact ⟨⟨some ⟨w.heap.size, 0, none⟩, _, rfl, S.out⟩, hb.out⟩
theorem refW_11 (w : World) : Calls Tryz.prog 73 #[.int .i64 11] w fun e w' => WordsRes (([1] : List Nat).map wd) e w' ∧ Below w.heap.size w w' := by
  have S := Lib.hid (SlAt.new w (strs (([1] : List Nat).map wd)) 1 1 9 (Nat.le_refl _) (by decide))
  have hb := Lib.hid ((Below.refl w.heap.size w).alloc (Nat.le_refl _) (.cells (strs (([1] : List Nat).map wd)).toArray 9))
  go_enter Tryz.func73, Tryz.ntmps73
  go_wp2
  go_ret
  exact ⟨⟨some ⟨w.heap.size, 0, none⟩, _, rfl, S.out⟩, hb.out⟩
theorem refW_12 (w : World) : Calls Tryz.prog 73 #[.int .i64 12] w fun e w' => WordsRes (([1] : List Nat).map wd) e w' ∧ Below w.heap.size w w' := by
  have S := Lib.hid (SlAt.new w (strs (([1] : List Nat).map wd)) 1 1 9 (Nat.le_refl _) (by decide))
  have hb := Lib.hid ((Below.refl w.heap.size w).alloc (Nat.le_refl _) (.cells (strs (([1] : List Nat).map wd)).toArray 9))
  go_enter Tryz.func73, Tryz.ntmps73
  go_wp2
  go_ret
  exact ⟨⟨some ⟨w.heap.size, 0, none⟩, _, rfl, S.out⟩, hb.out⟩
theorem refW_21 (w : World) : Calls Tryz.prog 73 #[.int .i64 21] w fun e w' => WordsRes (([1] : List Nat).map wd) e w' ∧ Below w.heap.size w w' := by
  have S := Lib.hid (SlAt.new w (strs (([1] : List Nat).map wd)) 1 1 9 (Nat.le_refl _) (by decide))
  have hb := Lib.hid ((Below.refl w.heap.size w).alloc (Nat.le_refl _) (.cells (strs (([1] : List Nat).map wd)).toArray 9))
  go_enter Tryz.func73, Tryz.ntmps73
  go_wp2
  go_ret
  exact ⟨⟨some ⟨w.heap.size, 0, none⟩, _, rfl, S.out⟩, hb.out⟩
theorem refW_22 (w : World) : Calls Tryz.prog 73 #[.int .i64 22] w fun e w' => WordsRes (([10, 11, 12, 13] : List Nat).map wd) e w' ∧ Below w.heap.size w w' := by
  have S := Lib.hid (SlAt.new w (strs (([10, 11, 12, 13] : List Nat).map wd)) 4 4 9 (Nat.le_refl _) (by decide))
  have hb := Lib.hid ((Below.refl w.heap.size w).alloc (Nat.le_refl _) (.cells (strs (([10, 11, 12, 13] : List Nat).map wd)).toArray 9))
  go_enter Tryz.func73, Tryz.ntmps73
  go_wp2
  go_ret
  exact ⟨⟨some ⟨w.heap.size, 0, none⟩, _, rfl, S.out⟩, hb.out⟩
theorem refW_23 (w : World) : Calls Tryz.prog 73 #[.int .i64 23] w fun e w' => WordsRes (([14, 15, 16] : List Nat).map wd) e w' ∧ Below w.heap.size w w' := by
  have S := Lib.hid (SlAt.new w (strs (([14, 15, 16] : List Nat).map wd)) 3 3 9 (Nat.le_refl _) (by decide))
  have hb := Lib.hid ((Below.refl w.heap.size w).alloc (Nat.le_refl _) (.cells (strs (([14, 15, 16] : List Nat).map wd)).toArray 9))
  go_enter Tryz.func73, Tryz.ntmps73
  go_wp2
  go_ret
  exact ⟨⟨some ⟨w.heap.size, 0, none⟩, _, rfl, S.out⟩, hb.out⟩
theorem refW_26 (w : World) : Calls Tryz.prog 73 #[.int .i64 26] w fun e w' => WordsRes (([1, 27] : List Nat).map wd) e w' ∧ Below w.heap.size w w' := by
  have S := Lib.hid (SlAt.new w (strs (([1, 27] : List Nat).map wd)) 2 2 9 (Nat.le_refl _) (by decide))
  have hb := Lib.hid ((Below.refl w.heap.size w).alloc (Nat.le_refl _) (.cells (strs (([1, 27] : List Nat).map wd)).toArray 9))
  go_enter Tryz.func73, Tryz.ntmps73
  go_wp2
  go_ret
  exact ⟨⟨some ⟨w.heap.size, 0, none⟩, _, rfl, S.out⟩, hb.out⟩
theorem refW_28 (w : World) : Calls Tryz.prog 73 #[.int .i64 28] w fun e w' => WordsRes (([17, 18, 19, 21, 22, 23] : List Nat).map wd) e w' ∧ Below w.heap.size w w' := by
  have S := Lib.hid (SlAt.new w (strs (([17, 18, 19, 21, 22, 23] : List Nat).map wd)) 6 6 9 (Nat.le_refl _) (by decide))
  have hb := Lib.hid ((Below.refl w.heap.size w).alloc (Nat.le_refl _) (.cells (strs (([17, 18, 19, 21, 22, 23] : List Nat).map wd)).toArray 9))
  go_enter Tryz.func73, Tryz.ntmps73
  go_wp2
  go_ret
  exact ⟨⟨some ⟨w.heap.size, 0, none⟩, _, rfl, S.out⟩, hb.out⟩
theorem refW_29 (w : World) : Calls Tryz.prog 73 #[.int .i64 29] w fun e w' => WordsRes (([20, 17, 18, 19] : List Nat).map wd) e w' ∧ Below w.heap.size w w' := by
  have S := Lib.hid (SlAt.new w (strs (([20, 17, 18, 19] : List Nat).map wd)) 4 4 9 (Nat.le_refl _) (by decide))
  have hb := Lib.hid ((Below.refl w.heap.size w).alloc (Nat.le_refl _) (.cells (strs (([20, 17, 18, 19] : List Nat).map wd)).toArray 9))
  go_enter Tryz.func73, Tryz.ntmps73
  go_wp2
  go_ret
  exact ⟨⟨some ⟨w.heap.size, 0, none⟩, _, rfl, S.out⟩, hb.out⟩
theorem refW_30 (w : World) : Calls Tryz.prog 73 #[.int .i64 30] w fun e w' => WordsRes (([1, 20, 17, 18, 19] : List Nat).map wd) e w' ∧ Below w.heap.size w w' := by
  have S := Lib.hid (SlAt.new w (strs (([1, 20, 17, 18, 19] : List Nat).map wd)) 5 5 9 (Nat.le_refl _) (by decide))
  have hb := Lib.hid ((Below.refl w.heap.size w).alloc (Nat.le_refl _) (.cells (strs (([1, 20, 17, 18, 19] : List Nat).map wd)).toArray 9))
  go_enter Tryz.func73, Tryz.ntmps73
  go_wp2
  go_ret
  exact ⟨⟨some ⟨w.heap.size, 0, none⟩, _, rfl, S.out⟩, hb.out⟩
theorem refW_31 (w : World) : Calls Tryz.prog 73 #[.int .i64 31] w fun e w' => WordsRes (([20, 17, 18, 19, 21, 22, 23] : List Nat).map wd) e w' ∧ Below w.heap.size w w' := by
  have S := Lib.hid (SlAt.new w (strs (([20, 17, 18, 19, 21, 22, 23] : List Nat).map wd)) 7 7 9 (Nat.le_refl _) (by decide))
  have hb := Lib.hid ((Below.refl w.heap.size w).alloc (Nat.le_refl _) (.cells (strs (([20, 17, 18, 19, 21, 22, 23] : List Nat).map wd)).toArray 9))
  go_enter Tryz.func73, Tryz.ntmps73
  go_wp2
  go_ret
  exact ⟨⟨some ⟨w.heap.size, 0, none⟩, _, rfl, S.out⟩, hb.out⟩
theorem refW_32 (w : World) : Calls Tryz.prog 73 #[.int .i64 32] w fun e w' => WordsRes (([24] : List Nat).map wd) e w' ∧ Below w.heap.size w w' := by
  have S := Lib.hid (SlAt.new w (strs (([24] : List Nat).map wd)) 1 1 9 (Nat.le_refl _) (by decide))
  have hb := Lib.hid ((Below.refl w.heap.size w).alloc (Nat.le_refl _) (.cells (strs (([24] : List Nat).map wd)).toArray 9))
  go_enter Tryz.func73, Tryz.ntmps73
  go_wp2
  go_ret
  exact ⟨⟨some ⟨w.heap.size, 0, none⟩, _, rfl, S.out⟩, hb.out⟩
theorem refW_33 (w : World) : Calls Tryz.prog 73 #[.int .i64 33] w fun e w' => WordsRes (([24] : List Nat).map wd) e w' ∧ Below w.heap.size w w' := by
  have S := Lib.hid (SlAt.new w (strs (([24] : List Nat).map wd)) 1 1 9 (Nat.le_refl _) (by decide))
  have hb := Lib.hid ((Below.refl w.heap.size w).alloc (Nat.le_refl _) (.cells (strs (([24] : List Nat).map wd)).toArray 9))
  go_enter Tryz.func73, Tryz.ntmps73
  go_wp2
  go_ret
  exact ⟨⟨some ⟨w.heap.size, 0, none⟩, _, rfl, S.out⟩, hb.out⟩
theorem refW_34 (w : World) : Calls Tryz.prog 73 #[.int .i64 34] w fun e w' => WordsRes (([24, 25, 26] : List Nat).map wd) e w' ∧ Below w.heap.size w w' := by
  have S := Lib.hid (SlAt.new w (strs (([24, 25, 26] : List Nat).map wd)) 3 3 9 (Nat.le_refl _) (by decide))
  have hb := Lib.hid ((Below.refl w.heap.size w).alloc (Nat.le_refl _) (.cells (strs (([24, 25, 26] : List Nat).map wd)).toArray 9))
  go_enter Tryz.func73, Tryz.ntmps73
  go_wp2
  go_ret
  exact ⟨⟨some ⟨w.heap.size, 0, none⟩, _, rfl, S.out⟩, hb.out⟩
theorem refW_35 (w : World) : Calls Tryz.prog 73 #[.int .i64 35] w fun e w' => WordsRes (([2] : List Nat).map wd) e w' ∧ Below w.heap.size w w' := by
  have S := Lib.hid (SlAt.new w (strs (([2] : List Nat).map wd)) 1 1 9 (Nat.le_refl _) (by decide))
  have hb := Lib.hid ((Below.refl w.heap.size w).alloc (Nat.le_refl _) (.cells (strs (([2] : List Nat).map wd)).toArray 9))
  go_enter Tryz.func73, Tryz.ntmps73
  go_wp2
  go_ret
  exact ⟨⟨some ⟨w.heap.size, 0, none⟩, _, rfl, S.out⟩, hb.out⟩
theorem refW_37 (w : World) : Calls Tryz.prog 73 #[.int .i64 37] w fun e w' => WordsRes (([24] : List Nat).map wd) e w' ∧ Below w.heap.size w w' := by
  have S := Lib.hid (SlAt.new w (strs (([24] : List Nat).map wd)) 1 1 9 (Nat.le_refl _) (by decide))
  have hb := Lib.hid ((Below.refl w.heap.size w).alloc (Nat.le_refl _) (.cells (strs (([24] : List Nat).map wd)).toArray 9))
  go_enter Tryz.func73, Tryz.ntmps73
  go_wp2
  go_ret
  exact ⟨⟨some ⟨w.heap.size, 0, none⟩, _, rfl, S.out⟩, hb.out⟩
theorem refW_13 (w : World) : Calls Tryz.prog 73 #[.int .i64 13] w fun e w' => WordsRes (([] : List Nat).map wd) e w' ∧ Below w.heap.size w w' := by
  go_enter Tryz.func73, Tryz.ntmps73
  go_wp2
  go_ret
  exact ⟨⟨none, 0, rfl, ⟨none, 0, rfl, Nat.le_refl _, by decide, Or.inl ⟨rfl, rfl⟩⟩⟩, Below.refl _ _⟩
theorem refW_14 (w : World) : Calls Tryz.prog 73 #[.int .i64 14] w fun e w' => WordsRes (([] : List Nat).map wd) e w' ∧ Below w.heap.size w w' := by
  go_enter Tryz.func73, Tryz.ntmps73
  go_wp2
  go_ret
  exact ⟨⟨none, 0, rfl, ⟨none, 0, rfl, Nat.le_refl _, by decide, Or.inl ⟨rfl, rfl⟩⟩⟩, Below.refl _ _⟩
theorem refW_15 (w : World) : Calls Tryz.prog 73 #[.int .i64 15] w fun e w' => WordsRes (([] : List Nat).map wd) e w' ∧ Below w.heap.size w w' := by
  go_enter Tryz.func73, Tryz.ntmps73
  go_wp2
  go_ret
  exact ⟨⟨none, 0, rfl, ⟨none, 0, rfl, Nat.le_refl _, by decide, Or.inl ⟨rfl, rfl⟩⟩⟩, Below.refl _ _⟩
theorem refW_16 (w : World) : Calls Tryz.prog 73 #[.int .i64 16] w fun e w' => WordsRes (([] : List Nat).map wd) e w' ∧ Below w.heap.size w w' := by
  go_enter Tryz.func73, Tryz.ntmps73
  go_wp2
  go_ret
  exact ⟨⟨none, 0, rfl, ⟨none, 0, rfl, Nat.le_refl _, by decide, Or.inl ⟨rfl, rfl⟩⟩⟩, Below.refl _ _⟩
theorem refW_17 (w : World) : Calls Tryz.prog 73 #[.int .i64 17] w fun e w' => WordsRes (([] : List Nat).map wd) e w' ∧ Below w.heap.size w w' := by
  go_enter Tryz.func73, Tryz.ntmps73
  go_wp2
  go_ret
  exact ⟨⟨none, 0, rfl, ⟨none, 0, rfl, Nat.le_refl _, by decide, Or.inl ⟨rfl, rfl⟩⟩⟩, Below.refl _ _⟩
theorem refW_18 (w : World) : Calls Tryz.prog 73 #[.int .i64 18] w fun e w' => WordsRes (([] : List Nat).map wd) e w' ∧ Below w.heap.size w w' := by
  go_enter Tryz.func73, Tryz.ntmps73
  go_wp2
  go_ret
  exact ⟨⟨none, 0, rfl, ⟨none, 0, rfl, Nat.le_refl _, by decide, Or.inl ⟨rfl, rfl⟩⟩⟩, Below.refl _ _⟩
theorem refW_19 (w : World) : Calls Tryz.prog 73 #[.int .i64 19] w fun e w' => WordsRes (([] : List Nat).map wd) e w' ∧ Below w.heap.size w w' := by
  go_enter Tryz.func73, Tryz.ntmps73
  go_wp2
  go_ret
  exact ⟨⟨none, 0, rfl, ⟨none, 0, rfl, Nat.le_refl _, by decide, Or.inl ⟨rfl, rfl⟩⟩⟩, Below.refl _ _⟩
theorem refW_20 (w : World) : Calls Tryz.prog 73 #[.int .i64 20] w fun e w' => WordsRes (([] : List Nat).map wd) e w' ∧ Below w.heap.size w w' := by
  go_enter Tryz.func73, Tryz.ntmps73
  go_wp2
  go_ret
  exact ⟨⟨none, 0, rfl, ⟨none, 0, rfl, Nat.le_refl _, by decide, Or.inl ⟨rfl, rfl⟩⟩⟩, Below.refl _ _⟩
theorem refW_24 (w : World) : Calls Tryz.prog 73 #[.int .i64 24] w fun e w' => WordsRes (([] : List Nat).map wd) e w' ∧ Below w.heap.size w w' := by
  go_enter Tryz.func73, Tryz.ntmps73
  go_wp2
  go_ret
  exact ⟨⟨none, 0, rfl, ⟨none, 0, rfl, Nat.le_refl _, by decide, Or.inl ⟨rfl, rfl⟩⟩⟩, Below.refl _ _⟩
theorem refW_25 (w : World) : Calls Tryz.prog 73 #[.int .i64 25] w fun e w' => WordsRes (([] : List Nat).map wd) e w' ∧ Below w.heap.size w w' := by
  go_enter Tryz.func73, Tryz.ntmps73
  go_wp2
  go_ret
  exact ⟨⟨none, 0, rfl, ⟨none, 0, rfl, Nat.le_refl _, by decide, Or.inl ⟨rfl, rfl⟩⟩⟩, Below.refl _ _⟩
theorem refW_27 (w : World) : Calls Tryz.prog 73 #[.int .i64 27] w fun e w' => WordsRes (([] : List Nat).map wd) e w' ∧ Below w.heap.size w w' := by
  go_enter Tryz.func73, Tryz.ntmps73
  go_wp2
  go_ret
  exact ⟨⟨none, 0, rfl, ⟨none, 0, rfl, Nat.le_refl _, by decide, Or.inl ⟨rfl, rfl⟩⟩⟩, Below.refl _ _⟩
theorem refW_36 (w : World) : Calls Tryz.prog 73 #[.int .i64 36] w fun e w' => WordsRes (([] : List Nat).map wd) e w' ∧ Below w.heap.size w w' := by
  go_enter Tryz.func73, Tryz.ntmps73
  go_wp2
  go_ret
  exact ⟨⟨none, 0, rfl, ⟨none, 0, rfl, Nat.le_refl _, by decide, Or.inl ⟨rfl, rfl⟩⟩⟩, Below.refl _ _⟩
theorem refW_any (p : Int) (h1 : 1 ≤ p) (h2 : p ≤ 37) (w : World) : Calls Tryz.prog 73 #[.int .i64 p] w fun e w' => WordsRes ((wordsP p).map wd) e w' ∧ Below w.heap.size w w' := by
  rcases (show p = 1 ∨ p = 2 ∨ p = 3 ∨ p = 4 ∨ p = 5 ∨ p = 6 ∨ p = 7 ∨ p = 8 ∨ p = 9 ∨ p = 10 ∨ p = 11 ∨ p = 12 ∨ p = 13 ∨ p = 14 ∨ p = 15 ∨ p = 16 ∨ p = 17 ∨ p = 18 ∨ p = 19 ∨ p = 20 ∨ p = 21 ∨ p = 22 ∨ p = 23 ∨ p = 24 ∨ p = 25 ∨ p = 26 ∨ p = 27 ∨ p = 28 ∨ p = 29 ∨ p = 30 ∨ p = 31 ∨ p = 32 ∨ p = 33 ∨ p = 34 ∨ p = 35 ∨ p = 36 ∨ p = 37 by omega) with rfl | rfl | rfl | rfl | rfl | rfl | rfl | rfl | rfl | rfl | rfl | rfl | rfl | rfl | rfl | rfl | rfl | rfl | rfl | rfl | rfl | rfl | rfl | rfl | rfl | rfl | rfl | rfl | rfl | rfl | rfl | rfl | rfl | rfl | rfl | rfl | rfl
  · exact refW_1 w
  · exact refW_2 w
  · exact refW_3 w
  · exact refW_4 w
  · exact refW_5 w
  · exact refW_6 w
  · exact refW_7 w
  · exact refW_8 w
  · exact refW_9 w
  · exact refW_10 w
  · exact refW_11 w
  · exact refW_12 w
  · exact refW_13 w
  · exact refW_14 w
  · exact refW_15 w
  · exact refW_16 w
  · exact refW_17 w
  · exact refW_18 w
  · exact refW_19 w
  · exact refW_20 w
  · exact refW_21 w
  · exact refW_22 w
  · exact refW_23 w
  · exact refW_24 w
  · exact refW_25 w
  · exact refW_26 w
  · exact refW_27 w
  · exact refW_28 w
  · exact refW_29 w
  · exact refW_30 w
  · exact refW_31 w
  · exact refW_32 w
  · exact refW_33 w
  · exact refW_34 w
  · exact refW_35 w
  · exact refW_36 w
  exact refW_37 w
def otherS (p : Int) : List UInt8 :=
  if (3 ≤ p ∧ p ≤ 8) ∨ (13 ≤ p ∧ p ≤ 16) ∨ p = 26 ∨ p = 32 ∨ p = 33 ∨ p = 36 then [117] else if 9 ≤ p ∧ p ≤ 12 then [101] else if 17 ≤ p ∧ p ≤ 20 then [108] else if p = 24 ∨ p = 25 ∨ p = 37 then [110] else if p = 27 then [119] else if p = 21 then [114] else if p = 35 then [105] else []
theorem refO_1 (w : World) : Calls Tryz.prog 75 #[.int .i64 1] w fun e w' => e = .returned (.string ⟨#[]⟩) ∧ w = w' := by
  go_enter Tryz.func75, Tryz.ntmps75
  go_wp2
  go_ret
  exact ⟨rfl, rfl⟩
theorem refO_2 (w : World) : Calls Tryz.prog 75 #[.int .i64 2] w fun e w' => e = .returned (.string ⟨#[]⟩) ∧ w = w' := by
  go_enter Tryz.func75, Tryz.ntmps75
  go_wp2
  go_ret
  exact ⟨rfl, rfl⟩
theorem refO_3 (w : World) : Calls Tryz.prog 75 #[.int .i64 3] w fun e w' => e = .returned (.string ⟨#[117]⟩) ∧ w = w' := by
  go_enter Tryz.func75, Tryz.ntmps75
  go_wp2
  go_ret
  exact ⟨rfl, rfl⟩
theorem refO_4 (w : World) : Calls Tryz.prog 75 #[.int .i64 4] w fun e w' => e = .returned (.string ⟨#[117]⟩) ∧ w = w' := by
  go_enter Tryz.func75, Tryz.ntmps75
  go_wp2
  go_ret
  exact ⟨rfl, rfl⟩
theorem refO_5 (w : World) : Calls Tryz.prog 75 #[.int .i64 5] w fun e w' => e = .returned (.string ⟨#[117]⟩) ∧ w = w' := by
  go_enter Tryz.func75, Tryz.ntmps75
  go_wp2
  go_ret
  exact ⟨rfl, rfl⟩
theorem refO_6 (w : World) : Calls Tryz.prog 75 #[.int .i64 6] w fun e w' => e = .returned (.string ⟨#[117]⟩) ∧ w = w' := by
  go_enter Tryz.func75, Tryz.ntmps75
  go_wp2
  go_ret
  exact ⟨rfl, rfl⟩
theorem refO_7 (w : World) : Calls Tryz.prog 75 #[.int .i64 7] w fun e w' => e = .returned (.string ⟨#[117]⟩) ∧ w = w' := by
  go_enter Tryz.func75, Tryz.ntmps75
  go_wp2
  go_ret
  exact ⟨rfl, rfl⟩
theorem refO_8 (w : World) : Calls Tryz.prog 75 #[.int .i64 8] w fun e w' => e = .returned (.string ⟨#[117]⟩) ∧ w = w' := by
  go_enter Tryz.func75, Tryz.ntmps75
  go_wp2
  go_ret
  exact ⟨rfl, rfl⟩
theorem refO_9 (w : World) : Calls Tryz.prog 75 #[.int .i64 9] w fun e w' => e = .returned (.string ⟨#[101]⟩) ∧ w = w' := by
  go_enter Tryz.func75, Tryz.ntmps75
  go_wp2
  go_ret
  exact ⟨rfl, rfl⟩
theorem refO_10 (w : World) : Calls Tryz.prog 75 #[.int .i64 10] w fun e w' => e = .returned (.string ⟨#[101]⟩) ∧ w = w' := by
  go_enter Tryz.func75, Tryz.ntmps75
  go_wp2
  go_ret
  exact ⟨rfl, rfl⟩
theorem refO_11 (w : World) : Calls Tryz.prog 75 #[.int .i64 11] w fun e w' => e = .returned (.string ⟨#[101]⟩) ∧ w = w' := by
  go_enter Tryz.func75, Tryz.ntmps75
  go_wp2
  go_ret
  exact ⟨rfl, rfl⟩
theorem refO_12 (w : World) : Calls Tryz.prog 75 #[.int .i64 12] w fun e w' => e = .returned (.string ⟨#[101]⟩) ∧ w = w' := by
  go_enter Tryz.func75, Tryz.ntmps75
  go_wp2
  go_ret
  exact ⟨rfl, rfl⟩
theorem refO_13 (w : World) : Calls Tryz.prog 75 #[.int .i64 13] w fun e w' => e = .returned (.string ⟨#[117]⟩) ∧ w = w' := by
  go_enter Tryz.func75, Tryz.ntmps75
  go_wp2
  go_ret
  exact ⟨rfl, rfl⟩
theorem refO_14 (w : World) : Calls Tryz.prog 75 #[.int .i64 14] w fun e w' => e = .returned (.string ⟨#[117]⟩) ∧ w = w' := by
  go_enter Tryz.func75, Tryz.ntmps75
  go_wp2
  go_ret
  exact ⟨rfl, rfl⟩
theorem refO_15 (w : World) : Calls Tryz.prog 75 #[.int .i64 15] w fun e w' => e = .returned (.string ⟨#[117]⟩) ∧ w = w' := by
  go_enter Tryz.func75, Tryz.ntmps75
  go_wp2
  go_ret
  exact ⟨rfl, rfl⟩
theorem refO_16 (w : World) : Calls Tryz.prog 75 #[.int .i64 16] w fun e w' => e = .returned (.string ⟨#[117]⟩) ∧ w = w' := by
  go_enter Tryz.func75, Tryz.ntmps75
  go_wp2
  go_ret
  exact ⟨rfl, rfl⟩
theorem refO_17 (w : World) : Calls Tryz.prog 75 #[.int .i64 17] w fun e w' => e = .returned (.string ⟨#[108]⟩) ∧ w = w' := by
  go_enter Tryz.func75, Tryz.ntmps75
  go_wp2
  go_ret
  exact ⟨rfl, rfl⟩
theorem refO_18 (w : World) : Calls Tryz.prog 75 #[.int .i64 18] w fun e w' => e = .returned (.string ⟨#[108]⟩) ∧ w = w' := by
  go_enter Tryz.func75, Tryz.ntmps75
  go_wp2
  go_ret
  exact ⟨rfl, rfl⟩
theorem refO_19 (w : World) : Calls Tryz.prog 75 #[.int .i64 19] w fun e w' => e = .returned (.string ⟨#[108]⟩) ∧ w = w' := by
  go_enter Tryz.func75, Tryz.ntmps75
  go_wp2
  go_ret
  exact ⟨rfl, rfl⟩
theorem refO_20 (w : World) : Calls Tryz.prog 75 #[.int .i64 20] w fun e w' => e = .returned (.string ⟨#[108]⟩) ∧ w = w' := by
  go_enter Tryz.func75, Tryz.ntmps75
  go_wp2
  go_ret
  exact ⟨rfl, rfl⟩
theorem refO_21 (w : World) : Calls Tryz.prog 75 #[.int .i64 21] w fun e w' => e = .returned (.string ⟨#[114]⟩) ∧ w = w' := by
  go_enter Tryz.func75, Tryz.ntmps75
  go_wp2
  go_ret
  exact ⟨rfl, rfl⟩
theorem refO_22 (w : World) : Calls Tryz.prog 75 #[.int .i64 22] w fun e w' => e = .returned (.string ⟨#[]⟩) ∧ w = w' := by
  go_enter Tryz.func75, Tryz.ntmps75
  go_wp2
  go_ret
  exact ⟨rfl, rfl⟩
theorem refO_23 (w : World) : Calls Tryz.prog 75 #[.int .i64 23] w fun e w' => e = .returned (.string ⟨#[]⟩) ∧ w = w' := by
  go_enter Tryz.func75, Tryz.ntmps75
  go_wp2
  go_ret
  exact ⟨rfl, rfl⟩
theorem refO_24 (w : World) : Calls Tryz.prog 75 #[.int .i64 24] w fun e w' => e = .returned (.string ⟨#[110]⟩) ∧ w = w' := by
  go_enter Tryz.func75, Tryz.ntmps75
  go_wp2
  go_ret
  exact ⟨rfl, rfl⟩
theorem refO_25 (w : World) : Calls Tryz.prog 75 #[.int .i64 25] w fun e w' => e = .returned (.string ⟨#[110]⟩) ∧ w = w' := by
  go_enter Tryz.func75, Tryz.ntmps75
  go_wp2
  go_ret
  exact ⟨rfl, rfl⟩
theorem refO_26 (w : World) : Calls Tryz.prog 75 #[.int .i64 26] w fun e w' => e = .returned (.string ⟨#[117]⟩) ∧ w = w' := by
  go_enter Tryz.func75, Tryz.ntmps75
  go_wp2
  go_ret
  exact ⟨rfl, rfl⟩
theorem refO_27 (w : World) : Calls Tryz.prog 75 #[.int .i64 27] w fun e w' => e = .returned (.string ⟨#[119]⟩) ∧ w = w' := by
  go_enter Tryz.func75, Tryz.ntmps75
  go_wp2
  go_ret
  exact ⟨rfl, rfl⟩
theorem refO_28 (w : World) : Calls Tryz.prog 75 #[.int .i64 28] w fun e w' => e = .returned (.string ⟨#[]⟩) ∧ w = w' := by
  go_enter Tryz.func75, Tryz.ntmps75
  go_wp2
  go_ret
  exact ⟨rfl, rfl⟩
theorem refO_29 (w : World) : Calls Tryz.prog 75 #[.int .i64 29] w fun e w' => e = .returned (.string ⟨#[]⟩) ∧ w = w' := by
  go_enter Tryz.func75, Tryz.ntmps75
  go_wp2
  go_ret
  exact ⟨rfl, rfl⟩
theorem refO_30 (w : World) : Calls Tryz.prog 75 #[.int .i64 30] w fun e w' => e = .returned (.string ⟨#[]⟩) ∧ w = w' := by
  go_enter Tryz.func75, Tryz.ntmps75
  go_wp2
  go_ret
  exact ⟨rfl, rfl⟩
theorem refO_31 (w : World) : Calls Tryz.prog 75 #[.int .i64 31] w fun e w' => e = .returned (.string ⟨#[]⟩) ∧ w = w' := by
  go_enter Tryz.func75, Tryz.ntmps75
  go_wp2
  go_ret
  exact ⟨rfl, rfl⟩
theorem refO_32 (w : World) : Calls Tryz.prog 75 #[.int .i64 32] w fun e w' => e = .returned (.string ⟨#[117]⟩) ∧ w = w' := by
  go_enter Tryz.func75, Tryz.ntmps75
  go_wp2
  go_ret
  exact ⟨rfl, rfl⟩
theorem refO_33 (w : World) : Calls Tryz.prog 75 #[.int .i64 33] w fun e w' => e = .returned (.string ⟨#[117]⟩) ∧ w = w' := by
  go_enter Tryz.func75, Tryz.ntmps75
  go_wp2
  go_ret
  exact ⟨rfl, rfl⟩
theorem refO_34 (w : World) : Calls Tryz.prog 75 #[.int .i64 34] w fun e w' => e = .returned (.string ⟨#[]⟩) ∧ w = w' := by
  go_enter Tryz.func75, Tryz.ntmps75
  go_wp2
  go_ret
  exact ⟨rfl, rfl⟩
theorem refO_35 (w : World) : Calls Tryz.prog 75 #[.int .i64 35] w fun e w' => e = .returned (.string ⟨#[105]⟩) ∧ w = w' := by
  go_enter Tryz.func75, Tryz.ntmps75
  go_wp2
  go_ret
  exact ⟨rfl, rfl⟩
theorem refO_36 (w : World) : Calls Tryz.prog 75 #[.int .i64 36] w fun e w' => e = .returned (.string ⟨#[117]⟩) ∧ w = w' := by
  go_enter Tryz.func75, Tryz.ntmps75
  go_wp2
  go_ret
  exact ⟨rfl, rfl⟩
theorem refO_37 (w : World) : Calls Tryz.prog 75 #[.int .i64 37] w fun e w' => e = .returned (.string ⟨#[110]⟩) ∧ w = w' := by
  go_enter Tryz.func75, Tryz.ntmps75
  go_wp2
  go_ret
  exact ⟨rfl, rfl⟩
theorem refO_any (p : Int) (h1 : 1 ≤ p) (h2 : p ≤ 37) (w : World) : Calls Tryz.prog 75 #[.int .i64 p] w fun e w' => e = .returned (.string (bs (otherS p))) ∧ w = w' := by
  rcases (show p = 1 ∨ p = 2 ∨ p = 3 ∨ p = 4 ∨ p = 5 ∨ p = 6 ∨ p = 7 ∨ p = 8 ∨ p = 9 ∨ p = 10 ∨ p = 11 ∨ p = 12 ∨ p = 13 ∨ p = 14 ∨ p = 15 ∨ p = 16 ∨ p = 17 ∨ p = 18 ∨ p = 19 ∨ p = 20 ∨ p = 21 ∨ p = 22 ∨ p = 23 ∨ p = 24 ∨ p = 25 ∨ p = 26 ∨ p = 27 ∨ p = 28 ∨ p = 29 ∨ p = 30 ∨ p = 31 ∨ p = 32 ∨ p = 33 ∨ p = 34 ∨ p = 35 ∨ p = 36 ∨ p = 37 by omega) with rfl | rfl | rfl | rfl | rfl | rfl | rfl | rfl | rfl | rfl | rfl | rfl | rfl | rfl | rfl | rfl | rfl | rfl | rfl | rfl | rfl | rfl | rfl | rfl | rfl | rfl | rfl | rfl | rfl | rfl | rfl | rfl | rfl | rfl | rfl | rfl | rfl
  · exact refO_1 w
  · exact refO_2 w
  · exact refO_3 w
  · exact refO_4 w
  · exact refO_5 w
  · exact refO_6 w
  · exact refO_7 w
  · exact refO_8 w
  · exact refO_9 w
  · exact refO_10 w
  · exact refO_11 w
  · exact refO_12 w
  · exact refO_13 w
  · exact refO_14 w
  · exact refO_15 w
  · exact refO_16 w
  · exact refO_17 w
  · exact refO_18 w
  · exact refO_19 w
  · exact refO_20 w
  · exact refO_21 w
  · exact refO_22 w
  · exact refO_23 w
  · exact refO_24 w
  · exact refO_25 w
  · exact refO_26 w
  · exact refO_27 w
  · exact refO_28 w
  · exact refO_29 w
  · exact refO_30 w
  · exact refO_31 w
  · exact refO_32 w
  · exact refO_33 w
  · exact refO_34 w
  · exact refO_35 w
  · exact refO_36 w
  exact refO_37 w
theorem names_pieces : (pieces (bs namesT)).map (·.data.toList) = namesL := by rw [pieces_data]; decide +kernel
theorem namesT_le : (bs namesT).size ≤ 16777216 := by rw [bs_size]; decide +kernel
theorem propNamed_any (s : ByteArray) (w : World) (hg : Gl w) :
    Calls Tryz.prog 205 #[.string s] w fun e w' => e = .returned (.int .i64 (placeL namesL s.data.toList : Nat)) ∧ Below w.heap.size w w' := by
  have HS := split_b (bs namesT) w hg namesT_le
  have HI := idx_names s (pieces (bs namesT)) names_pieces
  have HC := fun (g : Nat) (ww : World) (hcs : ∀ j, j < (pieces (bs namesT)).length → ww.cell? ⟨g, 0 + j, none⟩ = some (.string ((pieces (bs namesT)).getD j ByteArray.empty))) =>
    Tryz.slices_Index_string g 0 (pieces (bs namesT)).length (pieces (bs namesT)).length (pieces (bs namesT)) s ww (Nat.le_refl _) (by have := pieces_le (bs namesT) namesT_le; omega) hcs
  rw [List.take_length] at HC
  have HP := pieces_le (bs namesT) namesT_le
  have HS := Lib.hid HS
  have HC := Lib.hid HC
  have HP := Lib.hid HP
  generalize pieces (bs namesT) = ps at *
  generalize hX : Lib.idxOfS ps s = x at *
  generalize placeL namesL s.data.toList = r at *
  clear hX
  have HI := Lib.hid HI
  go_enter Tryz.func205, Tryz.ntmps205
  go_wp2_with (first
    | (go_at_call 135; refine HS.out.mono ?_; rintro e w1 ⟨⟨g, hg1, hg2, rfl, hcs⟩, hb1⟩)
    | (go_at_call 189; refine (HC.out _ _ hcs).mono ?_; rintro e w2 ⟨rfl, rfl⟩))
  go_ret
  exact ⟨by rw [← HI.out]; rfl, hb1⟩
end Go.Proofs.YtabhokgefpilkaaGreatDoor
