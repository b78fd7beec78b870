/-
  The walks of what the document says of layer 10: Word, First (printed by gen_ref10c.py).
-/
import Derived.Test.YtkbnmmknjmmlmaaGreatDoorRefB
namespace Go.Proofs.YtkbnmmknjmmlmaaGreatDoor
open Go.RowKit Wsc
theorem refWordV_any (s : List UInt8) (w : World) :
    Calls Tryz.prog 86 #[.string (bs s)] w fun e w' => e = .returned (.agg #[.int .i64 1, .int .i64 (placeL wordsL s : Nat), .int .i64 0, .string ⟨#[]⟩]) ∧ Below w.heap.size w w' := by
  have hA := Lib.hid ((Below.refl w.heap.size w).alloc (Nat.le_refl _) (.cells #[.int .i64 0, .int .i64 0, .int .i64 0, .string ⟨#[]⟩] 74))
  have PL := Lib.hid (fun a c ww hv => placew_k a c s ww hv)
  generalize placeL wordsL s = k at *
  go_enter Tryz.func86, Tryz.ntmps86
  go_wp2_with fail
  refine (words_k _).mono ?_
  rintro e w1 ⟨⟨a, c, rfl, hs⟩, hb⟩
  obtain ⟨r0, r1, r2, r3, f0, f1, f2, f3⟩ := (zblk w).below hb (by simp)
  have hB := Lib.hid (hA.out.trans (hb.mono (by simp)))
  have Q := (Blk4.mk r0 r1 r2 r3 f0 f1 f2 f3).put (.int .i64 1) (.int .i64 k) (.int .i64 0) (.string ⟨#[]⟩)
  go_wp2_with fail
  refine (PL.out _ _ _ hs).mono ?_
  rintro e w2 ⟨rfl, rfl⟩
  go_wp2
  exact ret_valP rfl rfl Q rfl ⟨rfl, below_put4 hB.out (Nat.le_refl _) _ _ _ _⟩

theorem rw_3 (w : World) :
    Calls Tryz.prog 86 #[.string ⟨#[98, 108, 111, 99, 107]⟩] w fun e w' => e = .returned (.agg #[.int .i64 1, .int .i64 3, .int .i64 0, .string ⟨#[]⟩]) ∧ Below w.heap.size w w' := by
  have h := refWordV_any [98, 108, 111, 99, 107] w
  rw [show placeL wordsL [98, 108, 111, 99, 107] = 3 by decide +kernel] at h
  exact h
theorem rw_5 (w : World) :
    Calls Tryz.prog 86 #[.string ⟨#[99, 111, 110, 116, 101, 110, 116, 45, 98, 111, 120]⟩] w fun e w' => e = .returned (.agg #[.int .i64 1, .int .i64 5, .int .i64 0, .string ⟨#[]⟩]) ∧ Below w.heap.size w w' := by
  have h := refWordV_any [99, 111, 110, 116, 101, 110, 116, 45, 98, 111, 120] w
  rw [show placeL wordsL [99, 111, 110, 116, 101, 110, 116, 45, 98, 111, 120] = 5 by decide +kernel] at h
  exact h
theorem rw_1 (w : World) :
    Calls Tryz.prog 86 #[.string ⟨#[97, 117, 116, 111]⟩] w fun e w' => e = .returned (.agg #[.int .i64 1, .int .i64 1, .int .i64 0, .string ⟨#[]⟩]) ∧ Below w.heap.size w w' := by
  have h := refWordV_any [97, 117, 116, 111] w
  rw [show placeL wordsL [97, 117, 116, 111] = 1 by decide +kernel] at h
  exact h
theorem rw_2 (w : World) :
    Calls Tryz.prog 86 #[.string ⟨#[110, 111, 110, 101]⟩] w fun e w' => e = .returned (.agg #[.int .i64 1, .int .i64 2, .int .i64 0, .string ⟨#[]⟩]) ∧ Below w.heap.size w w' := by
  have h := refWordV_any [110, 111, 110, 101] w
  rw [show placeL wordsL [110, 111, 110, 101] = 2 by decide +kernel] at h
  exact h
theorem rw_10 (w : World) :
    Calls Tryz.prog 86 #[.string ⟨#[114, 111, 119]⟩] w fun e w' => e = .returned (.agg #[.int .i64 1, .int .i64 10, .int .i64 0, .string ⟨#[]⟩]) ∧ Below w.heap.size w w' := by
  have h := refWordV_any [114, 111, 119] w
  rw [show placeL wordsL [114, 111, 119] = 10 by decide +kernel] at h
  exact h
theorem rw_14 (w : World) :
    Calls Tryz.prog 86 #[.string ⟨#[110, 111, 119, 114, 97, 112]⟩] w fun e w' => e = .returned (.agg #[.int .i64 1, .int .i64 14, .int .i64 0, .string ⟨#[]⟩]) ∧ Below w.heap.size w w' := by
  have h := refWordV_any [110, 111, 119, 114, 97, 112] w
  rw [show placeL wordsL [110, 111, 119, 114, 97, 112] = 14 by decide +kernel] at h
  exact h
theorem rw_17 (w : World) :
    Calls Tryz.prog 86 #[.string ⟨#[115, 116, 97, 114, 116]⟩] w fun e w' => e = .returned (.agg #[.int .i64 1, .int .i64 17, .int .i64 0, .string ⟨#[]⟩]) ∧ Below w.heap.size w w' := by
  have h := refWordV_any [115, 116, 97, 114, 116] w
  rw [show placeL wordsL [115, 116, 97, 114, 116] = 17 by decide +kernel] at h
  exact h
theorem rw_20 (w : World) :
    Calls Tryz.prog 86 #[.string ⟨#[115, 116, 114, 101, 116, 99, 104]⟩] w fun e w' => e = .returned (.agg #[.int .i64 1, .int .i64 20, .int .i64 0, .string ⟨#[]⟩]) ∧ Below w.heap.size w w' := by
  have h := refWordV_any [115, 116, 114, 101, 116, 99, 104] w
  rw [show placeL wordsL [115, 116, 114, 101, 116, 99, 104] = 20 by decide +kernel] at h
  exact h
theorem rw_24 (w : World) :
    Calls Tryz.prog 86 #[.string ⟨#[110, 111, 114, 109, 97, 108]⟩] w fun e w' => e = .returned (.agg #[.int .i64 1, .int .i64 24, .int .i64 0, .string ⟨#[]⟩]) ∧ Below w.heap.size w w' := by
  have h := refWordV_any [110, 111, 114, 109, 97, 108] w
  rw [show placeL wordsL [110, 111, 114, 109, 97, 108] = 24 by decide +kernel] at h
  exact h
set_option maxRecDepth 100000 in
theorem refF_1 (w : World) :
    Calls Tryz.prog 66 #[.int .i64 1] w fun e w' => e = .returned (.agg #[.int .i64 1, .int .i64 3, .int .i64 0, .string ⟨#[]⟩]) ∧ Below w.heap.size w w' := by
  have hA := Lib.hid ((Below.refl w.heap.size w).alloc (Nat.le_refl _) (.cells #[.int .i64 0, .int .i64 0, .int .i64 0, .string ⟨#[]⟩] 74))
  go_enter Tryz.func66, Tryz.ntmps66
  go_wp2_with fail
  refine (rw_3 _).mono ?_
  rintro e w1 ⟨rfl, hb⟩
  obtain ⟨r0, r1, r2, r3, f0, f1, f2, f3⟩ := (zblk w).below hb (by simp)
  have hB := Lib.hid (hA.out.trans (hb.mono (by simp)))
  have Q := (Blk4.mk r0 r1 r2 r3 f0 f1 f2 f3).put (.int .i64 1) (.int .i64 3) (.int .i64 0) (.string ⟨#[]⟩)
  go_wp2
  exact ret_valP rfl rfl Q rfl ⟨rfl, below_put4 hB.out (Nat.le_refl _) _ _ _ _⟩
set_option maxRecDepth 100000 in
theorem refF_2 (w : World) :
    Calls Tryz.prog 66 #[.int .i64 2] w fun e w' => e = .returned (.agg #[.int .i64 1, .int .i64 5, .int .i64 0, .string ⟨#[]⟩]) ∧ Below w.heap.size w w' := by
  have hA := Lib.hid ((Below.refl w.heap.size w).alloc (Nat.le_refl _) (.cells #[.int .i64 0, .int .i64 0, .int .i64 0, .string ⟨#[]⟩] 74))
  go_enter Tryz.func66, Tryz.ntmps66
  go_wp2_with fail
  refine (rw_5 _).mono ?_
  rintro e w1 ⟨rfl, hb⟩
  obtain ⟨r0, r1, r2, r3, f0, f1, f2, f3⟩ := (zblk w).below hb (by simp)
  have hB := Lib.hid (hA.out.trans (hb.mono (by simp)))
  have Q := (Blk4.mk r0 r1 r2 r3 f0 f1 f2 f3).put (.int .i64 1) (.int .i64 5) (.int .i64 0) (.string ⟨#[]⟩)
  go_wp2
  exact ret_valP rfl rfl Q rfl ⟨rfl, below_put4 hB.out (Nat.le_refl _) _ _ _ _⟩
set_option maxRecDepth 100000 in
theorem refF_3 (w : World) :
    Calls Tryz.prog 66 #[.int .i64 3] w fun e w' => e = .returned (.agg #[.int .i64 1, .int .i64 1, .int .i64 0, .string ⟨#[]⟩]) ∧ Below w.heap.size w w' := by
  have hA := Lib.hid ((Below.refl w.heap.size w).alloc (Nat.le_refl _) (.cells #[.int .i64 0, .int .i64 0, .int .i64 0, .string ⟨#[]⟩] 74))
  go_enter Tryz.func66, Tryz.ntmps66
  go_wp2_with fail
  refine (rw_1 _).mono ?_
  rintro e w1 ⟨rfl, hb⟩
  obtain ⟨r0, r1, r2, r3, f0, f1, f2, f3⟩ := (zblk w).below hb (by simp)
  have hB := Lib.hid (hA.out.trans (hb.mono (by simp)))
  have Q := (Blk4.mk r0 r1 r2 r3 f0 f1 f2 f3).put (.int .i64 1) (.int .i64 1) (.int .i64 0) (.string ⟨#[]⟩)
  go_wp2
  exact ret_valP rfl rfl Q rfl ⟨rfl, below_put4 hB.out (Nat.le_refl _) _ _ _ _⟩
set_option maxRecDepth 100000 in
theorem refF_4 (w : World) :
    Calls Tryz.prog 66 #[.int .i64 4] w fun e w' => e = .returned (.agg #[.int .i64 1, .int .i64 1, .int .i64 0, .string ⟨#[]⟩]) ∧ Below w.heap.size w w' := by
  have hA := Lib.hid ((Below.refl w.heap.size w).alloc (Nat.le_refl _) (.cells #[.int .i64 0, .int .i64 0, .int .i64 0, .string ⟨#[]⟩] 74))
  go_enter Tryz.func66, Tryz.ntmps66
  go_wp2_with fail
  refine (rw_1 _).mono ?_
  rintro e w1 ⟨rfl, hb⟩
  obtain ⟨r0, r1, r2, r3, f0, f1, f2, f3⟩ := (zblk w).below hb (by simp)
  have hB := Lib.hid (hA.out.trans (hb.mono (by simp)))
  have Q := (Blk4.mk r0 r1 r2 r3 f0 f1 f2 f3).put (.int .i64 1) (.int .i64 1) (.int .i64 0) (.string ⟨#[]⟩)
  go_wp2
  exact ret_valP rfl rfl Q rfl ⟨rfl, below_put4 hB.out (Nat.le_refl _) _ _ _ _⟩
set_option maxRecDepth 100000 in
theorem refF_5 (w : World) :
    Calls Tryz.prog 66 #[.int .i64 5] w fun e w' => e = .returned (.agg #[.int .i64 1, .int .i64 1, .int .i64 0, .string ⟨#[]⟩]) ∧ Below w.heap.size w w' := by
  have hA := Lib.hid ((Below.refl w.heap.size w).alloc (Nat.le_refl _) (.cells #[.int .i64 0, .int .i64 0, .int .i64 0, .string ⟨#[]⟩] 74))
  go_enter Tryz.func66, Tryz.ntmps66
  go_wp2_with fail
  refine (rw_1 _).mono ?_
  rintro e w1 ⟨rfl, hb⟩
  obtain ⟨r0, r1, r2, r3, f0, f1, f2, f3⟩ := (zblk w).below hb (by simp)
  have hB := Lib.hid (hA.out.trans (hb.mono (by simp)))
  have Q := (Blk4.mk r0 r1 r2 r3 f0 f1 f2 f3).put (.int .i64 1) (.int .i64 1) (.int .i64 0) (.string ⟨#[]⟩)
  go_wp2
  exact ret_valP rfl rfl Q rfl ⟨rfl, below_put4 hB.out (Nat.le_refl _) _ _ _ _⟩
set_option maxRecDepth 100000 in
theorem refF_6 (w : World) :
    Calls Tryz.prog 66 #[.int .i64 6] w fun e w' => e = .returned (.agg #[.int .i64 1, .int .i64 1, .int .i64 0, .string ⟨#[]⟩]) ∧ Below w.heap.size w w' := by
  have hA := Lib.hid ((Below.refl w.heap.size w).alloc (Nat.le_refl _) (.cells #[.int .i64 0, .int .i64 0, .int .i64 0, .string ⟨#[]⟩] 74))
  go_enter Tryz.func66, Tryz.ntmps66
  go_wp2_with fail
  refine (rw_1 _).mono ?_
  rintro e w1 ⟨rfl, hb⟩
  obtain ⟨r0, r1, r2, r3, f0, f1, f2, f3⟩ := (zblk w).below hb (by simp)
  have hB := Lib.hid (hA.out.trans (hb.mono (by simp)))
  have Q := (Blk4.mk r0 r1 r2 r3 f0 f1 f2 f3).put (.int .i64 1) (.int .i64 1) (.int .i64 0) (.string ⟨#[]⟩)
  go_wp2
  exact ret_valP rfl rfl Q rfl ⟨rfl, below_put4 hB.out (Nat.le_refl _) _ _ _ _⟩
set_option maxRecDepth 100000 in
theorem refF_7 (w : World) :
    Calls Tryz.prog 66 #[.int .i64 7] w fun e w' => e = .returned (.agg #[.int .i64 1, .int .i64 2, .int .i64 0, .string ⟨#[]⟩]) ∧ Below w.heap.size w w' := by
  have hA := Lib.hid ((Below.refl w.heap.size w).alloc (Nat.le_refl _) (.cells #[.int .i64 0, .int .i64 0, .int .i64 0, .string ⟨#[]⟩] 74))
  go_enter Tryz.func66, Tryz.ntmps66
  go_wp2_with fail
  refine (rw_2 _).mono ?_
  rintro e w1 ⟨rfl, hb⟩
  obtain ⟨r0, r1, r2, r3, f0, f1, f2, f3⟩ := (zblk w).below hb (by simp)
  have hB := Lib.hid (hA.out.trans (hb.mono (by simp)))
  have Q := (Blk4.mk r0 r1 r2 r3 f0 f1 f2 f3).put (.int .i64 1) (.int .i64 2) (.int .i64 0) (.string ⟨#[]⟩)
  go_wp2
  exact ret_valP rfl rfl Q rfl ⟨rfl, below_put4 hB.out (Nat.le_refl _) _ _ _ _⟩
set_option maxRecDepth 100000 in
theorem refF_8 (w : World) :
    Calls Tryz.prog 66 #[.int .i64 8] w fun e w' => e = .returned (.agg #[.int .i64 1, .int .i64 2, .int .i64 0, .string ⟨#[]⟩]) ∧ Below w.heap.size w w' := by
  have hA := Lib.hid ((Below.refl w.heap.size w).alloc (Nat.le_refl _) (.cells #[.int .i64 0, .int .i64 0, .int .i64 0, .string ⟨#[]⟩] 74))
  go_enter Tryz.func66, Tryz.ntmps66
  go_wp2_with fail
  refine (rw_2 _).mono ?_
  rintro e w1 ⟨rfl, hb⟩
  obtain ⟨r0, r1, r2, r3, f0, f1, f2, f3⟩ := (zblk w).below hb (by simp)
  have hB := Lib.hid (hA.out.trans (hb.mono (by simp)))
  have Q := (Blk4.mk r0 r1 r2 r3 f0 f1 f2 f3).put (.int .i64 1) (.int .i64 2) (.int .i64 0) (.string ⟨#[]⟩)
  go_wp2
  exact ret_valP rfl rfl Q rfl ⟨rfl, below_put4 hB.out (Nat.le_refl _) _ _ _ _⟩
set_option maxRecDepth 100000 in
theorem refF_9 (w : World) :
    Calls Tryz.prog 66 #[.int .i64 9] w fun e w' => e = .returned (.agg #[.int .i64 2, .int .i64 0, .int .i64 1, .string ⟨#[]⟩]) ∧ Below w.heap.size w w' := by
  have hA := Lib.hid ((Below.refl w.heap.size w).alloc (Nat.le_refl _) (.cells #[.int .i64 0, .int .i64 0, .int .i64 0, .string ⟨#[]⟩] 74))
  go_enter Tryz.func66, Tryz.ntmps66
  go_wp2
  exact ret_valP rfl rfl (Blk4.new w 74 (.int .i64 2) (.int .i64 0) (.int .i64 1) (.string ⟨#[]⟩)) rfl ⟨rfl, (Below.refl _ _).alloc (Nat.le_refl _) _⟩
set_option maxRecDepth 100000 in
theorem refF_10 (w : World) :
    Calls Tryz.prog 66 #[.int .i64 10] w fun e w' => e = .returned (.agg #[.int .i64 2, .int .i64 0, .int .i64 1, .string ⟨#[]⟩]) ∧ Below w.heap.size w w' := by
  have hA := Lib.hid ((Below.refl w.heap.size w).alloc (Nat.le_refl _) (.cells #[.int .i64 0, .int .i64 0, .int .i64 0, .string ⟨#[]⟩] 74))
  go_enter Tryz.func66, Tryz.ntmps66
  go_wp2
  exact ret_valP rfl rfl (Blk4.new w 74 (.int .i64 2) (.int .i64 0) (.int .i64 1) (.string ⟨#[]⟩)) rfl ⟨rfl, (Below.refl _ _).alloc (Nat.le_refl _) _⟩
set_option maxRecDepth 100000 in
theorem refF_11 (w : World) :
    Calls Tryz.prog 66 #[.int .i64 11] w fun e w' => e = .returned (.agg #[.int .i64 2, .int .i64 0, .int .i64 1, .string ⟨#[]⟩]) ∧ Below w.heap.size w w' := by
  have hA := Lib.hid ((Below.refl w.heap.size w).alloc (Nat.le_refl _) (.cells #[.int .i64 0, .int .i64 0, .int .i64 0, .string ⟨#[]⟩] 74))
  go_enter Tryz.func66, Tryz.ntmps66
  go_wp2
  exact ret_valP rfl rfl (Blk4.new w 74 (.int .i64 2) (.int .i64 0) (.int .i64 1) (.string ⟨#[]⟩)) rfl ⟨rfl, (Below.refl _ _).alloc (Nat.le_refl _) _⟩
set_option maxRecDepth 100000 in
theorem refF_12 (w : World) :
    Calls Tryz.prog 66 #[.int .i64 12] w fun e w' => e = .returned (.agg #[.int .i64 2, .int .i64 0, .int .i64 1, .string ⟨#[]⟩]) ∧ Below w.heap.size w w' := by
  have hA := Lib.hid ((Below.refl w.heap.size w).alloc (Nat.le_refl _) (.cells #[.int .i64 0, .int .i64 0, .int .i64 0, .string ⟨#[]⟩] 74))
  go_enter Tryz.func66, Tryz.ntmps66
  go_wp2
  exact ret_valP rfl rfl (Blk4.new w 74 (.int .i64 2) (.int .i64 0) (.int .i64 1) (.string ⟨#[]⟩)) rfl ⟨rfl, (Below.refl _ _).alloc (Nat.le_refl _) _⟩
set_option maxRecDepth 100000 in
theorem refF_13 (w : World) :
    Calls Tryz.prog 66 #[.int .i64 13] w fun e w' => e = .returned (.agg #[.int .i64 2, .int .i64 0, .int .i64 1, .string ⟨#[]⟩]) ∧ Below w.heap.size w w' := by
  have hA := Lib.hid ((Below.refl w.heap.size w).alloc (Nat.le_refl _) (.cells #[.int .i64 0, .int .i64 0, .int .i64 0, .string ⟨#[]⟩] 74))
  go_enter Tryz.func66, Tryz.ntmps66
  go_wp2
  exact ret_valP rfl rfl (Blk4.new w 74 (.int .i64 2) (.int .i64 0) (.int .i64 1) (.string ⟨#[]⟩)) rfl ⟨rfl, (Below.refl _ _).alloc (Nat.le_refl _) _⟩
set_option maxRecDepth 100000 in
theorem refF_14 (w : World) :
    Calls Tryz.prog 66 #[.int .i64 14] w fun e w' => e = .returned (.agg #[.int .i64 2, .int .i64 0, .int .i64 1, .string ⟨#[]⟩]) ∧ Below w.heap.size w w' := by
  have hA := Lib.hid ((Below.refl w.heap.size w).alloc (Nat.le_refl _) (.cells #[.int .i64 0, .int .i64 0, .int .i64 0, .string ⟨#[]⟩] 74))
  go_enter Tryz.func66, Tryz.ntmps66
  go_wp2
  exact ret_valP rfl rfl (Blk4.new w 74 (.int .i64 2) (.int .i64 0) (.int .i64 1) (.string ⟨#[]⟩)) rfl ⟨rfl, (Below.refl _ _).alloc (Nat.le_refl _) _⟩
set_option maxRecDepth 100000 in
theorem refF_15 (w : World) :
    Calls Tryz.prog 66 #[.int .i64 15] w fun e w' => e = .returned (.agg #[.int .i64 2, .int .i64 0, .int .i64 1, .string ⟨#[]⟩]) ∧ Below w.heap.size w w' := by
  have hA := Lib.hid ((Below.refl w.heap.size w).alloc (Nat.le_refl _) (.cells #[.int .i64 0, .int .i64 0, .int .i64 0, .string ⟨#[]⟩] 74))
  go_enter Tryz.func66, Tryz.ntmps66
  go_wp2
  exact ret_valP rfl rfl (Blk4.new w 74 (.int .i64 2) (.int .i64 0) (.int .i64 1) (.string ⟨#[]⟩)) rfl ⟨rfl, (Below.refl _ _).alloc (Nat.le_refl _) _⟩
set_option maxRecDepth 100000 in
theorem refF_16 (w : World) :
    Calls Tryz.prog 66 #[.int .i64 16] w fun e w' => e = .returned (.agg #[.int .i64 2, .int .i64 0, .int .i64 1, .string ⟨#[]⟩]) ∧ Below w.heap.size w w' := by
  have hA := Lib.hid ((Below.refl w.heap.size w).alloc (Nat.le_refl _) (.cells #[.int .i64 0, .int .i64 0, .int .i64 0, .string ⟨#[]⟩] 74))
  go_enter Tryz.func66, Tryz.ntmps66
  go_wp2
  exact ret_valP rfl rfl (Blk4.new w 74 (.int .i64 2) (.int .i64 0) (.int .i64 1) (.string ⟨#[]⟩)) rfl ⟨rfl, (Below.refl _ _).alloc (Nat.le_refl _) _⟩
set_option maxRecDepth 100000 in
theorem refF_17 (w : World) :
    Calls Tryz.prog 66 #[.int .i64 17] w fun e w' => e = .returned (.agg #[.int .i64 2, .int .i64 0, .int .i64 1, .string ⟨#[]⟩]) ∧ Below w.heap.size w w' := by
  have hA := Lib.hid ((Below.refl w.heap.size w).alloc (Nat.le_refl _) (.cells #[.int .i64 0, .int .i64 0, .int .i64 0, .string ⟨#[]⟩] 74))
  go_enter Tryz.func66, Tryz.ntmps66
  go_wp2
  exact ret_valP rfl rfl (Blk4.new w 74 (.int .i64 2) (.int .i64 0) (.int .i64 1) (.string ⟨#[]⟩)) rfl ⟨rfl, (Below.refl _ _).alloc (Nat.le_refl _) _⟩
set_option maxRecDepth 100000 in
theorem refF_18 (w : World) :
    Calls Tryz.prog 66 #[.int .i64 18] w fun e w' => e = .returned (.agg #[.int .i64 2, .int .i64 0, .int .i64 1, .string ⟨#[]⟩]) ∧ Below w.heap.size w w' := by
  have hA := Lib.hid ((Below.refl w.heap.size w).alloc (Nat.le_refl _) (.cells #[.int .i64 0, .int .i64 0, .int .i64 0, .string ⟨#[]⟩] 74))
  go_enter Tryz.func66, Tryz.ntmps66
  go_wp2
  exact ret_valP rfl rfl (Blk4.new w 74 (.int .i64 2) (.int .i64 0) (.int .i64 1) (.string ⟨#[]⟩)) rfl ⟨rfl, (Below.refl _ _).alloc (Nat.le_refl _) _⟩
set_option maxRecDepth 100000 in
theorem refF_19 (w : World) :
    Calls Tryz.prog 66 #[.int .i64 19] w fun e w' => e = .returned (.agg #[.int .i64 2, .int .i64 0, .int .i64 1, .string ⟨#[]⟩]) ∧ Below w.heap.size w w' := by
  have hA := Lib.hid ((Below.refl w.heap.size w).alloc (Nat.le_refl _) (.cells #[.int .i64 0, .int .i64 0, .int .i64 0, .string ⟨#[]⟩] 74))
  go_enter Tryz.func66, Tryz.ntmps66
  go_wp2
  exact ret_valP rfl rfl (Blk4.new w 74 (.int .i64 2) (.int .i64 0) (.int .i64 1) (.string ⟨#[]⟩)) rfl ⟨rfl, (Below.refl _ _).alloc (Nat.le_refl _) _⟩
set_option maxRecDepth 100000 in
theorem refF_20 (w : World) :
    Calls Tryz.prog 66 #[.int .i64 20] w fun e w' => e = .returned (.agg #[.int .i64 2, .int .i64 0, .int .i64 1, .string ⟨#[]⟩]) ∧ Below w.heap.size w w' := by
  have hA := Lib.hid ((Below.refl w.heap.size w).alloc (Nat.le_refl _) (.cells #[.int .i64 0, .int .i64 0, .int .i64 0, .string ⟨#[]⟩] 74))
  go_enter Tryz.func66, Tryz.ntmps66
  go_wp2
  exact ret_valP rfl rfl (Blk4.new w 74 (.int .i64 2) (.int .i64 0) (.int .i64 1) (.string ⟨#[]⟩)) rfl ⟨rfl, (Below.refl _ _).alloc (Nat.le_refl _) _⟩
set_option maxRecDepth 100000 in
theorem refF_21 (w : World) :
    Calls Tryz.prog 66 #[.int .i64 21] w fun e w' => e = .returned (.agg #[.int .i64 1, .int .i64 1, .int .i64 0, .string ⟨#[]⟩]) ∧ Below w.heap.size w w' := by
  have hA := Lib.hid ((Below.refl w.heap.size w).alloc (Nat.le_refl _) (.cells #[.int .i64 0, .int .i64 0, .int .i64 0, .string ⟨#[]⟩] 74))
  go_enter Tryz.func66, Tryz.ntmps66
  go_wp2_with fail
  refine (rw_1 _).mono ?_
  rintro e w1 ⟨rfl, hb⟩
  obtain ⟨r0, r1, r2, r3, f0, f1, f2, f3⟩ := (zblk w).below hb (by simp)
  have hB := Lib.hid (hA.out.trans (hb.mono (by simp)))
  have Q := (Blk4.mk r0 r1 r2 r3 f0 f1 f2 f3).put (.int .i64 1) (.int .i64 1) (.int .i64 0) (.string ⟨#[]⟩)
  go_wp2
  exact ret_valP rfl rfl Q rfl ⟨rfl, below_put4 hB.out (Nat.le_refl _) _ _ _ _⟩
set_option maxRecDepth 100000 in
theorem refF_22 (w : World) :
    Calls Tryz.prog 66 #[.int .i64 22] w fun e w' => e = .returned (.agg #[.int .i64 1, .int .i64 10, .int .i64 0, .string ⟨#[]⟩]) ∧ Below w.heap.size w w' := by
  have hA := Lib.hid ((Below.refl w.heap.size w).alloc (Nat.le_refl _) (.cells #[.int .i64 0, .int .i64 0, .int .i64 0, .string ⟨#[]⟩] 74))
  go_enter Tryz.func66, Tryz.ntmps66
  go_wp2_with fail
  refine (rw_10 _).mono ?_
  rintro e w1 ⟨rfl, hb⟩
  obtain ⟨r0, r1, r2, r3, f0, f1, f2, f3⟩ := (zblk w).below hb (by simp)
  have hB := Lib.hid (hA.out.trans (hb.mono (by simp)))
  have Q := (Blk4.mk r0 r1 r2 r3 f0 f1 f2 f3).put (.int .i64 1) (.int .i64 10) (.int .i64 0) (.string ⟨#[]⟩)
  go_wp2
  exact ret_valP rfl rfl Q rfl ⟨rfl, below_put4 hB.out (Nat.le_refl _) _ _ _ _⟩
set_option maxRecDepth 100000 in
theorem refF_23 (w : World) :
    Calls Tryz.prog 66 #[.int .i64 23] w fun e w' => e = .returned (.agg #[.int .i64 1, .int .i64 14, .int .i64 0, .string ⟨#[]⟩]) ∧ Below w.heap.size w w' := by
  have hA := Lib.hid ((Below.refl w.heap.size w).alloc (Nat.le_refl _) (.cells #[.int .i64 0, .int .i64 0, .int .i64 0, .string ⟨#[]⟩] 74))
  go_enter Tryz.func66, Tryz.ntmps66
  go_wp2_with fail
  refine (rw_14 _).mono ?_
  rintro e w1 ⟨rfl, hb⟩
  obtain ⟨r0, r1, r2, r3, f0, f1, f2, f3⟩ := (zblk w).below hb (by simp)
  have hB := Lib.hid (hA.out.trans (hb.mono (by simp)))
  have Q := (Blk4.mk r0 r1 r2 r3 f0 f1 f2 f3).put (.int .i64 1) (.int .i64 14) (.int .i64 0) (.string ⟨#[]⟩)
  go_wp2
  exact ret_valP rfl rfl Q rfl ⟨rfl, below_put4 hB.out (Nat.le_refl _) _ _ _ _⟩
set_option maxRecDepth 100000 in
theorem refF_24 (w : World) :
    Calls Tryz.prog 66 #[.int .i64 24] w fun e w' => e = .returned (.agg #[.int .i64 4, .int .i64 0, .int .i64 0, .string ⟨#[]⟩]) ∧ Below w.heap.size w w' := by
  have hA := Lib.hid ((Below.refl w.heap.size w).alloc (Nat.le_refl _) (.cells #[.int .i64 0, .int .i64 0, .int .i64 0, .string ⟨#[]⟩] 74))
  go_enter Tryz.func66, Tryz.ntmps66
  go_wp2
  exact ret_valP rfl rfl (Blk4.new w 74 (.int .i64 4) (.int .i64 0) (.int .i64 0) (.string ⟨#[]⟩)) rfl ⟨rfl, (Below.refl _ _).alloc (Nat.le_refl _) _⟩
set_option maxRecDepth 100000 in
theorem refF_25 (w : World) :
    Calls Tryz.prog 66 #[.int .i64 25] w fun e w' => e = .returned (.agg #[.int .i64 4, .int .i64 1000, .int .i64 0, .string ⟨#[]⟩]) ∧ Below w.heap.size w w' := by
  have hA := Lib.hid ((Below.refl w.heap.size w).alloc (Nat.le_refl _) (.cells #[.int .i64 0, .int .i64 0, .int .i64 0, .string ⟨#[]⟩] 74))
  go_enter Tryz.func66, Tryz.ntmps66
  go_wp2
  exact ret_valP rfl rfl (Blk4.new w 74 (.int .i64 4) (.int .i64 1000) (.int .i64 0) (.string ⟨#[]⟩)) rfl ⟨rfl, (Below.refl _ _).alloc (Nat.le_refl _) _⟩
set_option maxRecDepth 100000 in
theorem refF_26 (w : World) :
    Calls Tryz.prog 66 #[.int .i64 26] w fun e w' => e = .returned (.agg #[.int .i64 1, .int .i64 1, .int .i64 0, .string ⟨#[]⟩]) ∧ Below w.heap.size w w' := by
  have hA := Lib.hid ((Below.refl w.heap.size w).alloc (Nat.le_refl _) (.cells #[.int .i64 0, .int .i64 0, .int .i64 0, .string ⟨#[]⟩] 74))
  go_enter Tryz.func66, Tryz.ntmps66
  go_wp2_with fail
  refine (rw_1 _).mono ?_
  rintro e w1 ⟨rfl, hb⟩
  obtain ⟨r0, r1, r2, r3, f0, f1, f2, f3⟩ := (zblk w).below hb (by simp)
  have hB := Lib.hid (hA.out.trans (hb.mono (by simp)))
  have Q := (Blk4.mk r0 r1 r2 r3 f0 f1 f2 f3).put (.int .i64 1) (.int .i64 1) (.int .i64 0) (.string ⟨#[]⟩)
  go_wp2
  exact ret_valP rfl rfl Q rfl ⟨rfl, below_put4 hB.out (Nat.le_refl _) _ _ _ _⟩
set_option maxRecDepth 100000 in
theorem refF_27 (w : World) :
    Calls Tryz.prog 66 #[.int .i64 27] w fun e w' => e = .returned (.agg #[.int .i64 4, .int .i64 0, .int .i64 0, .string ⟨#[]⟩]) ∧ Below w.heap.size w w' := by
  have hA := Lib.hid ((Below.refl w.heap.size w).alloc (Nat.le_refl _) (.cells #[.int .i64 0, .int .i64 0, .int .i64 0, .string ⟨#[]⟩] 74))
  go_enter Tryz.func66, Tryz.ntmps66
  go_wp2
  exact ret_valP rfl rfl (Blk4.new w 74 (.int .i64 4) (.int .i64 0) (.int .i64 0) (.string ⟨#[]⟩)) rfl ⟨rfl, (Below.refl _ _).alloc (Nat.le_refl _) _⟩
set_option maxRecDepth 100000 in
theorem refF_28 (w : World) :
    Calls Tryz.prog 66 #[.int .i64 28] w fun e w' => e = .returned (.agg #[.int .i64 1, .int .i64 17, .int .i64 0, .string ⟨#[]⟩]) ∧ Below w.heap.size w w' := by
  have hA := Lib.hid ((Below.refl w.heap.size w).alloc (Nat.le_refl _) (.cells #[.int .i64 0, .int .i64 0, .int .i64 0, .string ⟨#[]⟩] 74))
  go_enter Tryz.func66, Tryz.ntmps66
  go_wp2_with fail
  refine (rw_17 _).mono ?_
  rintro e w1 ⟨rfl, hb⟩
  obtain ⟨r0, r1, r2, r3, f0, f1, f2, f3⟩ := (zblk w).below hb (by simp)
  have hB := Lib.hid (hA.out.trans (hb.mono (by simp)))
  have Q := (Blk4.mk r0 r1 r2 r3 f0 f1 f2 f3).put (.int .i64 1) (.int .i64 17) (.int .i64 0) (.string ⟨#[]⟩)
  go_wp2
  exact ret_valP rfl rfl Q rfl ⟨rfl, below_put4 hB.out (Nat.le_refl _) _ _ _ _⟩
set_option maxRecDepth 100000 in
theorem refF_29 (w : World) :
    Calls Tryz.prog 66 #[.int .i64 29] w fun e w' => e = .returned (.agg #[.int .i64 1, .int .i64 20, .int .i64 0, .string ⟨#[]⟩]) ∧ Below w.heap.size w w' := by
  have hA := Lib.hid ((Below.refl w.heap.size w).alloc (Nat.le_refl _) (.cells #[.int .i64 0, .int .i64 0, .int .i64 0, .string ⟨#[]⟩] 74))
  go_enter Tryz.func66, Tryz.ntmps66
  go_wp2_with fail
  refine (rw_20 _).mono ?_
  rintro e w1 ⟨rfl, hb⟩
  obtain ⟨r0, r1, r2, r3, f0, f1, f2, f3⟩ := (zblk w).below hb (by simp)
  have hB := Lib.hid (hA.out.trans (hb.mono (by simp)))
  have Q := (Blk4.mk r0 r1 r2 r3 f0 f1 f2 f3).put (.int .i64 1) (.int .i64 20) (.int .i64 0) (.string ⟨#[]⟩)
  go_wp2
  exact ret_valP rfl rfl Q rfl ⟨rfl, below_put4 hB.out (Nat.le_refl _) _ _ _ _⟩
set_option maxRecDepth 100000 in
theorem refF_30 (w : World) :
    Calls Tryz.prog 66 #[.int .i64 30] w fun e w' => e = .returned (.agg #[.int .i64 1, .int .i64 1, .int .i64 0, .string ⟨#[]⟩]) ∧ Below w.heap.size w w' := by
  have hA := Lib.hid ((Below.refl w.heap.size w).alloc (Nat.le_refl _) (.cells #[.int .i64 0, .int .i64 0, .int .i64 0, .string ⟨#[]⟩] 74))
  go_enter Tryz.func66, Tryz.ntmps66
  go_wp2_with fail
  refine (rw_1 _).mono ?_
  rintro e w1 ⟨rfl, hb⟩
  obtain ⟨r0, r1, r2, r3, f0, f1, f2, f3⟩ := (zblk w).below hb (by simp)
  have hB := Lib.hid (hA.out.trans (hb.mono (by simp)))
  have Q := (Blk4.mk r0 r1 r2 r3 f0 f1 f2 f3).put (.int .i64 1) (.int .i64 1) (.int .i64 0) (.string ⟨#[]⟩)
  go_wp2
  exact ret_valP rfl rfl Q rfl ⟨rfl, below_put4 hB.out (Nat.le_refl _) _ _ _ _⟩
set_option maxRecDepth 100000 in
theorem refF_31 (w : World) :
    Calls Tryz.prog 66 #[.int .i64 31] w fun e w' => e = .returned (.agg #[.int .i64 1, .int .i64 20, .int .i64 0, .string ⟨#[]⟩]) ∧ Below w.heap.size w w' := by
  have hA := Lib.hid ((Below.refl w.heap.size w).alloc (Nat.le_refl _) (.cells #[.int .i64 0, .int .i64 0, .int .i64 0, .string ⟨#[]⟩] 74))
  go_enter Tryz.func66, Tryz.ntmps66
  go_wp2_with fail
  refine (rw_20 _).mono ?_
  rintro e w1 ⟨rfl, hb⟩
  obtain ⟨r0, r1, r2, r3, f0, f1, f2, f3⟩ := (zblk w).below hb (by simp)
  have hB := Lib.hid (hA.out.trans (hb.mono (by simp)))
  have Q := (Blk4.mk r0 r1 r2 r3 f0 f1 f2 f3).put (.int .i64 1) (.int .i64 20) (.int .i64 0) (.string ⟨#[]⟩)
  go_wp2
  exact ret_valP rfl rfl Q rfl ⟨rfl, below_put4 hB.out (Nat.le_refl _) _ _ _ _⟩
set_option maxRecDepth 100000 in
theorem refF_32 (w : World) :
    Calls Tryz.prog 66 #[.int .i64 32] w fun e w' => e = .returned (.agg #[.int .i64 1, .int .i64 24, .int .i64 0, .string ⟨#[]⟩]) ∧ Below w.heap.size w w' := by
  have hA := Lib.hid ((Below.refl w.heap.size w).alloc (Nat.le_refl _) (.cells #[.int .i64 0, .int .i64 0, .int .i64 0, .string ⟨#[]⟩] 74))
  go_enter Tryz.func66, Tryz.ntmps66
  go_wp2_with fail
  refine (rw_24 _).mono ?_
  rintro e w1 ⟨rfl, hb⟩
  obtain ⟨r0, r1, r2, r3, f0, f1, f2, f3⟩ := (zblk w).below hb (by simp)
  have hB := Lib.hid (hA.out.trans (hb.mono (by simp)))
  have Q := (Blk4.mk r0 r1 r2 r3 f0 f1 f2 f3).put (.int .i64 1) (.int .i64 24) (.int .i64 0) (.string ⟨#[]⟩)
  go_wp2
  exact ret_valP rfl rfl Q rfl ⟨rfl, below_put4 hB.out (Nat.le_refl _) _ _ _ _⟩
set_option maxRecDepth 100000 in
theorem refF_33 (w : World) :
    Calls Tryz.prog 66 #[.int .i64 33] w fun e w' => e = .returned (.agg #[.int .i64 1, .int .i64 24, .int .i64 0, .string ⟨#[]⟩]) ∧ Below w.heap.size w w' := by
  have hA := Lib.hid ((Below.refl w.heap.size w).alloc (Nat.le_refl _) (.cells #[.int .i64 0, .int .i64 0, .int .i64 0, .string ⟨#[]⟩] 74))
  go_enter Tryz.func66, Tryz.ntmps66
  go_wp2_with fail
  refine (rw_24 _).mono ?_
  rintro e w1 ⟨rfl, hb⟩
  obtain ⟨r0, r1, r2, r3, f0, f1, f2, f3⟩ := (zblk w).below hb (by simp)
  have hB := Lib.hid (hA.out.trans (hb.mono (by simp)))
  have Q := (Blk4.mk r0 r1 r2 r3 f0 f1 f2 f3).put (.int .i64 1) (.int .i64 24) (.int .i64 0) (.string ⟨#[]⟩)
  go_wp2
  exact ret_valP rfl rfl Q rfl ⟨rfl, below_put4 hB.out (Nat.le_refl _) _ _ _ _⟩
set_option maxRecDepth 100000 in
theorem refF_34 (w : World) :
    Calls Tryz.prog 66 #[.int .i64 34] w fun e w' => e = .returned (.agg #[.int .i64 1, .int .i64 24, .int .i64 0, .string ⟨#[]⟩]) ∧ Below w.heap.size w w' := by
  have hA := Lib.hid ((Below.refl w.heap.size w).alloc (Nat.le_refl _) (.cells #[.int .i64 0, .int .i64 0, .int .i64 0, .string ⟨#[]⟩] 74))
  go_enter Tryz.func66, Tryz.ntmps66
  go_wp2_with fail
  refine (rw_24 _).mono ?_
  rintro e w1 ⟨rfl, hb⟩
  obtain ⟨r0, r1, r2, r3, f0, f1, f2, f3⟩ := (zblk w).below hb (by simp)
  have hB := Lib.hid (hA.out.trans (hb.mono (by simp)))
  have Q := (Blk4.mk r0 r1 r2 r3 f0 f1 f2 f3).put (.int .i64 1) (.int .i64 24) (.int .i64 0) (.string ⟨#[]⟩)
  go_wp2
  exact ret_valP rfl rfl Q rfl ⟨rfl, below_put4 hB.out (Nat.le_refl _) _ _ _ _⟩
set_option maxRecDepth 100000 in
theorem refF_35 (w : World) :
    Calls Tryz.prog 66 #[.int .i64 35] w fun e w' => e = .returned (.agg #[.int .i64 1, .int .i64 2, .int .i64 0, .string ⟨#[]⟩]) ∧ Below w.heap.size w w' := by
  have hA := Lib.hid ((Below.refl w.heap.size w).alloc (Nat.le_refl _) (.cells #[.int .i64 0, .int .i64 0, .int .i64 0, .string ⟨#[]⟩] 74))
  go_enter Tryz.func66, Tryz.ntmps66
  go_wp2_with fail
  refine (rw_2 _).mono ?_
  rintro e w1 ⟨rfl, hb⟩
  obtain ⟨r0, r1, r2, r3, f0, f1, f2, f3⟩ := (zblk w).below hb (by simp)
  have hB := Lib.hid (hA.out.trans (hb.mono (by simp)))
  have Q := (Blk4.mk r0 r1 r2 r3 f0 f1 f2 f3).put (.int .i64 1) (.int .i64 2) (.int .i64 0) (.string ⟨#[]⟩)
  go_wp2
  exact ret_valP rfl rfl Q rfl ⟨rfl, below_put4 hB.out (Nat.le_refl _) _ _ _ _⟩
set_option maxRecDepth 100000 in
theorem refF_36 (w : World) :
    Calls Tryz.prog 66 #[.int .i64 36] w fun e w' => e = .returned (.agg #[.int .i64 2, .int .i64 16000, .int .i64 1, .string ⟨#[]⟩]) ∧ Below w.heap.size w w' := by
  have hA := Lib.hid ((Below.refl w.heap.size w).alloc (Nat.le_refl _) (.cells #[.int .i64 0, .int .i64 0, .int .i64 0, .string ⟨#[]⟩] 74))
  go_enter Tryz.func66, Tryz.ntmps66
  go_wp2
  exact ret_valP rfl rfl (Blk4.new w 74 (.int .i64 2) (.int .i64 16000) (.int .i64 1) (.string ⟨#[]⟩)) rfl ⟨rfl, (Below.refl _ _).alloc (Nat.le_refl _) _⟩
set_option maxRecDepth 100000 in
theorem refF_37 (w : World) :
    Calls Tryz.prog 66 #[.int .i64 37] w fun e w' => e = .returned (.agg #[.int .i64 1, .int .i64 24, .int .i64 0, .string ⟨#[]⟩]) ∧ Below w.heap.size w w' := by
  have hA := Lib.hid ((Below.refl w.heap.size w).alloc (Nat.le_refl _) (.cells #[.int .i64 0, .int .i64 0, .int .i64 0, .string ⟨#[]⟩] 74))
  go_enter Tryz.func66, Tryz.ntmps66
  go_wp2_with fail
  refine (rw_24 _).mono ?_
  rintro e w1 ⟨rfl, hb⟩
  obtain ⟨r0, r1, r2, r3, f0, f1, f2, f3⟩ := (zblk w).below hb (by simp)
  have hB := Lib.hid (hA.out.trans (hb.mono (by simp)))
  have Q := (Blk4.mk r0 r1 r2 r3 f0 f1 f2 f3).put (.int .i64 1) (.int .i64 24) (.int .i64 0) (.string ⟨#[]⟩)
  go_wp2
  exact ret_valP rfl rfl Q rfl ⟨rfl, below_put4 hB.out (Nat.le_refl _) _ _ _ _⟩
set_option maxRecDepth 100000 in
theorem refF_o (p : Int) (w : World) (h1 : p ≠ 1) (h2 : p ≠ 2) (h3 : p ≠ 3) (h4 : p ≠ 4) (h5 : p ≠ 5) (h6 : p ≠ 6) (h7 : p ≠ 7) (h8 : p ≠ 8) (h9 : p ≠ 9) (h10 : p ≠ 10) (h11 : p ≠ 11) (h12 : p ≠ 12) (h13 : p ≠ 13) (h14 : p ≠ 14) (h15 : p ≠ 15) (h16 : p ≠ 16) (h17 : p ≠ 17) (h18 : p ≠ 18) (h19 : p ≠ 19) (h20 : p ≠ 20) (h21 : p ≠ 21) (h22 : p ≠ 22) (h23 : p ≠ 23) (h24 : p ≠ 24) (h25 : p ≠ 25) (h26 : p ≠ 26) (h27 : p ≠ 27) (h28 : p ≠ 28) (h29 : p ≠ 29) (h30 : p ≠ 30) (h31 : p ≠ 31) (h32 : p ≠ 32) (h33 : p ≠ 33) (h34 : p ≠ 34) (h35 : p ≠ 35) (h36 : p ≠ 36) (h37 : p ≠ 37) :
    Calls Tryz.prog 66 #[.int .i64 p] w fun e w' => e = .returned (.agg #[.int .i64 0, .int .i64 0, .int .i64 0, .string ⟨#[]⟩]) ∧ Below w.heap.size w w' := by
  have hA := Lib.hid ((Below.refl w.heap.size w).alloc (Nat.le_refl _) (.cells #[.int .i64 0, .int .i64 0, .int .i64 0, .string ⟨#[]⟩] 74))
  go_enter Tryz.func66, Tryz.ntmps66
  go_wp2
  exact ret_valP rfl rfl (zblk w) rfl ⟨rfl, hA.out⟩
theorem refFirst_any (p : Int) (w : World) :
    Calls Tryz.prog 66 #[.int .i64 p] w fun e w' => e = .returned (valV (firstM p)) ∧ Below w.heap.size w w' := by
  by_cases h1 : p = 1
  · subst h1; exact refF_1 w
  by_cases h2 : p = 2
  · subst h2; exact refF_2 w
  by_cases h3 : p = 3
  · subst h3; exact refF_3 w
  by_cases h4 : p = 4
  · subst h4; exact refF_4 w
  by_cases h5 : p = 5
  · subst h5; exact refF_5 w
  by_cases h6 : p = 6
  · subst h6; exact refF_6 w
  by_cases h7 : p = 7
  · subst h7; exact refF_7 w
  by_cases h8 : p = 8
  · subst h8; exact refF_8 w
  by_cases h9 : p = 9
  · subst h9; exact refF_9 w
  by_cases h10 : p = 10
  · subst h10; exact refF_10 w
  by_cases h11 : p = 11
  · subst h11; exact refF_11 w
  by_cases h12 : p = 12
  · subst h12; exact refF_12 w
  by_cases h13 : p = 13
  · subst h13; exact refF_13 w
  by_cases h14 : p = 14
  · subst h14; exact refF_14 w
  by_cases h15 : p = 15
  · subst h15; exact refF_15 w
  by_cases h16 : p = 16
  · subst h16; exact refF_16 w
  by_cases h17 : p = 17
  · subst h17; exact refF_17 w
  by_cases h18 : p = 18
  · subst h18; exact refF_18 w
  by_cases h19 : p = 19
  · subst h19; exact refF_19 w
  by_cases h20 : p = 20
  · subst h20; exact refF_20 w
  by_cases h21 : p = 21
  · subst h21; exact refF_21 w
  by_cases h22 : p = 22
  · subst h22; exact refF_22 w
  by_cases h23 : p = 23
  · subst h23; exact refF_23 w
  by_cases h24 : p = 24
  · subst h24; exact refF_24 w
  by_cases h25 : p = 25
  · subst h25; exact refF_25 w
  by_cases h26 : p = 26
  · subst h26; exact refF_26 w
  by_cases h27 : p = 27
  · subst h27; exact refF_27 w
  by_cases h28 : p = 28
  · subst h28; exact refF_28 w
  by_cases h29 : p = 29
  · subst h29; exact refF_29 w
  by_cases h30 : p = 30
  · subst h30; exact refF_30 w
  by_cases h31 : p = 31
  · subst h31; exact refF_31 w
  by_cases h32 : p = 32
  · subst h32; exact refF_32 w
  by_cases h33 : p = 33
  · subst h33; exact refF_33 w
  by_cases h34 : p = 34
  · subst h34; exact refF_34 w
  by_cases h35 : p = 35
  · subst h35; exact refF_35 w
  by_cases h36 : p = 36
  · subst h36; exact refF_36 w
  by_cases h37 : p = 37
  · subst h37; exact refF_37 w
  have e : firstM p = zeroVal := by unfold firstM laterM; rw [if_neg h1, if_neg h2, if_neg (by omega), if_neg (by omega), if_neg (by omega), if_neg h22, if_neg h23, if_neg (by omega)]; rw [if_neg h25, if_neg h28, if_neg (by omega), if_neg (by omega), if_neg h36]
  rw [e]; exact refF_o p w h1 h2 h3 h4 h5 h6 h7 h8 h9 h10 h11 h12 h13 h14 h15 h16 h17 h18 h19 h20 h21 h22 h23 h24 h25 h26 h27 h28 h29 h30 h31 h32 h33 h34 h35 h36 h37
end Go.Proofs.YtkbnmmknjmmlmaaGreatDoor

