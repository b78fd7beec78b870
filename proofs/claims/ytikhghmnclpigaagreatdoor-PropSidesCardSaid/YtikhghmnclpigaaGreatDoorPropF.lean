/-
  The walks of layer 10: what a property has at first (printed by gen_first.py).
-/
import Derived.Test.YtikhghmnclpigaaGreatDoorPropE
namespace Go.Proofs.YtikhghmnclpigaaGreatDoor
open Go.RowKit Wsc
theorem ret_valP {fn : Func} {p : Tmp} {R : Ending → World → Prop} {a : Act} {w : World} {g : Nat} {v0 v1 v2 v3 : Value} (h : fn.results = #[.cell p 23])
    (hp : a.tmps.getD p undef = .pointer (some ⟨g, 0, none⟩)) (hQ : Blk4 w g v0 v1 v2 v3) (hd : a.defers = []) (hR : R (.returned (.agg #[v0, v1, v2, v3])) w) : bodyPost Tryz.prog fn R .ret a w := by
  refine bodyPost_ret (v := .agg #[v0, v1, v2, v3]) ?_ hd hR
  have hp2 : a.tmps[p]?.getD undef = .pointer (some ⟨g, 0, none⟩) := by simpa using hp
  simp [results, h, asAddr, hp2, load_val hQ]
theorem px_any (n : Int) (w : World) :
    Calls Tryz.prog 47 #[.int .i64 n] w fun e w' => e = .returned (.agg #[.int .i64 2, .int .i64 n, .int .i64 1, .string ⟨#[]⟩]) ∧ Below w.heap.size w w' := by
  go_enter Tryz.func47, Tryz.ntmps47
  go_wp2
  exact ret_valP rfl rfl (Blk4.new w 23 (.int .i64 2) (.int .i64 n) (.int .i64 1) (.string ⟨#[]⟩)) rfl ⟨rfl, (Below.refl _ _).alloc (Nat.le_refl _) _⟩
theorem number_any (n : Int) (w : World) :
    Calls Tryz.prog 48 #[.int .i64 n] w fun e w' => e = .returned (.agg #[.int .i64 4, .int .i64 n, .int .i64 0, .string ⟨#[]⟩]) ∧ Below w.heap.size w w' := by
  go_enter Tryz.func48, Tryz.ntmps48
  go_wp2
  exact ret_valP rfl rfl (Blk4.new w 23 (.int .i64 4) (.int .i64 n) (.int .i64 0) (.string ⟨#[]⟩)) rfl ⟨rfl, (Below.refl _ _).alloc (Nat.le_refl _) _⟩
theorem pword_any (s : List UInt8) (w : World) (hg : Gl w) :
    Calls Tryz.prog 46 #[.string (bs s)] w fun e w' => e = .returned (.agg #[.int .i64 1, .int .i64 (placeL wordsL s : Nat), .int .i64 0, .string ⟨#[]⟩]) ∧ Below w.heap.size w w' := by
  have hA := Lib.hid ((Below.refl w.heap.size w).alloc (Nat.le_refl _) (.cells #[.int .i64 0, .int .i64 0, .int .i64 0, .string ⟨#[]⟩] 23))
  have W := word_any (bs s) _ (hg.below hA.out)
  rw [bs_data] at W
  have W2 := Lib.hid W
  clear W
  generalize placeL wordsL s = k at *
  go_enter Tryz.func46, Tryz.ntmps46
  go_wp2_with fail
  refine W2.out.mono ?_
  rintro e w1 ⟨rfl, hb⟩
  obtain ⟨r0, r1, r2, r3, f0, f1, f2, f3⟩ := (zblk w).below hb (by simp)
  have hB := Lib.hid (hA.out.trans (hb.mono (by simp)))
  have Q := (Blk4.mk r0 r1 r2 r3 f0 f1 f2 f3).put (.int .i64 1) (.int .i64 k) (.int .i64 0) (.string ⟨#[]⟩)
  go_wp2
  exact ret_valP rfl rfl Q rfl ⟨rfl, below_put4 hB.out (Nat.le_refl _) _ _ _ _⟩

theorem pw_3 (w : World) (hg : Gl w) :
    Calls Tryz.prog 46 #[.string ⟨#[98, 108, 111, 99, 107]⟩] w fun e w' => e = .returned (.agg #[.int .i64 1, .int .i64 3, .int .i64 0, .string ⟨#[]⟩]) ∧ Below w.heap.size w w' := by
  have h := pword_any [98, 108, 111, 99, 107] w hg
  rw [show placeL wordsL [98, 108, 111, 99, 107] = 3 by decide +kernel] at h
  exact h
theorem pw_5 (w : World) (hg : Gl w) :
    Calls Tryz.prog 46 #[.string ⟨#[99, 111, 110, 116, 101, 110, 116, 45, 98, 111, 120]⟩] w fun e w' => e = .returned (.agg #[.int .i64 1, .int .i64 5, .int .i64 0, .string ⟨#[]⟩]) ∧ Below w.heap.size w w' := by
  have h := pword_any [99, 111, 110, 116, 101, 110, 116, 45, 98, 111, 120] w hg
  rw [show placeL wordsL [99, 111, 110, 116, 101, 110, 116, 45, 98, 111, 120] = 5 by decide +kernel] at h
  exact h
theorem pw_1 (w : World) (hg : Gl w) :
    Calls Tryz.prog 46 #[.string ⟨#[97, 117, 116, 111]⟩] w fun e w' => e = .returned (.agg #[.int .i64 1, .int .i64 1, .int .i64 0, .string ⟨#[]⟩]) ∧ Below w.heap.size w w' := by
  have h := pword_any [97, 117, 116, 111] w hg
  rw [show placeL wordsL [97, 117, 116, 111] = 1 by decide +kernel] at h
  exact h
theorem pw_2 (w : World) (hg : Gl w) :
    Calls Tryz.prog 46 #[.string ⟨#[110, 111, 110, 101]⟩] w fun e w' => e = .returned (.agg #[.int .i64 1, .int .i64 2, .int .i64 0, .string ⟨#[]⟩]) ∧ Below w.heap.size w w' := by
  have h := pword_any [110, 111, 110, 101] w hg
  rw [show placeL wordsL [110, 111, 110, 101] = 2 by decide +kernel] at h
  exact h
theorem pw_10 (w : World) (hg : Gl w) :
    Calls Tryz.prog 46 #[.string ⟨#[114, 111, 119]⟩] w fun e w' => e = .returned (.agg #[.int .i64 1, .int .i64 10, .int .i64 0, .string ⟨#[]⟩]) ∧ Below w.heap.size w w' := by
  have h := pword_any [114, 111, 119] w hg
  rw [show placeL wordsL [114, 111, 119] = 10 by decide +kernel] at h
  exact h
theorem pw_14 (w : World) (hg : Gl w) :
    Calls Tryz.prog 46 #[.string ⟨#[110, 111, 119, 114, 97, 112]⟩] w fun e w' => e = .returned (.agg #[.int .i64 1, .int .i64 14, .int .i64 0, .string ⟨#[]⟩]) ∧ Below w.heap.size w w' := by
  have h := pword_any [110, 111, 119, 114, 97, 112] w hg
  rw [show placeL wordsL [110, 111, 119, 114, 97, 112] = 14 by decide +kernel] at h
  exact h
theorem pw_17 (w : World) (hg : Gl w) :
    Calls Tryz.prog 46 #[.string ⟨#[115, 116, 97, 114, 116]⟩] w fun e w' => e = .returned (.agg #[.int .i64 1, .int .i64 17, .int .i64 0, .string ⟨#[]⟩]) ∧ Below w.heap.size w w' := by
  have h := pword_any [115, 116, 97, 114, 116] w hg
  rw [show placeL wordsL [115, 116, 97, 114, 116] = 17 by decide +kernel] at h
  exact h
theorem pw_20 (w : World) (hg : Gl w) :
    Calls Tryz.prog 46 #[.string ⟨#[115, 116, 114, 101, 116, 99, 104]⟩] w fun e w' => e = .returned (.agg #[.int .i64 1, .int .i64 20, .int .i64 0, .string ⟨#[]⟩]) ∧ Below w.heap.size w w' := by
  have h := pword_any [115, 116, 114, 101, 116, 99, 104] w hg
  rw [show placeL wordsL [115, 116, 114, 101, 116, 99, 104] = 20 by decide +kernel] at h
  exact h
theorem pw_24 (w : World) (hg : Gl w) :
    Calls Tryz.prog 46 #[.string ⟨#[110, 111, 114, 109, 97, 108]⟩] w fun e w' => e = .returned (.agg #[.int .i64 1, .int .i64 24, .int .i64 0, .string ⟨#[]⟩]) ∧ Below w.heap.size w w' := by
  have h := pword_any [110, 111, 114, 109, 97, 108] w hg
  rw [show placeL wordsL [110, 111, 114, 109, 97, 108] = 24 by decide +kernel] at h
  exact h
set_option maxRecDepth 100000 in
theorem later_25 (w : World) (_hg : Gl w) :
    Calls Tryz.prog 49 #[.int .i64 25] w fun e w' => e = .returned (.agg #[.int .i64 4, .int .i64 1000, .int .i64 0, .string ⟨#[]⟩]) ∧ Below w.heap.size w w' := by
  have hA := Lib.hid ((Below.refl w.heap.size w).alloc (Nat.le_refl _) (.cells #[.int .i64 0, .int .i64 0, .int .i64 0, .string ⟨#[]⟩] 23))
  have C := Lib.hid (number_any 1000 (w.alloc (.cells #[.int .i64 0, .int .i64 0, .int .i64 0, .string ⟨#[]⟩] 23)))
  go_enter Tryz.func49, Tryz.ntmps49
  go_wp2_with fail
  refine C.out.mono ?_
  rintro e w1 ⟨rfl, hb⟩
  obtain ⟨r0, r1, r2, r3, f0, f1, f2, f3⟩ := (zblk w).below hb (by simp)
  have hB := Lib.hid (hA.out.trans (hb.mono (by simp)))
  have Q := (Blk4.mk r0 r1 r2 r3 f0 f1 f2 f3).put (.int .i64 4) (.int .i64 1000) (.int .i64 0) (.string ⟨#[]⟩)
  go_wp2
  exact ret_valP rfl rfl Q rfl ⟨rfl, below_put4 hB.out (Nat.le_refl _) _ _ _ _⟩
set_option maxRecDepth 100000 in
theorem later_28 (w : World) (hg : Gl w) :
    Calls Tryz.prog 49 #[.int .i64 28] w fun e w' => e = .returned (.agg #[.int .i64 1, .int .i64 17, .int .i64 0, .string ⟨#[]⟩]) ∧ Below w.heap.size w w' := by
  have hA := Lib.hid ((Below.refl w.heap.size w).alloc (Nat.le_refl _) (.cells #[.int .i64 0, .int .i64 0, .int .i64 0, .string ⟨#[]⟩] 23))
  have C := Lib.hid (pw_17 _ (hg.below hA.out))
  go_enter Tryz.func49, Tryz.ntmps49
  go_wp2_with fail
  refine C.out.mono ?_
  rintro e w1 ⟨rfl, hb⟩
  obtain ⟨r0, r1, r2, r3, f0, f1, f2, f3⟩ := (zblk w).below hb (by simp)
  have hB := Lib.hid (hA.out.trans (hb.mono (by simp)))
  have Q := (Blk4.mk r0 r1 r2 r3 f0 f1 f2 f3).put (.int .i64 1) (.int .i64 17) (.int .i64 0) (.string ⟨#[]⟩)
  go_wp2
  exact ret_valP rfl rfl Q rfl ⟨rfl, below_put4 hB.out (Nat.le_refl _) _ _ _ _⟩
set_option maxRecDepth 100000 in
theorem later_29 (w : World) (hg : Gl w) :
    Calls Tryz.prog 49 #[.int .i64 29] w fun e w' => e = .returned (.agg #[.int .i64 1, .int .i64 20, .int .i64 0, .string ⟨#[]⟩]) ∧ Below w.heap.size w w' := by
  have hA := Lib.hid ((Below.refl w.heap.size w).alloc (Nat.le_refl _) (.cells #[.int .i64 0, .int .i64 0, .int .i64 0, .string ⟨#[]⟩] 23))
  have C := Lib.hid (pw_20 _ (hg.below hA.out))
  go_enter Tryz.func49, Tryz.ntmps49
  go_wp2_with fail
  refine C.out.mono ?_
  rintro e w1 ⟨rfl, hb⟩
  obtain ⟨r0, r1, r2, r3, f0, f1, f2, f3⟩ := (zblk w).below hb (by simp)
  have hB := Lib.hid (hA.out.trans (hb.mono (by simp)))
  have Q := (Blk4.mk r0 r1 r2 r3 f0 f1 f2 f3).put (.int .i64 1) (.int .i64 20) (.int .i64 0) (.string ⟨#[]⟩)
  go_wp2
  exact ret_valP rfl rfl Q rfl ⟨rfl, below_put4 hB.out (Nat.le_refl _) _ _ _ _⟩
set_option maxRecDepth 100000 in
theorem later_31 (w : World) (hg : Gl w) :
    Calls Tryz.prog 49 #[.int .i64 31] w fun e w' => e = .returned (.agg #[.int .i64 1, .int .i64 20, .int .i64 0, .string ⟨#[]⟩]) ∧ Below w.heap.size w w' := by
  have hA := Lib.hid ((Below.refl w.heap.size w).alloc (Nat.le_refl _) (.cells #[.int .i64 0, .int .i64 0, .int .i64 0, .string ⟨#[]⟩] 23))
  have C := Lib.hid (pw_20 _ (hg.below hA.out))
  go_enter Tryz.func49, Tryz.ntmps49
  go_wp2_with fail
  refine C.out.mono ?_
  rintro e w1 ⟨rfl, hb⟩
  obtain ⟨r0, r1, r2, r3, f0, f1, f2, f3⟩ := (zblk w).below hb (by simp)
  have hB := Lib.hid (hA.out.trans (hb.mono (by simp)))
  have Q := (Blk4.mk r0 r1 r2 r3 f0 f1 f2 f3).put (.int .i64 1) (.int .i64 20) (.int .i64 0) (.string ⟨#[]⟩)
  go_wp2
  exact ret_valP rfl rfl Q rfl ⟨rfl, below_put4 hB.out (Nat.le_refl _) _ _ _ _⟩
set_option maxRecDepth 100000 in
theorem later_32 (w : World) (hg : Gl w) :
    Calls Tryz.prog 49 #[.int .i64 32] w fun e w' => e = .returned (.agg #[.int .i64 1, .int .i64 24, .int .i64 0, .string ⟨#[]⟩]) ∧ Below w.heap.size w w' := by
  have hA := Lib.hid ((Below.refl w.heap.size w).alloc (Nat.le_refl _) (.cells #[.int .i64 0, .int .i64 0, .int .i64 0, .string ⟨#[]⟩] 23))
  have C := Lib.hid (pw_24 _ (hg.below hA.out))
  go_enter Tryz.func49, Tryz.ntmps49
  go_wp2_with fail
  refine C.out.mono ?_
  rintro e w1 ⟨rfl, hb⟩
  obtain ⟨r0, r1, r2, r3, f0, f1, f2, f3⟩ := (zblk w).below hb (by simp)
  have hB := Lib.hid (hA.out.trans (hb.mono (by simp)))
  have Q := (Blk4.mk r0 r1 r2 r3 f0 f1 f2 f3).put (.int .i64 1) (.int .i64 24) (.int .i64 0) (.string ⟨#[]⟩)
  go_wp2
  exact ret_valP rfl rfl Q rfl ⟨rfl, below_put4 hB.out (Nat.le_refl _) _ _ _ _⟩
set_option maxRecDepth 100000 in
theorem later_33 (w : World) (hg : Gl w) :
    Calls Tryz.prog 49 #[.int .i64 33] w fun e w' => e = .returned (.agg #[.int .i64 1, .int .i64 24, .int .i64 0, .string ⟨#[]⟩]) ∧ Below w.heap.size w w' := by
  have hA := Lib.hid ((Below.refl w.heap.size w).alloc (Nat.le_refl _) (.cells #[.int .i64 0, .int .i64 0, .int .i64 0, .string ⟨#[]⟩] 23))
  have C := Lib.hid (pw_24 _ (hg.below hA.out))
  go_enter Tryz.func49, Tryz.ntmps49
  go_wp2_with fail
  refine C.out.mono ?_
  rintro e w1 ⟨rfl, hb⟩
  obtain ⟨r0, r1, r2, r3, f0, f1, f2, f3⟩ := (zblk w).below hb (by simp)
  have hB := Lib.hid (hA.out.trans (hb.mono (by simp)))
  have Q := (Blk4.mk r0 r1 r2 r3 f0 f1 f2 f3).put (.int .i64 1) (.int .i64 24) (.int .i64 0) (.string ⟨#[]⟩)
  go_wp2
  exact ret_valP rfl rfl Q rfl ⟨rfl, below_put4 hB.out (Nat.le_refl _) _ _ _ _⟩
set_option maxRecDepth 100000 in
theorem later_34 (w : World) (hg : Gl w) :
    Calls Tryz.prog 49 #[.int .i64 34] w fun e w' => e = .returned (.agg #[.int .i64 1, .int .i64 24, .int .i64 0, .string ⟨#[]⟩]) ∧ Below w.heap.size w w' := by
  have hA := Lib.hid ((Below.refl w.heap.size w).alloc (Nat.le_refl _) (.cells #[.int .i64 0, .int .i64 0, .int .i64 0, .string ⟨#[]⟩] 23))
  have C := Lib.hid (pw_24 _ (hg.below hA.out))
  go_enter Tryz.func49, Tryz.ntmps49
  go_wp2_with fail
  refine C.out.mono ?_
  rintro e w1 ⟨rfl, hb⟩
  obtain ⟨r0, r1, r2, r3, f0, f1, f2, f3⟩ := (zblk w).below hb (by simp)
  have hB := Lib.hid (hA.out.trans (hb.mono (by simp)))
  have Q := (Blk4.mk r0 r1 r2 r3 f0 f1 f2 f3).put (.int .i64 1) (.int .i64 24) (.int .i64 0) (.string ⟨#[]⟩)
  go_wp2
  exact ret_valP rfl rfl Q rfl ⟨rfl, below_put4 hB.out (Nat.le_refl _) _ _ _ _⟩
set_option maxRecDepth 100000 in
theorem later_37 (w : World) (hg : Gl w) :
    Calls Tryz.prog 49 #[.int .i64 37] w fun e w' => e = .returned (.agg #[.int .i64 1, .int .i64 24, .int .i64 0, .string ⟨#[]⟩]) ∧ Below w.heap.size w w' := by
  have hA := Lib.hid ((Below.refl w.heap.size w).alloc (Nat.le_refl _) (.cells #[.int .i64 0, .int .i64 0, .int .i64 0, .string ⟨#[]⟩] 23))
  have C := Lib.hid (pw_24 _ (hg.below hA.out))
  go_enter Tryz.func49, Tryz.ntmps49
  go_wp2_with fail
  refine C.out.mono ?_
  rintro e w1 ⟨rfl, hb⟩
  obtain ⟨r0, r1, r2, r3, f0, f1, f2, f3⟩ := (zblk w).below hb (by simp)
  have hB := Lib.hid (hA.out.trans (hb.mono (by simp)))
  have Q := (Blk4.mk r0 r1 r2 r3 f0 f1 f2 f3).put (.int .i64 1) (.int .i64 24) (.int .i64 0) (.string ⟨#[]⟩)
  go_wp2
  exact ret_valP rfl rfl Q rfl ⟨rfl, below_put4 hB.out (Nat.le_refl _) _ _ _ _⟩
set_option maxRecDepth 100000 in
theorem later_36 (w : World) (_hg : Gl w) :
    Calls Tryz.prog 49 #[.int .i64 36] w fun e w' => e = .returned (.agg #[.int .i64 2, .int .i64 16000, .int .i64 1, .string ⟨#[]⟩]) ∧ Below w.heap.size w w' := by
  have hA := Lib.hid ((Below.refl w.heap.size w).alloc (Nat.le_refl _) (.cells #[.int .i64 0, .int .i64 0, .int .i64 0, .string ⟨#[]⟩] 23))
  have C := Lib.hid (px_any 16000 (w.alloc (.cells #[.int .i64 0, .int .i64 0, .int .i64 0, .string ⟨#[]⟩] 23)))
  go_enter Tryz.func49, Tryz.ntmps49
  go_wp2_with fail
  refine C.out.mono ?_
  rintro e w1 ⟨rfl, hb⟩
  obtain ⟨r0, r1, r2, r3, f0, f1, f2, f3⟩ := (zblk w).below hb (by simp)
  have hB := Lib.hid (hA.out.trans (hb.mono (by simp)))
  have Q := (Blk4.mk r0 r1 r2 r3 f0 f1 f2 f3).put (.int .i64 2) (.int .i64 16000) (.int .i64 1) (.string ⟨#[]⟩)
  go_wp2
  exact ret_valP rfl rfl Q rfl ⟨rfl, below_put4 hB.out (Nat.le_refl _) _ _ _ _⟩
set_option maxRecDepth 100000 in
theorem later_o (p : Int) (w : World) (_hg : Gl w) (h25 : p ≠ 25) (h28 : p ≠ 28) (h29 : p ≠ 29) (h31 : p ≠ 31) (h32 : p ≠ 32) (h33 : p ≠ 33) (h34 : p ≠ 34) (h36 : p ≠ 36) (h37 : p ≠ 37) :
    Calls Tryz.prog 49 #[.int .i64 p] w fun e w' => e = .returned (.agg #[.int .i64 0, .int .i64 0, .int .i64 0, .string ⟨#[]⟩]) ∧ Below w.heap.size w w' := by
  have hA := Lib.hid ((Below.refl w.heap.size w).alloc (Nat.le_refl _) (.cells #[.int .i64 0, .int .i64 0, .int .i64 0, .string ⟨#[]⟩] 23))
  go_enter Tryz.func49, Tryz.ntmps49
  go_wp2
  exact ret_valP rfl rfl (zblk w) rfl ⟨rfl, hA.out⟩
theorem later_any (p : Int) (w : World) (hg : Gl w) :
    Calls Tryz.prog 49 #[.int .i64 p] w fun e w' => e = .returned (valV (laterM p)) ∧ Below w.heap.size w w' := by
  by_cases h25 : p = 25
  · subst h25; exact later_25 w hg
  by_cases h28 : p = 28
  · subst h28; exact later_28 w hg
  by_cases h29 : p = 29
  · subst h29; exact later_29 w hg
  by_cases h31 : p = 31
  · subst h31; exact later_31 w hg
  by_cases h32 : p = 32
  · subst h32; exact later_32 w hg
  by_cases h33 : p = 33
  · subst h33; exact later_33 w hg
  by_cases h34 : p = 34
  · subst h34; exact later_34 w hg
  by_cases h36 : p = 36
  · subst h36; exact later_36 w hg
  by_cases h37 : p = 37
  · subst h37; exact later_37 w hg
  have e : laterM p = zeroVal := by unfold laterM; rw [if_neg h25, if_neg h28, if_neg (by omega), if_neg (by omega), if_neg h36]
  rw [e]; exact later_o p w hg h25 h28 h29 h31 h32 h33 h34 h36 h37
set_option maxRecDepth 100000 in
theorem first_1 (w : World) (hg : Gl w) :
    Calls Tryz.prog 19 #[.int .i64 1] w fun e w' => e = .returned (.agg #[.int .i64 1, .int .i64 3, .int .i64 0, .string ⟨#[]⟩]) ∧ Below w.heap.size w w' := by
  have hA := Lib.hid ((Below.refl w.heap.size w).alloc (Nat.le_refl _) (.cells #[.int .i64 0, .int .i64 0, .int .i64 0, .string ⟨#[]⟩] 23))
  have C := Lib.hid (pw_3 _ (hg.below hA.out))
  go_enter Tryz.func19, Tryz.ntmps19
  go_wp2_with fail
  refine C.out.mono ?_
  rintro e w1 ⟨rfl, hb⟩
  obtain ⟨r0, r1, r2, r3, f0, f1, f2, f3⟩ := (zblk w).below hb (by simp)
  have hB := Lib.hid (hA.out.trans (hb.mono (by simp)))
  have Q := (Blk4.mk r0 r1 r2 r3 f0 f1 f2 f3).put (.int .i64 1) (.int .i64 3) (.int .i64 0) (.string ⟨#[]⟩)
  go_wp2
  exact ret_valP rfl rfl Q rfl ⟨rfl, below_put4 hB.out (Nat.le_refl _) _ _ _ _⟩
set_option maxRecDepth 100000 in
theorem first_2 (w : World) (hg : Gl w) :
    Calls Tryz.prog 19 #[.int .i64 2] w fun e w' => e = .returned (.agg #[.int .i64 1, .int .i64 5, .int .i64 0, .string ⟨#[]⟩]) ∧ Below w.heap.size w w' := by
  have hA := Lib.hid ((Below.refl w.heap.size w).alloc (Nat.le_refl _) (.cells #[.int .i64 0, .int .i64 0, .int .i64 0, .string ⟨#[]⟩] 23))
  have C := Lib.hid (pw_5 _ (hg.below hA.out))
  go_enter Tryz.func19, Tryz.ntmps19
  go_wp2_with fail
  refine C.out.mono ?_
  rintro e w1 ⟨rfl, hb⟩
  obtain ⟨r0, r1, r2, r3, f0, f1, f2, f3⟩ := (zblk w).below hb (by simp)
  have hB := Lib.hid (hA.out.trans (hb.mono (by simp)))
  have Q := (Blk4.mk r0 r1 r2 r3 f0 f1 f2 f3).put (.int .i64 1) (.int .i64 5) (.int .i64 0) (.string ⟨#[]⟩)
  go_wp2
  exact ret_valP rfl rfl Q rfl ⟨rfl, below_put4 hB.out (Nat.le_refl _) _ _ _ _⟩
set_option maxRecDepth 100000 in
theorem first_size (p : Int) (w : World) (hg : Gl w) (h3 : 3 ≤ p) (h6 : p ≤ 6) :
    Calls Tryz.prog 19 #[.int .i64 p] w fun e w' => e = .returned (.agg #[.int .i64 1, .int .i64 1, .int .i64 0, .string ⟨#[]⟩]) ∧ Below w.heap.size w w' := by
  have hA := Lib.hid ((Below.refl w.heap.size w).alloc (Nat.le_refl _) (.cells #[.int .i64 0, .int .i64 0, .int .i64 0, .string ⟨#[]⟩] 23))
  have C := Lib.hid (pw_1 _ (hg.below hA.out))
  go_enter Tryz.func19, Tryz.ntmps19
  go_wp2_with fail
  refine C.out.mono ?_
  rintro e w1 ⟨rfl, hb⟩
  obtain ⟨r0, r1, r2, r3, f0, f1, f2, f3⟩ := (zblk w).below hb (by simp)
  have hB := Lib.hid (hA.out.trans (hb.mono (by simp)))
  have Q := (Blk4.mk r0 r1 r2 r3 f0 f1 f2 f3).put (.int .i64 1) (.int .i64 1) (.int .i64 0) (.string ⟨#[]⟩)
  go_wp2
  exact ret_valP rfl rfl Q rfl ⟨rfl, below_put4 hB.out (Nat.le_refl _) _ _ _ _⟩
set_option maxRecDepth 100000 in
theorem first_21 (w : World) (hg : Gl w) :
    Calls Tryz.prog 19 #[.int .i64 21] w fun e w' => e = .returned (.agg #[.int .i64 1, .int .i64 1, .int .i64 0, .string ⟨#[]⟩]) ∧ Below w.heap.size w w' := by
  have hA := Lib.hid ((Below.refl w.heap.size w).alloc (Nat.le_refl _) (.cells #[.int .i64 0, .int .i64 0, .int .i64 0, .string ⟨#[]⟩] 23))
  have C := Lib.hid (pw_1 _ (hg.below hA.out))
  go_enter Tryz.func19, Tryz.ntmps19
  go_wp2_with fail
  refine C.out.mono ?_
  rintro e w1 ⟨rfl, hb⟩
  obtain ⟨r0, r1, r2, r3, f0, f1, f2, f3⟩ := (zblk w).below hb (by simp)
  have hB := Lib.hid (hA.out.trans (hb.mono (by simp)))
  have Q := (Blk4.mk r0 r1 r2 r3 f0 f1 f2 f3).put (.int .i64 1) (.int .i64 1) (.int .i64 0) (.string ⟨#[]⟩)
  go_wp2
  exact ret_valP rfl rfl Q rfl ⟨rfl, below_put4 hB.out (Nat.le_refl _) _ _ _ _⟩
set_option maxRecDepth 100000 in
theorem first_26 (w : World) (hg : Gl w) :
    Calls Tryz.prog 19 #[.int .i64 26] w fun e w' => e = .returned (.agg #[.int .i64 1, .int .i64 1, .int .i64 0, .string ⟨#[]⟩]) ∧ Below w.heap.size w w' := by
  have hA := Lib.hid ((Below.refl w.heap.size w).alloc (Nat.le_refl _) (.cells #[.int .i64 0, .int .i64 0, .int .i64 0, .string ⟨#[]⟩] 23))
  have C := Lib.hid (pw_1 _ (hg.below hA.out))
  go_enter Tryz.func19, Tryz.ntmps19
  go_wp2_with fail
  refine C.out.mono ?_
  rintro e w1 ⟨rfl, hb⟩
  obtain ⟨r0, r1, r2, r3, f0, f1, f2, f3⟩ := (zblk w).below hb (by simp)
  have hB := Lib.hid (hA.out.trans (hb.mono (by simp)))
  have Q := (Blk4.mk r0 r1 r2 r3 f0 f1 f2 f3).put (.int .i64 1) (.int .i64 1) (.int .i64 0) (.string ⟨#[]⟩)
  go_wp2
  exact ret_valP rfl rfl Q rfl ⟨rfl, below_put4 hB.out (Nat.le_refl _) _ _ _ _⟩
set_option maxRecDepth 100000 in
theorem first_30 (w : World) (hg : Gl w) :
    Calls Tryz.prog 19 #[.int .i64 30] w fun e w' => e = .returned (.agg #[.int .i64 1, .int .i64 1, .int .i64 0, .string ⟨#[]⟩]) ∧ Below w.heap.size w w' := by
  have hA := Lib.hid ((Below.refl w.heap.size w).alloc (Nat.le_refl _) (.cells #[.int .i64 0, .int .i64 0, .int .i64 0, .string ⟨#[]⟩] 23))
  have C := Lib.hid (pw_1 _ (hg.below hA.out))
  go_enter Tryz.func19, Tryz.ntmps19
  go_wp2_with fail
  refine C.out.mono ?_
  rintro e w1 ⟨rfl, hb⟩
  obtain ⟨r0, r1, r2, r3, f0, f1, f2, f3⟩ := (zblk w).below hb (by simp)
  have hB := Lib.hid (hA.out.trans (hb.mono (by simp)))
  have Q := (Blk4.mk r0 r1 r2 r3 f0 f1 f2 f3).put (.int .i64 1) (.int .i64 1) (.int .i64 0) (.string ⟨#[]⟩)
  go_wp2
  exact ret_valP rfl rfl Q rfl ⟨rfl, below_put4 hB.out (Nat.le_refl _) _ _ _ _⟩
set_option maxRecDepth 100000 in
theorem first_7 (w : World) (hg : Gl w) :
    Calls Tryz.prog 19 #[.int .i64 7] w fun e w' => e = .returned (.agg #[.int .i64 1, .int .i64 2, .int .i64 0, .string ⟨#[]⟩]) ∧ Below w.heap.size w w' := by
  have hA := Lib.hid ((Below.refl w.heap.size w).alloc (Nat.le_refl _) (.cells #[.int .i64 0, .int .i64 0, .int .i64 0, .string ⟨#[]⟩] 23))
  have C := Lib.hid (pw_2 _ (hg.below hA.out))
  go_enter Tryz.func19, Tryz.ntmps19
  go_wp2_with fail
  refine C.out.mono ?_
  rintro e w1 ⟨rfl, hb⟩
  obtain ⟨r0, r1, r2, r3, f0, f1, f2, f3⟩ := (zblk w).below hb (by simp)
  have hB := Lib.hid (hA.out.trans (hb.mono (by simp)))
  have Q := (Blk4.mk r0 r1 r2 r3 f0 f1 f2 f3).put (.int .i64 1) (.int .i64 2) (.int .i64 0) (.string ⟨#[]⟩)
  go_wp2
  exact ret_valP rfl rfl Q rfl ⟨rfl, below_put4 hB.out (Nat.le_refl _) _ _ _ _⟩
set_option maxRecDepth 100000 in
theorem first_8 (w : World) (hg : Gl w) :
    Calls Tryz.prog 19 #[.int .i64 8] w fun e w' => e = .returned (.agg #[.int .i64 1, .int .i64 2, .int .i64 0, .string ⟨#[]⟩]) ∧ Below w.heap.size w w' := by
  have hA := Lib.hid ((Below.refl w.heap.size w).alloc (Nat.le_refl _) (.cells #[.int .i64 0, .int .i64 0, .int .i64 0, .string ⟨#[]⟩] 23))
  have C := Lib.hid (pw_2 _ (hg.below hA.out))
  go_enter Tryz.func19, Tryz.ntmps19
  go_wp2_with fail
  refine C.out.mono ?_
  rintro e w1 ⟨rfl, hb⟩
  obtain ⟨r0, r1, r2, r3, f0, f1, f2, f3⟩ := (zblk w).below hb (by simp)
  have hB := Lib.hid (hA.out.trans (hb.mono (by simp)))
  have Q := (Blk4.mk r0 r1 r2 r3 f0 f1 f2 f3).put (.int .i64 1) (.int .i64 2) (.int .i64 0) (.string ⟨#[]⟩)
  go_wp2
  exact ret_valP rfl rfl Q rfl ⟨rfl, below_put4 hB.out (Nat.le_refl _) _ _ _ _⟩
set_option maxRecDepth 100000 in
theorem first_35 (w : World) (hg : Gl w) :
    Calls Tryz.prog 19 #[.int .i64 35] w fun e w' => e = .returned (.agg #[.int .i64 1, .int .i64 2, .int .i64 0, .string ⟨#[]⟩]) ∧ Below w.heap.size w w' := by
  have hA := Lib.hid ((Below.refl w.heap.size w).alloc (Nat.le_refl _) (.cells #[.int .i64 0, .int .i64 0, .int .i64 0, .string ⟨#[]⟩] 23))
  have C := Lib.hid (pw_2 _ (hg.below hA.out))
  go_enter Tryz.func19, Tryz.ntmps19
  go_wp2_with fail
  refine C.out.mono ?_
  rintro e w1 ⟨rfl, hb⟩
  obtain ⟨r0, r1, r2, r3, f0, f1, f2, f3⟩ := (zblk w).below hb (by simp)
  have hB := Lib.hid (hA.out.trans (hb.mono (by simp)))
  have Q := (Blk4.mk r0 r1 r2 r3 f0 f1 f2 f3).put (.int .i64 1) (.int .i64 2) (.int .i64 0) (.string ⟨#[]⟩)
  go_wp2
  exact ret_valP rfl rfl Q rfl ⟨rfl, below_put4 hB.out (Nat.le_refl _) _ _ _ _⟩
set_option maxRecDepth 100000 in
theorem first_edge (p : Int) (w : World) (_hg : Gl w) (h9 : 9 ≤ p) (hx : p < 21) (g6 : ¬ p ≤ 6) (g21 : (p == 21) = false) (g26 : (p == 26) = false) (g30 : (p == 30) = false) (g7 : (p == 7) = false) (g8 : (p == 8) = false) (g35 : (p == 35) = false) :
    Calls Tryz.prog 19 #[.int .i64 p] w fun e w' => e = .returned (.agg #[.int .i64 2, .int .i64 0, .int .i64 1, .string ⟨#[]⟩]) ∧ Below w.heap.size w w' := by
  have hA := Lib.hid ((Below.refl w.heap.size w).alloc (Nat.le_refl _) (.cells #[.int .i64 0, .int .i64 0, .int .i64 0, .string ⟨#[]⟩] 23))
  have C := Lib.hid (px_any 0 (w.alloc (.cells #[.int .i64 0, .int .i64 0, .int .i64 0, .string ⟨#[]⟩] 23)))
  go_enter Tryz.func19, Tryz.ntmps19
  go_wp2_with fail
  refine C.out.mono ?_
  rintro e w1 ⟨rfl, hb⟩
  obtain ⟨r0, r1, r2, r3, f0, f1, f2, f3⟩ := (zblk w).below hb (by simp)
  have hB := Lib.hid (hA.out.trans (hb.mono (by simp)))
  have Q := (Blk4.mk r0 r1 r2 r3 f0 f1 f2 f3).put (.int .i64 2) (.int .i64 0) (.int .i64 1) (.string ⟨#[]⟩)
  go_wp2
  exact ret_valP rfl rfl Q rfl ⟨rfl, below_put4 hB.out (Nat.le_refl _) _ _ _ _⟩
set_option maxRecDepth 100000 in
theorem first_22 (w : World) (hg : Gl w) :
    Calls Tryz.prog 19 #[.int .i64 22] w fun e w' => e = .returned (.agg #[.int .i64 1, .int .i64 10, .int .i64 0, .string ⟨#[]⟩]) ∧ Below w.heap.size w w' := by
  have hA := Lib.hid ((Below.refl w.heap.size w).alloc (Nat.le_refl _) (.cells #[.int .i64 0, .int .i64 0, .int .i64 0, .string ⟨#[]⟩] 23))
  have C := Lib.hid (pw_10 _ (hg.below hA.out))
  go_enter Tryz.func19, Tryz.ntmps19
  go_wp2_with fail
  refine C.out.mono ?_
  rintro e w1 ⟨rfl, hb⟩
  obtain ⟨r0, r1, r2, r3, f0, f1, f2, f3⟩ := (zblk w).below hb (by simp)
  have hB := Lib.hid (hA.out.trans (hb.mono (by simp)))
  have Q := (Blk4.mk r0 r1 r2 r3 f0 f1 f2 f3).put (.int .i64 1) (.int .i64 10) (.int .i64 0) (.string ⟨#[]⟩)
  go_wp2
  exact ret_valP rfl rfl Q rfl ⟨rfl, below_put4 hB.out (Nat.le_refl _) _ _ _ _⟩
set_option maxRecDepth 100000 in
theorem first_23 (w : World) (hg : Gl w) :
    Calls Tryz.prog 19 #[.int .i64 23] w fun e w' => e = .returned (.agg #[.int .i64 1, .int .i64 14, .int .i64 0, .string ⟨#[]⟩]) ∧ Below w.heap.size w w' := by
  have hA := Lib.hid ((Below.refl w.heap.size w).alloc (Nat.le_refl _) (.cells #[.int .i64 0, .int .i64 0, .int .i64 0, .string ⟨#[]⟩] 23))
  have C := Lib.hid (pw_14 _ (hg.below hA.out))
  go_enter Tryz.func19, Tryz.ntmps19
  go_wp2_with fail
  refine C.out.mono ?_
  rintro e w1 ⟨rfl, hb⟩
  obtain ⟨r0, r1, r2, r3, f0, f1, f2, f3⟩ := (zblk w).below hb (by simp)
  have hB := Lib.hid (hA.out.trans (hb.mono (by simp)))
  have Q := (Blk4.mk r0 r1 r2 r3 f0 f1 f2 f3).put (.int .i64 1) (.int .i64 14) (.int .i64 0) (.string ⟨#[]⟩)
  go_wp2
  exact ret_valP rfl rfl Q rfl ⟨rfl, below_put4 hB.out (Nat.le_refl _) _ _ _ _⟩
set_option maxRecDepth 100000 in
theorem first_24 (w : World) (_hg : Gl w) :
    Calls Tryz.prog 19 #[.int .i64 24] w fun e w' => e = .returned (.agg #[.int .i64 4, .int .i64 0, .int .i64 0, .string ⟨#[]⟩]) ∧ Below w.heap.size w w' := by
  have hA := Lib.hid ((Below.refl w.heap.size w).alloc (Nat.le_refl _) (.cells #[.int .i64 0, .int .i64 0, .int .i64 0, .string ⟨#[]⟩] 23))
  have C := Lib.hid (number_any 0 (w.alloc (.cells #[.int .i64 0, .int .i64 0, .int .i64 0, .string ⟨#[]⟩] 23)))
  go_enter Tryz.func19, Tryz.ntmps19
  go_wp2_with fail
  refine C.out.mono ?_
  rintro e w1 ⟨rfl, hb⟩
  obtain ⟨r0, r1, r2, r3, f0, f1, f2, f3⟩ := (zblk w).below hb (by simp)
  have hB := Lib.hid (hA.out.trans (hb.mono (by simp)))
  have Q := (Blk4.mk r0 r1 r2 r3 f0 f1 f2 f3).put (.int .i64 4) (.int .i64 0) (.int .i64 0) (.string ⟨#[]⟩)
  go_wp2
  exact ret_valP rfl rfl Q rfl ⟨rfl, below_put4 hB.out (Nat.le_refl _) _ _ _ _⟩
set_option maxRecDepth 100000 in
theorem first_27 (w : World) (_hg : Gl w) :
    Calls Tryz.prog 19 #[.int .i64 27] w fun e w' => e = .returned (.agg #[.int .i64 4, .int .i64 0, .int .i64 0, .string ⟨#[]⟩]) ∧ Below w.heap.size w w' := by
  have hA := Lib.hid ((Below.refl w.heap.size w).alloc (Nat.le_refl _) (.cells #[.int .i64 0, .int .i64 0, .int .i64 0, .string ⟨#[]⟩] 23))
  have C := Lib.hid (number_any 0 (w.alloc (.cells #[.int .i64 0, .int .i64 0, .int .i64 0, .string ⟨#[]⟩] 23)))
  go_enter Tryz.func19, Tryz.ntmps19
  go_wp2_with fail
  refine C.out.mono ?_
  rintro e w1 ⟨rfl, hb⟩
  obtain ⟨r0, r1, r2, r3, f0, f1, f2, f3⟩ := (zblk w).below hb (by simp)
  have hB := Lib.hid (hA.out.trans (hb.mono (by simp)))
  have Q := (Blk4.mk r0 r1 r2 r3 f0 f1 f2 f3).put (.int .i64 4) (.int .i64 0) (.int .i64 0) (.string ⟨#[]⟩)
  go_wp2
  exact ret_valP rfl rfl Q rfl ⟨rfl, below_put4 hB.out (Nat.le_refl _) _ _ _ _⟩
set_option maxRecDepth 100000 in
theorem first_lo (p : Int) (w : World) (hg : Gl w) (h1 : p ≠ 1) (h2 : p ≠ 2) (h7 : p ≠ 7) (h8 : p ≠ 8) (h21 : p ≠ 21) (h22 : p ≠ 22) (h23 : p ≠ 23) (h24 : p ≠ 24) (h26 : p ≠ 26) (h27 : p ≠ 27) (h30 : p ≠ 30) (h35 : p ≠ 35) (hz : p < 3) (g21 : (p == 21) = false) (g26 : (p == 26) = false) (g30 : (p == 30) = false) (g7 : (p == 7) = false) (g8 : (p == 8) = false) (g35 : (p == 35) = false) (g24 : (p == 24) = false) (g27 : (p == 27) = false) :
    Calls Tryz.prog 19 #[.int .i64 p] w fun e w' => e = .returned (valV (laterM p)) ∧ Below w.heap.size w w' := by
  have hA := Lib.hid ((Below.refl w.heap.size w).alloc (Nat.le_refl _) (.cells #[.int .i64 0, .int .i64 0, .int .i64 0, .string ⟨#[]⟩] 23))
  have C := later_any p _ (hg.below hA.out)
  unfold valV at C
  have C := Lib.hid C
  unfold valV
  generalize laterM p = v at *
  go_enter Tryz.func19, Tryz.ntmps19
  go_wp2_with fail
  refine C.out.mono ?_
  rintro e w1 ⟨rfl, hb⟩
  obtain ⟨r0, r1, r2, r3, f0, f1, f2, f3⟩ := (zblk w).below hb (by simp)
  have hB := Lib.hid (hA.out.trans (hb.mono (by simp)))
  have Q := (Blk4.mk r0 r1 r2 r3 f0 f1 f2 f3).put (.int .i64 v.kind) (.int .i64 v.n) (.int .i64 v.d) (.string (bs v.name))
  go_wp2
  exact ret_valP rfl rfl Q rfl ⟨rfl, below_put4 hB.out (Nat.le_refl _) _ _ _ _⟩
set_option maxRecDepth 100000 in
theorem first_hi (p : Int) (w : World) (hg : Gl w) (_h1 : p ≠ 1) (_h2 : p ≠ 2) (_h7 : p ≠ 7) (_h8 : p ≠ 8) (_h21 : p ≠ 21) (h22 : p ≠ 22) (h23 : p ≠ 23) (h24 : p ≠ 24) (h26 : p ≠ 26) (h27 : p ≠ 27) (h30 : p ≠ 30) (h35 : p ≠ 35) (hz : 21 ≤ p) (g6 : decide (p ≤ 6) = false) (g22 : decide (p < 21) = false) (g21 : (p == 21) = false) (g26 : (p == 26) = false) (g30 : (p == 30) = false) (g7 : (p == 7) = false) (g8 : (p == 8) = false) (g35 : (p == 35) = false) (g24 : (p == 24) = false) (g27 : (p == 27) = false) :
    Calls Tryz.prog 19 #[.int .i64 p] w fun e w' => e = .returned (valV (laterM p)) ∧ Below w.heap.size w w' := by
  have hA := Lib.hid ((Below.refl w.heap.size w).alloc (Nat.le_refl _) (.cells #[.int .i64 0, .int .i64 0, .int .i64 0, .string ⟨#[]⟩] 23))
  have C := later_any p _ (hg.below hA.out)
  unfold valV at C
  have C := Lib.hid C
  unfold valV
  generalize laterM p = v at *
  go_enter Tryz.func19, Tryz.ntmps19
  go_wp2_with fail
  refine C.out.mono ?_
  rintro e w1 ⟨rfl, hb⟩
  obtain ⟨r0, r1, r2, r3, f0, f1, f2, f3⟩ := (zblk w).below hb (by simp)
  have hB := Lib.hid (hA.out.trans (hb.mono (by simp)))
  have Q := (Blk4.mk r0 r1 r2 r3 f0 f1 f2 f3).put (.int .i64 v.kind) (.int .i64 v.n) (.int .i64 v.d) (.string (bs v.name))
  go_wp2
  exact ret_valP rfl rfl Q rfl ⟨rfl, below_put4 hB.out (Nat.le_refl _) _ _ _ _⟩
/-- a property's value at first. -/
theorem first_any (p : Int) (w : World) (hg : Gl w) :
    Calls Tryz.prog 19 #[.int .i64 p] w fun e w' => e = .returned (valV (firstM p)) ∧ Below w.heap.size w w' := by
  by_cases h1 : p = 1
  · subst h1; exact first_1 w hg
  by_cases h2 : p = 2
  · subst h2; exact first_2 w hg
  by_cases h7 : p = 7
  · subst h7; exact first_7 w hg
  by_cases h8 : p = 8
  · subst h8; exact first_8 w hg
  by_cases h21 : p = 21
  · subst h21; exact first_21 w hg
  by_cases h22 : p = 22
  · subst h22; exact first_22 w hg
  by_cases h23 : p = 23
  · subst h23; exact first_23 w hg
  by_cases h24 : p = 24
  · subst h24; exact first_24 w hg
  by_cases h26 : p = 26
  · subst h26; exact first_26 w hg
  by_cases h27 : p = 27
  · subst h27; exact first_27 w hg
  by_cases h30 : p = 30
  · subst h30; exact first_30 w hg
  by_cases h35 : p = 35
  · subst h35; exact first_35 w hg
  by_cases hs : 3 ≤ p ∧ p ≤ 6
  · have e : firstM p = wdV 1 := by unfold firstM; rw [if_neg h1, if_neg h2, if_pos (Or.inl hs)]
    rw [e]; exact first_size p w hg hs.1 hs.2
  by_cases he : 9 ≤ p ∧ p < 21
  · have e : firstM p = pxV 0 := by unfold firstM; rw [if_neg h1, if_neg h2, if_neg (by omega), if_neg (by omega), if_pos he]
    rw [e]; exact first_edge p w hg he.1 he.2 (by omega) (by simp; omega) (by simp; omega) (by simp; omega) (by simp; omega) (by simp; omega) (by simp; omega)
  have e : firstM p = laterM p := by unfold firstM; rw [if_neg h1, if_neg h2, if_neg (by omega), if_neg (by omega), if_neg he, if_neg h22, if_neg h23, if_neg (by omega)]
  rw [e]
  by_cases hz : p < 3
  · exact first_lo p w hg h1 h2 h7 h8 h21 h22 h23 h24 h26 h27 h30 h35 hz (by simp; omega) (by simp; omega) (by simp; omega) (by simp; omega) (by simp; omega) (by simp; omega) (by simp; omega) (by simp; omega)
  · exact first_hi p w hg h1 h2 h7 h8 h21 h22 h23 h24 h26 h27 h30 h35 (by omega) (by simp; omega) (by simp; omega) (by simp; omega) (by simp; omega) (by simp; omega) (by simp; omega) (by simp; omega) (by simp; omega) (by simp; omega) (by simp; omega)
end Go.Proofs.YtikhghmnclpigaaGreatDoor
