/-
  The walks of layer 18's laws WordsSplit and WordsAdvance, and of what they lean on (few, known).
-/
import Derived.Test.YtflakidnjchhhaaDoorWordsG
namespace Go.Proofs.YtflakidnjchhhaaDoor
open Go.RowKit Wsc
theorem few_any (s : ByteArray) (w : World) :
    Calls Tryd.prog 9 #[.string s] w fun e w' => e = .returned (.bool (decide (s.size ≤ 300))) ∧ w = w' := by
  go_enter Tryd.func9, Tryd.ntmps9
  go_wp2
  go_ret
  exact ⟨ret_b (by by_cases h : s.size ≤ 300 <;> simp [h] <;> omega), rfl⟩
theorem abcd : words [97, 98, 32, 99, 100] = [[97, 98], [99, 100]] := by decide
theorem known_any (w : World) (hg : Gl w) :
    Calls Tryd.prog 10 #[] w fun e w' => e = .returned (.bool true) ∧ Below w.heap.size w w' := by
  have X := extremes_any ⟨#[97, 98, 32, 99, 100]⟩ 1000 w hg (by decide)
  rw [show words (ByteArray.data ⟨#[97, 98, 32, 99, 100]⟩).toList = [[97, 98], [99, 100]] from abcd] at X
  rw [show least 1000 [[97, 98], [99, 100]] = 1000 by decide, show width [[97, 98], [99, 100]] 1000 = 2250 by decide] at X
  have X := Lib.hid X
  have T := fun ww => tall_any 2 1000 1200 ww
  have T := Lib.hid T
  rw [show tall 2 1000 1200 = 2400 by decide] at T
  go_enter Tryd.func10, Tryd.ntmps10
  go_wp2_with fail
  refine X.out.mono ?_
  rintro e w1 ⟨rfl, hb1⟩
  have B := break_any ⟨#[97, 98, 32, 99, 100]⟩ 1000 2000 w1 (hg.below hb1) (by decide)
  rw [show words (ByteArray.data ⟨#[97, 98, 32, 99, 100]⟩).toList = [[97, 98], [99, 100]] from abcd] at B
  rw [show brk [[97, 98], [99, 100]] 1000 (hold 2000) = [(0, 1, 1000), (1, 2, 1000)] by decide] at B
  have B := Lib.hid B
  go_wp2_with fail
  refine B.out.mono ?_
  rintro e w2 ⟨v, rfl, hown, hb2⟩
  obtain ⟨a, c, rfl, _, _, _⟩ := SlAt.owns hown
  go_wp2_with (first | (go_at_call 22; refine (T.out _).mono ?_; rintro e w' ⟨rfl, rfl⟩))
  go_ret
  exact ⟨rfl, hb1.trans (hb2.mono hb1.size)⟩
theorem wordsAdvance_walk (n : Int) (w : World) (hg : Gl w) :
    Calls Tryd.prog 4 #[.int .u8 n] w fun e w' => e = .returned (.bool true) ∧ Below w.heap.size w w' := by
  go_enter Tryd.func4, Tryd.ntmps4
  go_wp2_with (first
    | (go_at_call 16; refine (adv_any _ _).mono ?_; rintro e w' ⟨rfl, rfl⟩)
    | (go_at_call 17; refine (refAdv_any _ _).mono ?_; rintro e w' ⟨rfl, rfl⟩)
    | (go_at_call 10; refine (known_any _ hg).mono ?_; rintro e w1 ⟨rfl, hb1⟩))
  go_ret
  exact ⟨rfl, by assumption⟩
theorem one_new (w : World) (s : ByteArray) (t : TypeId) : SlAt (w.alloc (.cells #[.string s] t)) (.slice (some ⟨w.heap.size, 0, none⟩) 1 1) [s.data.toList].length (strs [s.data.toList]) := by
  have := SlAt.new w [.string s] 1 1 t (Nat.le_refl _) (by decide)
  rw [show strs [s.data.toList] = [.string s] by simp [strs, bs_of]]
  exact this
theorem wordsSplit_walk (s : ByteArray) (font : Int) (w : World) (hg : Gl w) (hsm : s.size ≤ maxLen) :
    Calls Tryd.prog 3 #[.string s, .int .i64 font] w fun e w' => e = .returned (.bool true) ∧ Below w.heap.size w w' := by
  unfold maxLen at hsm
  by_cases hs : s.size ≤ 300
  · have hwt := words_tot s.data.toList
    rw [show s.data.toList.length = s.size from by simp] at hwt
    have S1 := Lib.hid (split_any s w hg (by omega))
    have S2 := fun ww => refSplit_any s ww (by omega)
    have S2 := Lib.hid S2
    generalize words s.data.toList = xs at *
    go_enter Tryd.func3, Tryd.ntmps3
    go_wp2_with (first | (go_at_call 9; refine (few_any _ _).mono ?_; rintro e w' ⟨rfl, rfl⟩))
    refine S1.out.mono ?_
    rintro e w1 ⟨v1, rfl, hown1, hb1⟩
    have hv1 := SlAt.owns hown1
    obtain ⟨a1, c1, rfl, _, _, _⟩ := id hv1
    go_wp2_with fail
    refine (S2.out _).mono ?_
    rintro e w2 ⟨v2, rfl, hown2, hb2⟩
    have hv2 := SlAt.owns hown2
    have hv1' := hv1.below hb2
    go_wp2_with fail
    refine (sameTexts_any _ _ xs xs _ hv1' hv2).mono ?_
    rintro e w3 ⟨rfl, hb3⟩
    rw [show decide (xs = xs) = true from decide_eq_true rfl]
    have hv1'' := hv1'.below hb3
    go_wp2_with fail
    refine (width_any _ xs font _ hv1'' (by omega)).mono ?_
    rintro e w4 ⟨rfl, hb4⟩
    have hv4 := hv1''.below hb4
    have W := refWidth_any _ xs 0 xs.length font w4 hv4 (by omega) (by omega) (by omega)
    rw [sub_all xs, show ((0 : Nat) : Int) = 0 from rfl] at W
    have W := Lib.hid W
    go_wp2_with fail
    refine W.out.mono ?_
    rintro e w5 ⟨rfl, rfl⟩
    go_wp2_with fail
    have hn6 := one_new w4 s 9
    have W6 := Lib.hid (width_any _ [s.data.toList] font _ hn6 (by simp [tot]; omega))
    refine W6.out.mono ?_
    rintro e w6 ⟨rfl, hb6⟩
    go_wp2_with fail
    have hn7 := one_new w6 s 9
    have W7 := refWidth_any _ [s.data.toList] 0 1 font _ hn7 (by simp [tot]; omega) (by omega) (by simp)
    rw [show sub [s.data.toList] 0 1 = [s.data.toList] from sub_all [s.data.toList], show ((0 : Nat) : Int) = 0 from rfl, show ((1 : Nat) : Int) = 1 from rfl] at W7
    have W7 := Lib.hid W7
    refine W7.out.mono ?_
    rintro e w7 ⟨rfl, rfl⟩
    have H5 : Below w.heap.size w (w6.alloc (.cells #[.string s] 9)) := by
      have g1 := hb1.size; have g2 := hb2.size; have g3 := hb3.size; have g4 := hb4.size; have g6 := hb6.size
      simp at g6
      refine Below.alloc ?_ (by omega) _
      refine (((hb1.trans (hb2.mono g1)).trans (hb3.mono (by omega))).trans (hb4.mono (by omega))).trans ?_
      exact ((Below.refl w.heap.size w4).alloc (by omega) _).trans (hb6.mono (by simp; omega))
    go_wp2_with fail
    have K := Lib.hid (known_any _ (hg.below H5))
    refine K.out.mono ?_
    rintro e w8 ⟨rfl, hb8⟩
    go_wp2
    go_ret
    exact ⟨rfl, H5.trans (hb8.mono H5.size)⟩
  · go_enter Tryd.func3, Tryd.ntmps3
    go_wp2_with (first
      | (go_at_call 9; refine (few_any _ _).mono ?_; rintro e w' ⟨rfl, rfl⟩)
      | (go_at_call 10; refine (known_any _ hg).mono ?_; rintro e w1 ⟨rfl, hb1⟩))
    go_ret
    exact ⟨rfl, by assumption⟩
end Go.Proofs.YtflakidnjchhhaaDoor
