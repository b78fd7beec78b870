/-
  The walk of law09.ValueWords.
-/
import Derived.Test.YthlkgkjkjpboiaaDoorValF
namespace Go.Proofs.YthlkgkjkjpboiaaDoor
open Go.RowKit Wsc
theorem words_c (w : World) : Calls Tryd.prog 8 #[] w fun e w' => (∃ a c, e = .returned (.slice a 31 c) ∧ SlAt w' (.slice a 31 c) 31 (strs wordsL)) ∧ Below w.heap.size w w' := by
  have := refWords_any w
  rw [wordsL_length] at this
  exact this
theorem units_c (w : World) : Calls Tryd.prog 12 #[] w fun e w' => (∃ a c, e = .returned (.slice a 9 c) ∧ SlAt w' (.slice a 9 c) 9 (strs unitsL)) ∧ Below w.heap.size w w' := by
  have := refUnits_any w
  rw [unitsL_length] at this
  exact this
theorem place_w (a : Option Addr) (c : Nat) (s : ByteArray) (w : World) (hv : SlAt w (.slice a 31 c) 31 (strs wordsL)) : Calls Tryd.prog 10 #[.slice a 31 c, .string s] w fun e w' => e = .returned (.int .i64 (placeL wordsL s.data.toList)) ∧ w = w' := by
  have := refPlace_any a c wordsL s w
  rw [wordsL_length] at this
  exact this hv
theorem place_u (a : Option Addr) (c : Nat) (s : ByteArray) (w : World) (hv : SlAt w (.slice a 9 c) 9 (strs unitsL)) : Calls Tryd.prog 10 #[.slice a 9 c, .string s] w fun e w' => e = .returned (.int .i64 (placeL unitsL s.data.toList)) ∧ w = w' := by
  have := refPlace_any a c unitsL s w
  rw [unitsL_length] at this
  exact this hv
set_option maxRecDepth 100000 in
set_option maxHeartbeats 1000000 in
theorem valueWords_walk (s : ByteArray) (n : Int) (w : World) (hg : Gl w) (hs : s.size ≤ maxLen) :
    Calls Tryd.prog 3 #[.string s, .int .i64 n] w fun e w' => e = .returned (.bool true) ∧ Below w.heap.size w w' := by
  have HB0 := Lib.hid (Below.refl w.heap.size w)
  by_cases h1 : 1 ≤ n
  · by_cases h2 : n ≤ 30
    · obtain ⟨k, rfl⟩ := Int.eq_ofNat_of_zero_le (show 0 ≤ n by omega)
      have hk : k < wordsL.length := by rw [wordsL_length]; omega
      have e : atL wordsL k = wordsL[k] := by
        unfold atL; rw [if_pos ⟨h1, by omega⟩, Int.toNat_natCast, List.getD_eq_getElem?_getD, List.getElem?_eq_getElem hk]; rfl
      have e2 : ((bs (atL wordsL k)).toList == (bs wordsL[k]).toList) = true := by rw [e]; simp
      have e3 := Lib.hid e
      clear e
      go_enter Tryd.func3, Tryd.ntmps3
      go_wp2_with fail
      refine (words_c _).mono ?_
      rintro e w0 ⟨⟨a0, c0, rfl, hv0⟩, hb⟩
      have HBA := Lib.hid (HB0.out.trans (hb.mono HB0.out.size))
      clear hb
      obtain ⟨aa, cc, ee, hn0, hm0, hcase⟩ := hv0
      simp at ee
      obtain ⟨rfl, rfl⟩ := ee
      rcases hcase with ⟨h0, _⟩ | ⟨b0, o0, rfl, hB0, hC0⟩
      · omega
      have hcell := strs_get hC0 k hk
      have hC2 := Lib.hid hC0
      clear hC0
      generalize hxk : wordsL[k] = xk at *
      have HXK := Lib.hid hxk
      clear hxk
      unfold maxLen at hm0
      go_wp2_with fail
      refine (word_any s _ (hg.below HBA.out)).mono ?_
      rintro e w1 ⟨rfl, hb⟩
      have HB1 := Lib.hid (HBA.out.trans (hb.mono HBA.out.size))
      clear hb
      go_wp2_with fail
      refine (words_c _).mono ?_
      rintro e w2 ⟨⟨a, c, rfl, hv⟩, hb⟩
      have HB2 := Lib.hid (HB1.out.trans (hb.mono HB1.out.size))
      clear hb
      go_wp2_with fail
      refine (place_w a c s _ hv).mono ?_
      rintro e w' ⟨rfl, rfl⟩
      clear hv
      go_wp2_with fail
      refine (unit_any s _ (hg.below HB2.out)).mono ?_
      rintro e w3 ⟨rfl, hb⟩
      have HB3 := Lib.hid (HB2.out.trans (hb.mono HB2.out.size))
      clear hb
      go_wp2_with fail
      refine (units_c _).mono ?_
      rintro e w4 ⟨⟨a2, c2, rfl, hv⟩, hb⟩
      have HB4 := Lib.hid (HB3.out.trans (hb.mono HB3.out.size))
      clear hb
      go_wp2_with fail
      refine (place_u a2 c2 s _ hv).mono ?_
      rintro e w' ⟨rfl, rfl⟩
      clear hv
      go_wp2_with fail
      refine (text_any _ _ (hg.below HB4.out)).mono ?_
      rintro e w5 ⟨rfl, hb⟩
      have HB5 := Lib.hid (HB4.out.trans (hb.mono HB4.out.size))
      clear hb
      go_wp2_with fail
      refine (known_any _ (hg.below HB5.out)).mono ?_
      rintro e w6 ⟨rfl, hb⟩
      have HB6 := Lib.hid (HB5.out.trans (hb.mono HB5.out.size))
      clear hb
      go_wp2
      go_ret
      exact ⟨rfl, HB6.out⟩
    · have e : atL wordsL n = [] := (atL_words n).2 (by omega)
      have e2 : ((bs (atL wordsL n)).toList == ([] : List UInt8)) = true := by rw [e, bs_toList]; rfl
      have e3 := Lib.hid e
      clear e
      go_enter Tryd.func3, Tryd.ntmps3
      go_wp2_with fail
      refine (word_any s _ (hg.below HB0.out)).mono ?_
      rintro e w1 ⟨rfl, hb⟩
      have HB1 := Lib.hid (HB0.out.trans (hb.mono HB0.out.size))
      clear hb
      go_wp2_with fail
      refine (words_c _).mono ?_
      rintro e w2 ⟨⟨a, c, rfl, hv⟩, hb⟩
      have HB2 := Lib.hid (HB1.out.trans (hb.mono HB1.out.size))
      clear hb
      go_wp2_with fail
      refine (place_w a c s _ hv).mono ?_
      rintro e w' ⟨rfl, rfl⟩
      clear hv
      go_wp2_with fail
      refine (unit_any s _ (hg.below HB2.out)).mono ?_
      rintro e w3 ⟨rfl, hb⟩
      have HB3 := Lib.hid (HB2.out.trans (hb.mono HB2.out.size))
      clear hb
      go_wp2_with fail
      refine (units_c _).mono ?_
      rintro e w4 ⟨⟨a2, c2, rfl, hv⟩, hb⟩
      have HB4 := Lib.hid (HB3.out.trans (hb.mono HB3.out.size))
      clear hb
      go_wp2_with fail
      refine (place_u a2 c2 s _ hv).mono ?_
      rintro e w' ⟨rfl, rfl⟩
      clear hv
      go_wp2_with fail
      refine (text_any _ _ (hg.below HB4.out)).mono ?_
      rintro e w5 ⟨rfl, hb⟩
      have HB5 := Lib.hid (HB4.out.trans (hb.mono HB4.out.size))
      clear hb
      go_wp2_with fail
      refine (known_any _ (hg.below HB5.out)).mono ?_
      rintro e w6 ⟨rfl, hb⟩
      have HB6 := Lib.hid (HB5.out.trans (hb.mono HB5.out.size))
      clear hb
      go_wp2
      go_ret
      exact ⟨rfl, HB6.out⟩
  · have e : atL wordsL n = [] := (atL_words n).2 (by omega)
    have e2 : ((bs (atL wordsL n)).toList == ([] : List UInt8)) = true := by rw [e, bs_toList]; rfl
    have e3 := Lib.hid e
    clear e
    go_enter Tryd.func3, Tryd.ntmps3
    go_wp2_with fail
    refine (word_any s _ (hg.below HB0.out)).mono ?_
    rintro e w1 ⟨rfl, hb⟩
    have HB1 := Lib.hid (HB0.out.trans (hb.mono HB0.out.size))
    clear hb
    go_wp2_with fail
    refine (words_c _).mono ?_
    rintro e w2 ⟨⟨a, c, rfl, hv⟩, hb⟩
    have HB2 := Lib.hid (HB1.out.trans (hb.mono HB1.out.size))
    clear hb
    go_wp2_with fail
    refine (place_w a c s _ hv).mono ?_
    rintro e w' ⟨rfl, rfl⟩
    clear hv
    go_wp2_with fail
    refine (unit_any s _ (hg.below HB2.out)).mono ?_
    rintro e w3 ⟨rfl, hb⟩
    have HB3 := Lib.hid (HB2.out.trans (hb.mono HB2.out.size))
    clear hb
    go_wp2_with fail
    refine (units_c _).mono ?_
    rintro e w4 ⟨⟨a2, c2, rfl, hv⟩, hb⟩
    have HB4 := Lib.hid (HB3.out.trans (hb.mono HB3.out.size))
    clear hb
    go_wp2_with fail
    refine (place_u a2 c2 s _ hv).mono ?_
    rintro e w' ⟨rfl, rfl⟩
    clear hv
    go_wp2_with fail
    refine (text_any _ _ (hg.below HB4.out)).mono ?_
    rintro e w5 ⟨rfl, hb⟩
    have HB5 := Lib.hid (HB4.out.trans (hb.mono HB4.out.size))
    clear hb
    go_wp2_with fail
    refine (known_any _ (hg.below HB5.out)).mono ?_
    rintro e w6 ⟨rfl, hb⟩
    have HB6 := Lib.hid (HB5.out.trans (hb.mono HB5.out.size))
    clear hb
    go_wp2
    go_ret
    exact ⟨rfl, HB6.out⟩
end Go.Proofs.YthlkgkjkjpboiaaDoor
