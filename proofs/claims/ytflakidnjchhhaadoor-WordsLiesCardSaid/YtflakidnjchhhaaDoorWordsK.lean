/-
  The walk of layer 18's law WordsLies.
-/
import Derived.Test.YtflakidnjchhhaaDoorWordsJ
namespace Go.Proofs.YtflakidnjchhhaaDoor
open Go.RowKit Wsc
/-- Width of texts out of a slice, from one on up to another one. -/
theorem width_sub (b o c p q : Nat) (xs : List (List UInt8)) (font : Int) (w : World) (hb : b < w.heap.size) (hpq : p ≤ q) (hq : q ≤ xs.length) (h1 : q - p ≤ c) (hc : c ≤ maxLen) (hC : CellsAt w b o (strs xs)) (hl : tot xs + xs.length ≤ 1099511627776) :
    Calls Tryd.prog 14 #[.slice (some ⟨b, o + p, none⟩) (q - p) c, .int .i64 font] w fun e w' => e = .returned (.int .i64 (width (sub xs p q) font)) ∧ Below w.heap.size w w' := by
  have hlen := sub_length xs p q hq
  rw [← hlen]
  refine width_any _ (sub xs p q) font w ⟨_, c, rfl, by omega, hc, Or.inr ⟨b, o + p, rfl, hb, fun i u hu => ?_⟩⟩ (by have := tot_sub_le xs p q; omega)
  have hi : i < q - p := by
    have := (List.getElem?_eq_some_iff.1 hu).1
    rw [strs_length, hlen] at this; exact this
  rw [Nat.add_assoc]
  refine hC (p + i) u ?_
  rw [← hu, strs, strs, List.getElem?_map, List.getElem?_map]
  congr 1
  rw [sub, List.getElem?_take_of_lt hi, List.getElem?_drop]
set_option maxRecDepth 100000 in
set_option maxHeartbeats 1000000 in
theorem wordsLies_walk (s : ByteArray) (font room : Int) (w : World) (hg : Gl w) (hsm : s.size ≤ maxLen) :
    Calls Tryd.prog 6 #[.string s, .int .i64 font, .int .i64 room] w fun e w' => e = .returned (.bool true) ∧ Below w.heap.size w w' := by
  unfold maxLen at hsm
  have K := Lib.hid (law_known w w hg (Below.refl _ _))
  by_cases hs : s.size ≤ 300 ∧ -1073741824 ≤ room ∧ room ≤ 1073741824
  · obtain ⟨hs, hr1, hr2⟩ := hs
    have S1 := Lib.hid (split_any s w hg (by omega))
    have B1 := fun ww h => break_any s font room ww h (by omega)
    rw [hold_id room ⟨hr1, hr2⟩] at B1
    have B1 := Lib.hid B1
    have hlen := brk_length_le (words s.data.toList) font room
    have L := Lib.hid (brk_line (words s.data.toList) font room)
    have LE := Lib.hid (brk_end (words s.data.toList) font room)
    have hwt := words_tot s.data.toList
    rw [show s.data.toList.length = s.size from by simp] at hwt
    generalize brk (words s.data.toList) font room = ls at *
    generalize words s.data.toList = xs at *
    go_enter Tryd.func6, Tryd.ntmps6
    go_wp2_with (first
      | (go_at_call 9; refine (few_any _ _).mono ?_; rintro e w' ⟨rfl, rfl⟩))
    refine S1.out.mono ?_
    rintro e w1 ⟨v1, rfl, hown1, hb1⟩
    have hv1 := SlAt.owns hown1
    obtain ⟨a1, c1, rfl, hc1, hm1, hcase1⟩ := id hv1
    clear hown1 hv1
    have hm1' := hm1
    unfold maxLen at hm1'
    go_wp2_with fail
    refine (B1.out _ (hg.below hb1)).mono ?_
    rintro e w2 ⟨v2, rfl, hown2, hb2⟩
    obtain ⟨a2, c2, rfl, hc2, hm2, _⟩ := SlAt.owns hown2
    unfold maxLen at hm2
    have hb12 := hb1.trans (hb2.mono hb1.size)
    have hsl : 0 < ls.length → ∃ g, a2 = some ⟨g, 0, none⟩ ∧ g < w2.heap.size ∧ ∀ i (hi : i < ls.length), LnCells w2 g i ls[i] := fun h0 => by
      obtain ⟨g, cap, he, _, hg, _⟩ := ownsRow_pos hown2 h0
      simp at he
      obtain ⟨rfl, rfl⟩ := he
      exact ⟨g, rfl, hg, fun i hi => lnCells hown2 i hi⟩
    have hsl := Lib.hid hsl
    have hsx : 0 < xs.length → ∃ b o, a1 = some ⟨b, o, none⟩ ∧ b < w2.heap.size ∧ CellsAt w2 b o (strs xs) := fun h0 => by
      rcases hcase1 with ⟨h, _⟩ | ⟨b, o, h, hB, hC⟩
      · omega
      · exact ⟨b, o, h, Nat.lt_of_lt_of_le hB hb2.size, hC.below hb2 hB⟩
    have hsx := Lib.hid hsx
    clear hown2 hcase1
    go_wp2
    go_loopw [9, 10] (fun at_ i wr => ∃ k : Nat, k ≤ ls.length ∧ i = .int .i64 k ∧ at_ = .int .i64 (endAt ls k) ∧ Below w2.heap.size w2 wr) (fun _ i _ => ls.length - (intOf i).toNat)
    case atStart => exact ⟨0, Nat.zero_le _, rfl, rfl, Below.refl _ _⟩
    case round =>
      obtain ⟨k, hk, rfl, rfl, hbl⟩ := hrel
      by_cases hlt : k < ls.length
      · obtain ⟨g, rfl, hg2, hcl⟩ := hsl.out (by omega)
        obtain ⟨q0, q1, q2⟩ := (hcl k hlt).below hbl hg2
        have E := Lib.hid (endAt_succ ls k hlt)
        obtain ⟨l1, l2, l3, l4, l5, l6⟩ := L.out k hlt
        obtain ⟨b, o, rfl, hB, hC⟩ := hsx.out (by omega)
        clear hcl
        generalize ls[k] = x at *
        obtain ⟨x0, x1, x2⟩ := x
        simp only at q0 q1 q2 l1 l2 l3 l4 l5 l6 E
        rw [← l1]
        clear l1 l5
        have e0 : ((x0 : Int) != (x0 : Int)) = false := by simp
        by_cases hone : 1 < x1 - x0
        all_goals
          first | have hfit := l4 hone | skip
          clear l4
          by_cases hend : x1 < xs.length
          · have hno := l6 hend
            have hsz := hbl.size
            have W := Lib.hid (width_sub b o (c1 - x0) x0 (x1 + 1) xs font wr (by omega) (by omega) (by omega) (by omega) (by omega) (hC.below hbl hB) (by omega))
            clear l6 hC
            go_wp2_with fail
            refine W.out.mono ?_
            rintro e w3 ⟨rfl, hb3⟩
            go_wp2
            go_roundw
            case rel => exact ⟨k + 1, by omega, by go_num, by rw [E.out], hbl.trans (hb3.mono hsz)⟩
            case measure => simp [intOf]; omega
          · clear l6 hC
            go_wp2
            go_roundw
            case rel => exact ⟨k + 1, by omega, by go_num, by rw [E.out], hbl⟩
            case measure => simp [intOf]; omega
      · have K2 := Lib.hid (law_known w wr hg (hb12.trans (hbl.mono hb12.size)))
        have e1 : endAt ls k = xs.length := (endAt_all ls k hlt).trans LE.out
        rw [e1]
        have hll : ((xs.length : Int) == (xs.length : Int)) = true := by simp
        clear e1
        go_wp2_with (first
          | (go_at_call 10; refine K2.out.mono ?_; rintro e w5 ⟨rfl, hb5⟩))
        go_ret
        exact ⟨rfl, by assumption⟩
  · by_cases h1 : s.size ≤ 300
    · by_cases h2 : 1073741824 < room
      · clear hs
        go_enter Tryd.func6, Tryd.ntmps6
        go_wp2_with (first
          | (go_at_call 9; refine (few_any _ _).mono ?_; rintro e w' ⟨rfl, rfl⟩)
          | (go_at_call 10; refine K.out.mono ?_; rintro e w1 ⟨rfl, hb1⟩))
        go_ret
        exact ⟨rfl, by assumption⟩
      · have h3 : room < -1073741824 := by omega
        clear hs
        go_enter Tryd.func6, Tryd.ntmps6
        go_wp2_with (first
          | (go_at_call 9; refine (few_any _ _).mono ?_; rintro e w' ⟨rfl, rfl⟩)
          | (go_at_call 10; refine K.out.mono ?_; rintro e w1 ⟨rfl, hb1⟩))
        go_ret
        exact ⟨rfl, by assumption⟩
    · clear hs
      go_enter Tryd.func6, Tryd.ntmps6
      go_wp2_with (first
        | (go_at_call 9; refine (few_any _ _).mono ?_; rintro e w' ⟨rfl, rfl⟩)
        | (go_at_call 10; refine K.out.mono ?_; rintro e w1 ⟨rfl, hb1⟩))
      go_ret
      exact ⟨rfl, by assumption⟩
end Go.Proofs.YtflakidnjchhhaaDoor
