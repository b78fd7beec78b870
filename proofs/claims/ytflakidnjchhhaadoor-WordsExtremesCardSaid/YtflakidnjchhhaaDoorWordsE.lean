/-
  The walks of Extremes and of the reference's Extremes.
-/
import Derived.Test.YtflakidnjchhhaaDoorWordsD
namespace Go.Proofs.YtflakidnjchhhaaDoor
open Go.RowKit Wsc
theorem ret_ii {a b c d : Int} (h : a = b) (h2 : c = d) : Ending.returned (.tuple #[.int .i64 a, .int .i64 c]) = .returned (.tuple #[.int .i64 b, .int .i64 d]) := by rw [h, h2]
/-- Width of one text out of a slice. -/
theorem width_piece (b o c : Nat) (x : List UInt8) (font : Int) (w : World) (hb : b < w.heap.size) (h1 : 1 ≤ c) (hc : c ≤ maxLen) (hcell : w.cell? ⟨b, o, none⟩ = some (.string (bs x))) (hl : x.length ≤ 1099511627775) :
    Calls Tryd.prog 14 #[.slice (some ⟨b, o, none⟩) 1 c, .int .i64 font] w fun e w' => e = .returned (.int .i64 (width [x] font)) ∧ Below w.heap.size w w' := by
  refine width_any _ [x] font w ⟨_, c, rfl, h1, hc, Or.inr ⟨b, o, rfl, hb, fun i u hu => ?_⟩⟩ (by simp [tot]; omega)
  match i, hu with
  | 0, hu => simp [strs] at hu; subst hu; exact hcell
theorem extremes_any (s : ByteArray) (font : Int) (w : World) (hg : Gl w) (hs : s.size ≤ 16777216) :
    Calls Tryd.prog 20 #[.string s, .int .i64 font] w fun e w' => e = .returned (.tuple #[.int .i64 (least font (words s.data.toList)), .int .i64 (width (words s.data.toList) font)]) ∧ Below w.heap.size w w' := by
  have hwt := words_tot s.data.toList
  rw [show s.data.toList.length = s.size from by simp] at hwt
  have S := Lib.hid (split_any s w hg hs)
  generalize words s.data.toList = xs at *
  by_cases h0 : xs = []
  · subst h0
    go_enter Tryd.func20, Tryd.ntmps20
    go_wp2_with fail
    refine S.out.mono ?_
    rintro e w1 ⟨v, rfl, hown, hb1⟩
    obtain ⟨a, c, rfl, hnc, hcm, hcase⟩ := SlAt.owns hown
    clear hcase hown
    go_wp2
    go_ret2
    exact ⟨ret_ii rfl (by simp [width, jw_nil, fpart, hold, floor]), hb1⟩
  · have hp : 0 < xs.length := List.length_pos_iff.2 h0
    have hne : ((xs.length : Int) == 0) = false := by simp [h0]
    go_enter Tryd.func20, Tryd.ntmps20
    go_wp2_with fail
    refine S.out.mono ?_
    rintro e w1 ⟨v, rfl, hown, hb1⟩
    have hv := SlAt.owns hown
    obtain ⟨a, c, rfl, hnc, hcm, hcase⟩ := id hv
    clear hown
    rcases hcase with ⟨h0', _⟩ | ⟨b, o, rfl, hB, hC⟩
    · omega
    have hz := tot_get_le xs 0 hp
    have c0 := strs_get hC 0 hp
    have hnc1 : 1 ≤ c := by omega
    have W1 := Lib.hid (width_piece b (o + 0) c xs[0] font w1 hB hnc1 hcm c0 (by omega))
    go_wp2_with (go_at_call 14; refine W1.out.mono ?_; rintro e w2 ⟨rfl, hb2⟩)
    clear W1
    go_loopw [7, 20] (fun m i wr => ∃ k : Nat, k ≤ xs.length ∧ i = .int .i64 k ∧ m = .int .i64 (least font (xs.take (max k 1))) ∧ Below w1.heap.size w1 wr) (fun _ i _ => xs.length - (intOf i).toNat)
    case atStart => exact ⟨0, Nat.zero_le _, rfl, by rw [show max 0 1 = 0 + 1 by omega, least_at font xs 0 hp, if_pos rfl], hb2⟩
    case round =>
      obtain ⟨k, hk, rfl, rfl, hb⟩ := hrel
      by_cases hlt : k < xs.length
      · have hzk := tot_get_le xs k hlt
        have ck := strs_get (hC.below hb hB) k hlt
        have hsz := hb.size
        have hkc : k < c := by omega
        have hcm' : c ≤ 9223372036854775807 := by unfold maxLen at hcm; omega
        have W2 := Lib.hid (width_piece b (o + k) (c - k) xs[k] font wr (by omega) (by omega) (by omega) ck (by omega))
        have L := Lib.hid (least_max font xs k hlt)
        clear ck hC c0 hv
        go_wp2_with fail
        refine W2.out.mono ?_
        rintro e w3 ⟨rfl, hb3⟩
        go_wp2
        go_roundw
        case rel => exact ⟨k + 1, by omega, by go_num, by rw [L.out], hb.trans (hb3.mono hsz)⟩
        case measure => simp [intOf]; omega
      · have e : k = xs.length := by omega
        subst e
        have W2 := Lib.hid (width_any _ xs font wr (hv.below hb) (by omega))
        have e2 : xs.take (max xs.length 1) = xs := List.take_of_length_le (by omega)
        have hsz := hb.size
        rw [e2]
        clear e2 hC c0 hv
        go_wp2_with fail
        refine W2.out.mono ?_
        rintro e w3 ⟨rfl, hb3⟩
        go_wp2
        go_ret2
        exact ⟨rfl, hb1.trans ((hb.trans (hb3.mono hsz)).mono hb1.size)⟩
theorem refExtremes_any (s : ByteArray) (font : Int) (w : World) (hs : s.size ≤ 16777216) :
    Calls Tryd.prog 21 #[.string s, .int .i64 font] w fun e w' => e = .returned (.tuple #[.int .i64 (least font (words s.data.toList)), .int .i64 (width (words s.data.toList) font)]) ∧ Below w.heap.size w w' := by
  have hwt := words_tot s.data.toList
  rw [show s.data.toList.length = s.size from by simp] at hwt
  have S := Lib.hid (refSplit_any s w hs)
  generalize words s.data.toList = xs at *
  go_enter Tryd.func21, Tryd.ntmps21
  go_wp2_with fail
  refine S.out.mono ?_
  rintro e w1 ⟨v, rfl, hown, hb1⟩
  have hv := SlAt.owns hown
  obtain ⟨a, c, rfl, hnc, hcm, hcase⟩ := id hv
  clear hown
  have W := fun p q hpq hq => refWidth_any _ xs p q font w1 hv (by omega) hpq hq
  have W := Lib.hid W
  clear hcase hv
  go_wp2
  go_loop [7, 8] (fun m i => ∃ k : Nat, k ≤ xs.length ∧ i = .int .i64 k ∧ m = .int .i64 (least font (xs.take k))) (fun _ i => xs.length - (intOf i).toNat)
  case atStart => exact ⟨0, Nat.zero_le _, rfl, rfl⟩
  case round =>
    obtain ⟨k, hk, rfl, rfl⟩ := hrel
    by_cases hlt : k < xs.length
    · have L := Lib.hid (least_at font xs k hlt)
      have W1 := W.out k (k + 1) (by omega) (by omega)
      rw [sub_one xs k hlt] at W1
      have W1 := Lib.hid W1
      by_cases h0 : k = 0
      · have hz : ((k : Int) == 0) = true := by simp [h0]
        have H0 := Lib.hid h0
        clear h0
        go_wp2_with fail
        refine W1.out.mono ?_
        rintro e w3 ⟨rfl, rfl⟩
        go_wp2
        go_round
        case rel => exact ⟨k + 1, by omega, by go_num, by rw [L.out, if_pos H0.out]⟩
        case measure => simp [intOf]; omega
      · have hz : ((k : Int) == 0) = false := by simp [h0]
        go_wp2_with fail
        refine W1.out.mono ?_
        rintro e w3 ⟨rfl, rfl⟩
        go_wp2
        all_goals
          go_round
          case rel => exact ⟨k + 1, by omega, by go_num, by rw [L.out, if_neg h0]; go_light; congr 1; omega⟩
          case measure => simp [intOf]; omega
    · have e : k = xs.length := by omega
      subst e
      have W1 := W.out 0 xs.length (by omega) (by omega)
      rw [sub_all xs, show ((0 : Nat) : Int) = 0 from rfl] at W1
      have W1 := Lib.hid W1
      go_wp2_with fail
      refine W1.out.mono ?_
      rintro e w3 ⟨rfl, rfl⟩
      go_wp2
      go_ret2
      exact ⟨ret_ii (by simp) rfl, hb1⟩
end Go.Proofs.YtflakidnjchhhaaDoor
