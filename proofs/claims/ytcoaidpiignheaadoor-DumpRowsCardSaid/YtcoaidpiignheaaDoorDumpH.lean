/-
  The walk of law 29's known.
-/
import Derived.Test.YtcoaidpiignheaaDoorDumpG
namespace Go.Proofs.YtcoaidpiignheaaDoor
open Go.RowKit Wsc
def oneL29 : List UInt8 := [49, 32, 97, 32, 48, 32, 48, 32, 54, 52, 48, 32, 54, 52, 10, 50, 32, 34, 32, 48, 32, 48, 32, 53, 48, 48, 32, 54, 52, 32, 49, 10, 50, 32, 98, 32, 45, 10]
def badL29 : List UInt8 := [49, 32, 97, 32, 48, 32, 48, 32, 54, 52, 48, 32, 54, 52, 10, 50, 32, 34, 32, 48, 32, 48, 32, 53, 48, 48, 32, 54, 52, 10]
def oneRows : List RowP := [⟨1, [97], ⟨true, 0, 0, 640, 64, 0⟩⟩, ⟨2, [], ⟨true, 0, 0, 500, 64, 1⟩⟩, ⟨2, [98], zeroBox⟩]
theorem one_right : ∀ r ∈ oneRows, rightR r = true := by decide
theorem num_1 : numN 1 = [49] := by simp [numN, wholeL, dg]
theorem num_2 : numN 2 = [50] := by simp [numN, wholeL, dg]
theorem num_0 : numN 0 = [48] := by simp [numN, wholeL, dg]
theorem num_64 : numN 64 = [54, 52] := by simp [numN, wholeL, dg]
theorem num_640 : numN 640 = [54, 52, 48] := by simp [numN, wholeL, dg]
theorem num_500 : numN 500 = [53, 48, 48] := by simp [numN, wholeL, dg]
theorem one_lines : linesR oneRows = oneL29 := by
  simp [oneRows, oneL29, linesR, lineR, wordsR, joinSp, tagL, zeroBox, num_0, num_1, num_2, num_64, num_640, num_500]
theorem one_parse : parseP oneL29 = (oneRows, 0, 0) := by rw [← one_lines]; exact parseP_lines _ one_right (by decide)
theorem bad_parse : parseP badL29 = ([], 1, 10) := by
  rw [parse_same]
  have hs : spl 10 badL29 = [[49, 32, 97, 32, 48, 32, 48, 32, 54, 52, 48, 32, 54, 52], [50, 32, 34, 32, 48, 32, 48, 32, 53, 48, 48, 32, 54, 52], []] := by decide
  have h1 : refR [49, 32, 97, 32, 48, 32, 48, 32, 54, 52, 48, 32, 54, 52] = some ⟨1, [97], ⟨true, 0, 0, 640, 64, 0⟩⟩ := by
    refine refR_line ⟨by decide, ?_⟩
    simp [wordsR, joinSp, tagL, num_0, num_1, num_64, num_640]
  have h2 : refR [50, 32, 34, 32, 48, 32, 48, 32, 53, 48, 48, 32, 54, 52] = none :=
    refR_miss _ [50] [34] [[48], [48], [53, 48, 48], [54, 52]] (by decide) (by decide) (by decide)
  unfold refParse
  rw [if_neg (by rw [hs]; decide), hs, refF, h1]
  simp only
  rw [refF, h2]; rfl
theorem one_print : printP oneRows = (oneL29, 0) := by
  unfold printP
  rw [if_neg (by decide), if_pos (List.all_eq_true.2 one_right), one_lines]
set_option maxRecDepth 100000 in
set_option maxHeartbeats 1000000 in
theorem known_any (w : World) (hg : Gl w) : Calls Tryd.prog 7 #[] w fun e w' => e = .returned (.bool true) ∧ Below w.heap.size w w' := by
  have P1 := Lib.hid (fun ww hg => parse_any oneL29 ww hg)
  have P2 := Lib.hid (fun ww hg => parse_any badL29 ww hg)
  have PR := Lib.hid (fun v ww h => print_any v oneRows ww h)
  rw [one_parse] at P1
  rw [bad_parse] at P2
  rw [one_print] at PR
  go_enter Tryd.func7, Tryd.ntmps7
  go_wp2_with fail
  refine (P1.out _ hg).mono ?_
  rintro e w1 ⟨⟨v, rfl, hv⟩, hb1⟩
  have HB1 := Lib.hid hb1
  have HV := Lib.hid hv
  clear hb1 hv
  go_wp2_with fail
  refine (PR.out v _ HV.out).mono ?_
  rintro e w2 ⟨rfl, hb2⟩
  have HB2 := Lib.hid (HB1.out.trans (hb2.mono HB1.out.size))
  have HV2 := Lib.hid (HV.out.below hb2)
  clear hb2
  go_wp2_with fail
  refine (P2.out _ (hg.below HB2.out)).mono ?_
  rintro e w3 ⟨⟨v3, rfl, hv3⟩, hb3⟩
  have HB3 := Lib.hid (HB2.out.trans (hb3.mono HB2.out.size))
  have hv := HV2.out.below hb3
  clear hb3 hv3
  obtain ⟨a, c, rfl, hnc, hcm, hcase⟩ := hv
  rcases hcase with ⟨h0, _⟩ | ⟨b, o, rfl, hB, hC⟩
  · cases h0
  have c7 := (rowAt hC 1 (by decide)).c7
  have hlen : oneRows.length = 3 := rfl
  rw [show oneRows[1] = ⟨2, [], ⟨true, 0, 0, 500, 64, 1⟩⟩ from rfl] at c7
  simp only [show oneRows.length = 3 from rfl] at *
  have hq : (bs oneL29).toList = [49, 32, 97, 32, 48, 32, 48, 32, 54, 52, 48, 32, 54, 52, 10, 50, 32, 34, 32, 48, 32, 48, 32, 53, 48, 48, 32, 54, 52, 32, 49, 10, 50, 32, 98, 32, 45, 10] := by rw [Lib.toList_data, bs_data]; rfl
  have hq2 : ((bs oneL29).toList == ([49, 32, 97, 32, 48, 32, 48, 32, 54, 52, 48, 32, 54, 52, 10, 50, 32, 34, 32, 48, 32, 48, 32, 53, 48, 48, 32, 54, 52, 32, 49, 10, 50, 32, 98, 32, 45, 10] : List UInt8)) = true := by rw [hq]; decide
  clear hC hnc hcm
  go_wp2_with fail
  go_ret
  exact ⟨rfl, HB3.out⟩
end Go.Proofs.YtcoaidpiignheaaDoor
