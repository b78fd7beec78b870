/-
  The walks of law29's DumpMany, DumpParses and DumpBack.
-/
import Derived.Test.YtcoaidpiignheaaDoorDumpH
import Derived.Laws.BitsAllLaws
namespace Go.Proofs.YtcoaidpiignheaaDoor
open Go.RowKit Wsc
theorem and_2047 (x : Int) : ∃ m : Nat, m ≤ 2047 ∧ bits .and .i64 x 2047 = (m : Int) := by
  have e : (BitVec.ofInt 64 2047).toNat = 2047 := by decide
  have h : (BitVec.ofInt 64 x &&& BitVec.ofInt 64 2047).toNat ≤ 2047 := by
    rw [BitVec.toNat_and, e]; exact Nat.and_le_right
  refine ⟨(BitVec.ofInt 64 x &&& BitVec.ofInt 64 2047).toNat, h, ?_⟩
  show IntKind.i64.wrap ((BitVec.ofInt 64 x &&& BitVec.ofInt 64 2047).toNat : Int) = _
  exact wrapI _ (by omega) (by omega)
def rowA : RowP := ⟨1, [97], zeroBox⟩
theorem rowA_right : rightR rowA = true := by decide
theorem rowA_line : lineR rowA = [49, 32, 97, 32, 45, 10] := by simp [rowA, lineR, wordsR, joinSp, tagL, zeroBox, num_1]
theorem many_right (m : Nat) : ∀ r ∈ List.replicate m rowA, rightR r = true := fun r hr => by rw [List.eq_of_mem_replicate hr]; exact rowA_right
theorem many_len (m : Nat) : (linesR (List.replicate m rowA)).length = 6 * m := by
  induction m with
  | zero => rfl
  | succ m ih => rw [List.replicate_succ, show linesR (rowA :: List.replicate m rowA) = lineR rowA ++ linesR (List.replicate m rowA) by simp [linesR], List.length_append, ih, rowA_line]; simp; omega
theorem many_parse (m : Nat) : parseP (linesR (List.replicate m rowA)) = if 1024 < m then ([], 0, 2) else (List.replicate m rowA, 0, 0) := by
  by_cases h : 1024 < m
  · rw [if_pos h]
    unfold parseP
    rw [if_pos]
    right; rw [lines_count _ (many_right m), List.length_replicate]; exact h
  · rw [if_neg h]
    exact parseP_lines _ (many_right m) (by rw [List.length_replicate]; omega)
set_option maxRecDepth 100000 in
set_option maxHeartbeats 1000000 in
theorem dumpMany_walk (x : Int) (w : World) (hg : Gl w) : Calls Tryd.prog 5 #[.int .i64 x] w fun e w' => e = .returned (.bool true) ∧ Below w.heap.size w w' := by
  obtain ⟨m, hm, hb⟩ := and_2047 x
  have HB := Lib.hid hb
  have PM := Lib.hid (fun ww hg => parse_any (linesR (List.replicate m rowA)) ww hg)
  have MP := many_parse m
  have K := Lib.hid (fun ww (hb : Below w.heap.size w ww) => known_any ww (hg.below hb))
  clear hb
  go_enter Tryd.func5, Tryd.ntmps5
  go_wp2_with fail
  rw [HB.out]
  clear HB
  go_loopw [3, 4] (fun s i wr => ∃ k : Nat, i = .int .i64 k ∧ k ≤ m ∧ s = .string (bs (linesR (List.replicate k rowA))) ∧ wr = w) (fun _ i _ => m - (intOf i).toNat)
  case atStart => exact ⟨0, rfl, by omega, rfl, rfl⟩
  case round =>
    obtain ⟨k, rfl, hk, rfl, rfl⟩ := hrel
    by_cases hlt : k < m
    · have AD := fun ww => cat_lit (linesR (List.replicate k rowA)) [49, 32, 97, 32, 45, 10] (by rw [many_len]; simp; omega) ww
      have HS := Lib.hid (show linesR (List.replicate (k + 1) rowA) = linesR (List.replicate k rowA) ++ [49, 32, 97, 32, 45, 10] by rw [List.replicate_succ', lines_snoc, rowA_line])
      generalize linesR (List.replicate k rowA) = X at *
      go_wp2_with fail
      go_roundw
      case rel => exact ⟨k + 1, by go_num, by omega, by rw [HS.out], by first | rfl | trivial⟩
      case measure => simp [intOf]; omega
    · have hke : k = m := by omega
      subst hke
      by_cases h1 : 1024 < k
      · rw [if_pos h1] at MP
        rw [MP] at PM
        have h1i : (1024 : Int) < (k : Int) := by omega
        generalize linesR (List.replicate k rowA) = X at *
        clear MP h1
        go_wp2_with fail
        refine (PM.out _ hg).mono ?_
        rintro e w1 ⟨⟨v, rfl, hv⟩, hb1⟩
        obtain ⟨a, c, rfl, _, _, _⟩ := hv
        have HB1 := Lib.hid hb1
        rw [show ([] : List RowP).length = 0 from rfl]
        clear hb1
        go_wp2_with fail
        refine (K.out _ HB1.out).mono ?_
        rintro e w2 ⟨rfl, hb2⟩
        have HB2 := Lib.hid (HB1.out.trans (hb2.mono HB1.out.size))
        clear hb2
        go_wp2_with fail
        go_ret
        exact ⟨rfl, HB2.out⟩
      · rw [if_neg h1] at MP
        rw [MP] at PM
        have h1i : ¬ ((1024 : Int) < (k : Int)) := by omega
        simp only [List.length_replicate] at PM
        generalize linesR (List.replicate k rowA) = X at *
        clear MP h1
        go_wp2_with fail
        refine (PM.out _ hg).mono ?_
        rintro e w1 ⟨⟨v, rfl, hv⟩, hb1⟩
        obtain ⟨a, c, rfl, _, _, _⟩ := hv
        have HB1 := Lib.hid hb1
        clear hb1
        go_wp2_with fail
        refine (K.out _ HB1.out).mono ?_
        rintro e w2 ⟨rfl, hb2⟩
        have HB2 := Lib.hid (HB1.out.trans (hb2.mono HB1.out.size))
        clear hb2
        go_wp2_with fail
        go_ret
        exact ⟨rfl, HB2.out⟩
set_option maxRecDepth 100000 in
set_option maxHeartbeats 1000000 in
theorem dumpParses_walk (S : ByteArray) (w : World) (hg : Gl w) (hS : S.size ≤ maxLen) : Calls Tryd.prog 4 #[.string S] w fun e w' => e = .returned (.bool true) ∧ Below w.heap.size w w' := by
  unfold maxLen at hS
  obtain ⟨s, hs⟩ : ∃ s, S = bs s := ⟨S.data.toList, (bs_of S).symm⟩
  have K := Lib.hid (fun ww (hb : Below w.heap.size w ww) => known_any ww (hg.below hb))
  by_cases h3 : 3000 < S.size
  · have h3i : (3000 : Int) < (S.size : Int) := by omega
    clear hs
    go_enter Tryd.func4, Tryd.ntmps4
    go_wp2_with fail
    refine (K.out _ (Below.refl _ _)).mono ?_
    rintro e w1 ⟨rfl, hb1⟩
    have HB1 := Lib.hid hb1
    clear hb1
    go_wp2_with fail
    go_ret
    exact ⟨rfl, HB1.out⟩
  · have h3i : ¬ ((3000 : Int) < (S.size : Int)) := by omega
    have hsz : s.length ≤ 3000 := by rw [hs, bs_size] at h3; omega
    have P1 := Lib.hid (fun ww hg => parse_any s ww hg)
    have P2 := Lib.hid (fun ww => refParse_any s ww (by omega))
    rw [← parse_same] at P2
    have LP := Lib.hid (fun l i h => lines_parseP s l i h)
    have HS := Lib.hid hs
    rw [← hs] at P1 P2
    obtain ⟨C, hC⟩ : ∃ C, C = parseP s := ⟨_, rfl⟩
    rw [← hC] at P1 P2
    have HC := Lib.hid hC
    obtain ⟨l, i, er⟩ := C
    simp only at P1 P2
    unfold ParseRes at P2
    simp only at P2
    have SA := Lib.hid (fun v1 v2 ww h1 h2 => same_any v1 v2 l l ww h1 h2)
    rw [show decide (l = l) = true from decide_eq_true rfl] at SA
    clear h3 hs hC hsz
    have hz1 : (er != er) = false := by simp
    have hz2 : ((i : Int) != (i : Int)) = false := by simp
    go_enter Tryd.func4, Tryd.ntmps4
    go_wp2_with fail
    refine (P1.out _ hg).mono ?_
    rintro e w1 ⟨⟨v1, rfl, hv1⟩, hb1⟩
    have HB1 := Lib.hid hb1
    have HV1 := Lib.hid hv1
    clear hb1 hv1
    go_wp2_with fail
    refine (P2.out _).mono ?_
    rintro e w2 ⟨⟨v2, rfl, hv2⟩, hb2⟩
    have HB2 := Lib.hid (HB1.out.trans (hb2.mono HB1.out.size))
    have HV2 := Lib.hid (HV1.out.below hb2)
    have HU2 := Lib.hid hv2
    clear hb2 hv2 HV1
    by_cases he : er = 0
    · subst he
      obtain ⟨hi0, hr, hsl, hl⟩ := LP.out l i HC.out.symm
      have PP := Lib.hid (fun v ww h => print_any v l ww h)
      have e : printP l = (s, 0) := by
        unfold printP
        rw [if_neg (by omega), if_pos (List.all_eq_true.2 hr), ← hsl]
      rw [e] at PP
      simp only at PP
      rw [← HS.out] at PP
      clear e hi0 hr hsl hl
      have hss : (S.toList == S.toList) = true := by simp
      go_wp2_with fail
      refine (SA.out v1 v2 _ HV2.out HU2.out).mono ?_
      rintro e w3 ⟨rfl, hb3⟩
      have HB3 := Lib.hid (HB2.out.trans (hb3.mono HB2.out.size))
      have HV3 := Lib.hid (HV2.out.below hb3)
      clear hb3
      go_wp2_with fail
      refine (PP.out v1 _ HV3.out).mono ?_
      rintro e w4 ⟨rfl, hb4⟩
      have HB4 := Lib.hid (HB3.out.trans (hb4.mono HB3.out.size))
      clear hb4
      go_wp2_with fail
      refine (K.out _ HB4.out).mono ?_
      rintro e w5 ⟨rfl, hb5⟩
      have HB5 := Lib.hid (HB4.out.trans (hb5.mono HB4.out.size))
      clear hb5
      go_wp2_with fail
      go_ret
      exact ⟨rfl, HB5.out⟩
    · have hz3 : (er != 0) = true := by simpa using he
      clear he
      go_wp2_with fail
      refine (SA.out v1 v2 _ HV2.out HU2.out).mono ?_
      rintro e w3 ⟨rfl, hb3⟩
      have HB3 := Lib.hid (HB2.out.trans (hb3.mono HB2.out.size))
      clear hb3
      go_wp2_with fail
      refine (K.out _ HB3.out).mono ?_
      rintro e w5 ⟨rfl, hb5⟩
      have HB5 := Lib.hid (HB3.out.trans (hb5.mono HB3.out.size))
      clear hb5
      go_wp2_with fail
      go_ret
      exact ⟨rfl, HB5.out⟩
set_option maxRecDepth 100000 in
set_option maxHeartbeats 1000000 in
theorem dumpBack_walk (a : Option Addr) (c : Nat) (l : List RowP) (w : World) (hg : Gl w) (hv : SlAt w (.slice a l.length c) l.length (rowsC l)) (ht : ∀ r ∈ l, r.tag.length ≤ maxLen) :
    Calls Tryd.prog 3 #[.slice a l.length c] w fun e w' => e = .returned (.bool true) ∧ Below w.heap.size w w' := by
  have K := Lib.hid (fun ww (hb : Below w.heap.size w ww) => known_any ww (hg.below hb))
  have PR := Lib.hid (fun ww h => print_any (.slice a l.length c) l ww h)
  have hl9 : l.length ≤ 9223372036854775807 := by obtain ⟨a', c', e, h1, h2, _⟩ := hv; unfold maxLen at h2; omega
  by_cases h60 : 60 < l.length
  · have hi : (60 : Int) < (l.length : Int) := by omega
    clear hv ht PR
    generalize l.length = n at *
    go_enter Tryd.func3, Tryd.ntmps3
    go_wp2_with fail
    refine (K.out _ (Below.refl _ _)).mono ?_
    rintro e w1 ⟨rfl, hb1⟩
    have HB1 := Lib.hid hb1
    clear hb1
    go_wp2_with fail
    go_ret
    exact ⟨rfl, HB1.out⟩
  · have hi : ¬ ((60 : Int) < (l.length : Int)) := by omega
    have OF := Lib.hid (fun ww h => of_any (.slice a l.length c) l ww h (by omega))
    have AL := Lib.hid (fun v ww h => all_any v l ww h (fun r hr => by have := ht r hr; unfold maxLen at this; omega))
    have HV := Lib.hid hv
    have hal : allR l = l.all rightR := by
      unfold allR; rw [show decide (l.length ≤ 1024) = true from decide_eq_true (by omega)]; simp
    rw [hal] at AL
    have hpr : printP l = if l.all rightR = true then (linesR l, 0) else ([], 40) := by unfold printP; rw [if_neg (by omega)]
    rw [hpr] at PR
    cases hr : l.all rightR
    · rw [hr] at AL PR
      rw [if_neg (by simp)] at PR
      simp only at PR
      rw [show bs [] = ⟨#[]⟩ from rfl] at PR
      clear hv ht h60 hal hpr hr
      generalize l.length = n at *
      go_enter Tryd.func3, Tryd.ntmps3
      go_wp2_with fail
      refine (PR.out _ HV.out).mono ?_
      rintro e w1 ⟨rfl, hb1⟩
      have HB1 := Lib.hid hb1
      have HV1 := Lib.hid (HV.out.below hb1)
      clear hb1
      go_wp2_with fail
      refine (OF.out _ HV1.out).mono ?_
      rintro e w2 ⟨⟨v2, rfl, hv2⟩, hb2⟩
      have HB2 := Lib.hid (HB1.out.trans (hb2.mono HB1.out.size))
      have HU2 := Lib.hid hv2
      clear hb2 hv2
      go_wp2_with fail
      refine (AL.out v2 _ HU2.out).mono ?_
      rintro e w3 ⟨rfl, hb3⟩
      have HB3 := Lib.hid (HB2.out.trans (hb3.mono HB2.out.size))
      clear hb3
      go_wp2_with fail
      refine (K.out _ HB3.out).mono ?_
      rintro e w4 ⟨rfl, hb4⟩
      have HB4 := Lib.hid (HB3.out.trans (hb4.mono HB3.out.size))
      clear hb4
      go_wp2_with fail
      go_ret
      exact ⟨rfl, HB4.out⟩
    · have hall := List.all_eq_true.1 hr
      rw [hr] at AL PR
      rw [if_pos rfl] at PR
      simp only at PR
      have PA := Lib.hid (fun ww hg => parse_any (linesR l) ww hg)
      rw [parseP_lines l hall (by omega)] at PA
      simp only at PA
      have TX := Lib.hid (fun v ww h => text_any v l ww h hall (by omega))
      have SA := Lib.hid (fun v1 v2 ww h1 h2 => same_any v1 v2 l l ww h1 h2)
      rw [show decide (l = l) = true from decide_eq_true rfl] at SA
      clear hv ht h60 hal hpr hr hall
      generalize linesR l = X at *
      generalize l.length = n at *
      have hss : ((bs X).toList == (bs X).toList) = true := by simp
      go_enter Tryd.func3, Tryd.ntmps3
      go_wp2_with fail
      refine (PR.out _ HV.out).mono ?_
      rintro e w1 ⟨rfl, hb1⟩
      have HB1 := Lib.hid hb1
      have HV1 := Lib.hid (HV.out.below hb1)
      clear hb1
      go_wp2_with fail
      refine (OF.out _ HV1.out).mono ?_
      rintro e w2 ⟨⟨v2, rfl, hv2⟩, hb2⟩
      have HB2 := Lib.hid (HB1.out.trans (hb2.mono HB1.out.size))
      have HV2 := Lib.hid (HV1.out.below hb2)
      have HU2 := Lib.hid hv2
      clear hb2 hv2
      go_wp2_with fail
      refine (AL.out v2 _ HU2.out).mono ?_
      rintro e w3 ⟨rfl, hb3⟩
      have HB3 := Lib.hid (HB2.out.trans (hb3.mono HB2.out.size))
      have HV3 := Lib.hid (HV2.out.below hb3)
      clear hb3
      go_wp2_with fail
      refine (PA.out _ (hg.below HB3.out)).mono ?_
      rintro e w4 ⟨⟨v4, rfl, hv4⟩, hb4⟩
      have HB4 := Lib.hid (HB3.out.trans (hb4.mono HB3.out.size))
      have HV4 := Lib.hid (HV3.out.below hb4)
      have HP4 := Lib.hid hv4
      clear hb4 hv4
      go_wp2_with fail
      refine (OF.out _ HV4.out).mono ?_
      rintro e w5 ⟨⟨v5, rfl, hv5⟩, hb5⟩
      have HB5 := Lib.hid (HB4.out.trans (hb5.mono HB4.out.size))
      have HV5 := Lib.hid (HV4.out.below hb5)
      have HP5 := Lib.hid (HP4.out.below hb5)
      have HU5 := Lib.hid hv5
      clear hb5 hv5
      go_wp2_with fail
      refine (TX.out v5 _ HU5.out).mono ?_
      rintro e w6 ⟨rfl, hb6⟩
      have HB6 := Lib.hid (HB5.out.trans (hb6.mono HB5.out.size))
      have HV6 := Lib.hid (HV5.out.below hb6)
      have HP6 := Lib.hid (HP5.out.below hb6)
      clear hb6
      go_wp2_with fail
      refine (OF.out _ HV6.out).mono ?_
      rintro e w7 ⟨⟨v7, rfl, hv7⟩, hb7⟩
      have HB7 := Lib.hid (HB6.out.trans (hb7.mono HB6.out.size))
      have HP7 := Lib.hid (HP6.out.below hb7)
      have HU7 := Lib.hid hv7
      clear hb7 hv7
      go_wp2_with fail
      refine (SA.out v4 v7 _ HP7.out HU7.out).mono ?_
      rintro e w8 ⟨rfl, hb8⟩
      have HB8 := Lib.hid (HB7.out.trans (hb8.mono HB7.out.size))
      clear hb8
      go_wp2_with fail
      refine (K.out _ HB8.out).mono ?_
      rintro e w9 ⟨rfl, hb9⟩
      have HB9 := Lib.hid (HB8.out.trans (hb9.mono HB8.out.size))
      clear hb9
      go_wp2_with fail
      go_ret
      exact ⟨rfl, HB9.out⟩
end Go.Proofs.YtcoaidpiignheaaDoor
