/-
  The walks of layer 1's numbers: Hold, down, Part and the reference's Hold, Floor, Part, on all arguments.
  The walks of names: tree.begins, tree.goes, tree.Name and the reference's Begins, Goes, Starts, Run, Name.
-/
import Derived.Test.YtkbnmmknjmmlmaaGreatDoorChecked
import Derived.Test.YtkbnmmknjmmlmaaGreatDoorFixPlain
import Derived.WalkKit
import Derived.Lib.Hide
import Derived.Deep.QuietTactic
import Derived.BigQuiet
import Derived.WalkLawsBesides
import Derived.Outline
import Derived.Deep.Light
import Derived.WalkSmall
namespace Go.Proofs.YtkbnmmknjmmlmaaGreatDoor
open Go.RowKit Wsc
theorem ret_i {a b : Int} (h : a = b) : Ending.returned (.int .i64 a) = .returned (.int .i64 b) := by rw [h]
theorem hold_any (x : Int) (w : World) :
    Calls Tryz.prog 57 #[.int .i64 x] w fun e w' => e = .returned (.int .i64 (hold x)) ∧ w = w' := by
  go_enter Tryz.func57, Tryz.ntmps57
  go_wp2
  all_goals go_ret
  all_goals exact ⟨ret_i (by unfold hold; (repeat' split at *) <;> omega), rfl⟩
theorem down_any (p d : Int) (w : World) (hp : -1152921504606846976 ≤ p ∧ p ≤ 1152921504606846976) (hd : d ≠ 0) (hd2 : -1073741824 ≤ d ∧ d ≤ 1073741824) :
    Calls Tryz.prog 108 #[.int .i64 p, .int .i64 d] w fun e w' => e = .returned (.int .i64 (floor p d)) ∧ w = w' := by
  have E := Lib.hid (down_eq p d hd)
  have hq := tdiv_bd (d := d) hp
  by_cases h0 : p.tmod d = 0
  · go_enter Tryz.func108, Tryz.ntmps108
    go_wp2
    go_ret
    exact ⟨ret_i (by rw [E.out, if_neg (by simp [h0])]), rfl⟩
  · have hz := Lib.hid h0
    by_cases h1 : p < 0
    · have hm : (p.tmod d != 0) = true := by simpa using h0
      by_cases h2 : d < 0
      all_goals
        go_enter Tryz.func108, Tryz.ntmps108
        go_wp2
        go_ret
        exact ⟨ret_i (by rw [E.out]; simp [hz.out]; omega), rfl⟩
    · have hm : (p % d != 0) = true := by rw [Int.tmod_eq_emod_of_nonneg (by omega)] at h0; simpa using h0
      by_cases h2 : d < 0
      all_goals
        go_enter Tryz.func108, Tryz.ntmps108
        go_wp2
        go_ret
        exact ⟨ret_i (by rw [E.out]; simp [hz.out]; omega), rfl⟩
theorem fixPart_any (a n d : Int) (w : World) :
    Calls Tryz.prog 90 #[.int .i64 a, .int .i64 n, .int .i64 d] w fun e w' => e = .returned (.int .i64 (fpart a n d)) ∧ w = w' := by
  by_cases hd : d = 0
  · subst hd
    go_enter Tryz.func90, Tryz.ntmps90
    go_wp2
    go_ret
    exact ⟨ret_i (by simp [fpart]), rfl⟩
  · have h1 := hold_mul_bd a n
    have h2 := hold_bd d
    have h3 := mt (hold_eq_zero d).mp hd
    go_enter Tryz.func90, Tryz.ntmps90
    go_wp2_with (first | (go_at_call 57; refine (hold_any _ _).mono ?_; rintro e w' ⟨rfl, rfl⟩) | (go_at_call 108; refine (down_any _ _ _ h1 h3 h2).mono ?_; rintro e w' ⟨rfl, rfl⟩))
    go_ret
    exact ⟨ret_i (by simp [fpart, hd]), rfl⟩
theorem refHold_any (x : Int) (w : World) :
    Calls Tryz.prog 69 #[.int .i64 x] w fun e w' => e = .returned (.int .i64 (hold x)) ∧ w = w' := by
  go_enter Tryz.func69, Tryz.ntmps69
  go_wp2
  all_goals go_ret
  all_goals exact ⟨ret_i (by unfold hold; (repeat' split) <;> omega), rfl⟩
theorem refFloor_pos (p d : Int) (w : World) (hp : -1152921504606846976 ≤ p ∧ p ≤ 1152921504606846976) (hd : 1 ≤ d) (hd2 : d ≤ 1073741824) :
    Calls Tryz.prog 80 #[.int .i64 p, .int .i64 d] w fun e w' => e = .returned (.int .i64 (p / d)) ∧ w = w' := by
  have H := div_bd _ hp hd
  by_cases h : 0 ≤ p
  · go_enter Tryz.func80, Tryz.ntmps80
    go_wp2
    go_ret
    exact ⟨rfl, rfl⟩
  · have H2 := div_bd (d := d) 2305843009213693952 (p := d - 1 - p) (by omega) hd
    go_enter Tryz.func80, Tryz.ntmps80
    go_wp2
    go_ret
    exact ⟨ret_i (by 
     have e : (d - 1 - p) / d = - (p / d) := neg_div_up p d (by omega)
     omega), rfl⟩
theorem refFloor_any (p d : Int) (w : World) (hp : -1152921504606846976 ≤ p ∧ p ≤ 1152921504606846976) (hd : d ≠ 0) (hd2 : -1073741824 ≤ d ∧ d ≤ 1073741824) :
    Calls Tryz.prog 80 #[.int .i64 p, .int .i64 d] w fun e w' => e = .returned (.int .i64 (floor p d)) ∧ w = w' := by
  by_cases h : d < 0
  · go_enter Tryz.func80, Tryz.ntmps80
    go_wp2_with (go_at_call 80; refine (refFloor_pos (-p) (-d) _ (by omega) (by omega) (by omega)).mono ?_; rintro e w' ⟨rfl, rfl⟩)
    go_ret
    exact ⟨ret_i (by simp [floor, h]), rfl⟩
  · have := refFloor_pos p d w hp (by omega) (by omega)
    unfold floor; rw [if_neg h]; exact this
theorem refPart_any (a n d : Int) (w : World) :
    Calls Tryz.prog 63 #[.int .i64 a, .int .i64 n, .int .i64 d] w fun e w' => e = .returned (.int .i64 (fpart a n d)) ∧ w = w' := by
  by_cases hd : d = 0
  · subst hd
    go_enter Tryz.func63, Tryz.ntmps63
    go_wp2_with (first | (go_at_call 69; refine (refHold_any _ _).mono ?_; rintro e w' ⟨rfl, rfl⟩))
    go_ret
    exact ⟨ret_i (by simp [fpart]), rfl⟩
  · have h1 := hold_mul_bd a n
    have h2 := hold_bd d
    have h3 := mt (hold_eq_zero d).mp hd
    go_enter Tryz.func63, Tryz.ntmps63
    go_wp2_with (first | (go_at_call 69; refine (refHold_any _ _).mono ?_; rintro e w' ⟨rfl, rfl⟩) | (go_at_call 80; refine (refFloor_any _ _ _ h1 h3 h2).mono ?_; rintro e w' ⟨rfl, rfl⟩))
    go_ret
    exact ⟨ret_i (by simp [fpart, hd]), rfl⟩
theorem percent_any (b n : Int) (w : World) :
    Calls Tryz.prog 71 #[.int .i64 b, .int .i64 n] w fun e w' => e = .returned (.int .i64 (fpart b n 100000)) ∧ w = w' := by
  have P := Lib.hid (fun ww => fixPart_any b n 100000 ww)
  go_enter Tryz.func71, Tryz.ntmps71
  go_wp2_with (go_at_call 90; refine (P.out _).mono ?_; rintro e w1 ⟨rfl, rfl⟩)
  go_ret
  exact ⟨rfl, rfl⟩
end Go.Proofs.YtkbnmmknjmmlmaaGreatDoor
namespace Go.Proofs.YtkbnmmknjmmlmaaGreatDoor
open Go.RowKit Wsc
theorem ret_bo {a b : Bool} (h : a = b) : Ending.returned (.bool a) = .returned (.bool b) := by rw [h]
theorem ret_in {a b : Int} (h : a = b) : Ending.returned (.int .i64 a) = .returned (.int .i64 b) := by rw [h]
theorem refBegins_any (n : Int) (w : World) :
    Calls Tryz.prog 122 #[.int .u8 n] w fun e w' => e = .returned (.bool (beginsB n)) ∧ w = w' := by
  go_enter Tryz.func122, Tryz.ntmps122
  go_wp2
  all_goals go_ret
  all_goals exact ⟨ret_bo (by go_light; rw [Bool.eq_iff_iff]; simp [beginsB] <;> omega), rfl⟩
theorem goes_or (n : Int) : (beginsB n || (decide (48 ≤ n ∧ n ≤ 57) || decide (n = 45))) = goesB n := by
  rw [Bool.eq_iff_iff]; simp [beginsB, goesB]; omega
theorem goes_of (n : Int) (h : beginsB n = true) : goesB n = true := by rw [← goes_or, h]; rfl
theorem goes_not (n : Int) (h : beginsB n = false) : goesB n = decide (48 ≤ n ∧ n ≤ 57 ∨ n = 45) := by
  rw [← goes_or, h, Bool.eq_iff_iff]; simp
theorem refGoes_any (n : Int) (w : World) :
    Calls Tryz.prog 123 #[.int .u8 n] w fun e w' => e = .returned (.bool (goesB n)) ∧ w = w' := by
  have G1 := Lib.hid (goes_of n)
  have G2 := Lib.hid (goes_not n)
  cases hb : beginsB n
  · have B := refBegins_any n
    rw [hb] at B
    have B := Lib.hid B
    have hb := Lib.hid hb
    go_enter Tryz.func123, Tryz.ntmps123
    go_wp2_with (go_at_call 122; refine (B.out _).mono ?_; rintro e w' ⟨rfl, rfl⟩)
    all_goals go_ret
    all_goals exact ⟨ret_bo (by go_light; rw [G2.out hb.out, Bool.eq_iff_iff]; simp <;> omega), rfl⟩
  · have B := refBegins_any n
    rw [hb] at B
    have B := Lib.hid B
    have hb := Lib.hid hb
    go_enter Tryz.func123, Tryz.ntmps123
    go_wp2_with (go_at_call 122; refine (B.out _).mono ?_; rintro e w' ⟨rfl, rfl⟩)
    go_ret
    exact ⟨ret_bo (G1.out hb.out).symm, rfl⟩
theorem refRun_any (s : ByteArray) (a : Int) (w : World) (hs : s.size ≤ 9223372036854775807) (h0 : 0 ≤ a) (ha : a ≤ 9223372036854775807) :
    Calls Tryz.prog 114 #[.string s, .int .i64 a] w fun e w' => e = .returned (.int .i64 (runL (s.data.toList.drop a.toNat)).length) ∧ w = w' := by
  obtain ⟨n, rfl⟩ := Int.eq_ofNat_of_zero_le h0
  rw [Int.toNat_natCast]
  go_enter Tryz.func114, Tryz.ntmps114
  go_wp2
  go_loop [1, 5] (fun i r => ∃ j k : Nat, j ≤ n + s.size ∧ i = .int .i64 j ∧ r = .int .i64 k ∧ k ≤ s.size ∧ (j ≤ s.size ∨ j = n) ∧ n + k = j ∧ Hid ((runL (s.data.toList.drop n)).length = k + (runL (s.data.toList.drop j)).length)) (fun i _ => n + s.size - (intOf i).toNat)
  case atStart => exact ⟨n, 0, by omega, rfl, rfl, Nat.zero_le _, Or.inr rfl, by omega, Lib.hid (by simp)⟩
  case round =>
    obtain ⟨j, k, hj, rfl, rfl, hk, hjs, hnk, H⟩ := hrel
    by_cases hjl : j < s.size
    · cases hg : goesB (bn s[j])
      · have R := runL_stop s j hjl hg
        have R := Lib.hid R
        have B := refGoes_any (bn s[j])
        rw [hg] at B
        have B := Lib.hid B
        clear hg
        have hnk := Lib.hid hnk
        clear hjs
        go_wp2_with (go_at_call 123; refine (B.out _).mono ?_; rintro e w' ⟨rfl, rfl⟩)
        go_ret
        exact ⟨ret_in (by rw [H.out, R.out]; simp), rfl⟩
      · have R := runL_go s j hjl hg
        have R := Lib.hid R
        have B := refGoes_any (bn s[j])
        rw [hg] at B
        have B := Lib.hid B
        clear hg
        have hk' : k + 1 ≤ s.size := by omega
        have hnk := Lib.hid hnk
        clear hjs
        go_wp2_with (go_at_call 123; refine (B.out _).mono ?_; rintro e w' ⟨rfl, rfl⟩)
        go_round
        case rel => exact ⟨j + 1, k + 1, by omega, by go_num, by go_num, hk', Or.inl (by omega), by have := hnk.out; omega, by have := H.out; rw [R.out] at this; rw [Hid, this]; omega⟩
        case measure => simp [intOf]; omega
    · have R := Lib.hid (runL_end s j hjl)
      have hnk := Lib.hid hnk
      clear hjs
      go_wp2
      go_ret
      exact ⟨ret_in (by rw [H.out, R.out]; simp), rfl⟩
theorem refStarts_any (s : ByteArray) (a : Int) (w : World) (hs : s.size ≤ 9223372036854775807) (h0 : 0 ≤ a) (ha : a ≤ 9223372036854775807) :
    Calls Tryz.prog 113 #[.string s, .int .i64 a] w fun e w' => e = .returned (.bool (startsL (s.data.toList.drop a.toNat))) ∧ w = w' := by
  obtain ⟨n, rfl⟩ := Int.eq_ofNat_of_zero_le h0
  rw [Int.toNat_natCast]
  by_cases h : n < s.size
  · by_cases hd : bn s[n] = 45
    · have hd2 : ((s[n].toNat : Int) == 45) = true := by simpa using hd
      by_cases h1 : n + 1 < s.size
      · have R := Lib.hid (startsL_dash s n h h1 hd)
        cases hb : beginsB (bn s[n + 1])
        · have B := refBegins_any (bn s[n + 1])
          rw [hb] at B R
          have B := Lib.hid B
          clear hb hd
          go_enter Tryz.func113, Tryz.ntmps113
          go_wp2_with (go_at_call 122; refine (B.out _).mono ?_; rintro e w' ⟨rfl, rfl⟩)
          all_goals go_ret
          all_goals exact ⟨ret_bo (by go_light; rw [R.out, Bool.eq_iff_iff]; simp <;> omega), rfl⟩
        · have B := refBegins_any (bn s[n + 1])
          rw [hb] at B R
          have B := Lib.hid B
          clear hb hd
          go_enter Tryz.func113, Tryz.ntmps113
          go_wp2_with (go_at_call 122; refine (B.out _).mono ?_; rintro e w' ⟨rfl, rfl⟩)
          go_ret
          exact ⟨ret_bo (by rw [R.out]; simp), rfl⟩
      · have R := Lib.hid (startsL_dash_end s n h h1 hd)
        clear hd
        go_enter Tryz.func113, Tryz.ntmps113
        go_wp2
        go_ret
        exact ⟨ret_bo (by rw [R.out]), rfl⟩
    · have hd2 : ((s[n].toNat : Int) == 45) = false := by simpa using hd
      have R := Lib.hid (startsL_other s n h hd)
      have B := Lib.hid (refBegins_any (bn s[n]))
      clear hd
      go_enter Tryz.func113, Tryz.ntmps113
      go_wp2_with (go_at_call 122; refine (B.out _).mono ?_; rintro e w' ⟨rfl, rfl⟩)
      go_ret
      exact ⟨ret_bo (by rw [R.out]), rfl⟩
  · have R := Lib.hid (startsL_end s n h)
    go_enter Tryz.func113, Tryz.ntmps113
    go_wp2
    go_ret
    exact ⟨ret_bo R.out.symm, rfl⟩
theorem refName_any (s : ByteArray) (w : World) (hs : s.size ≤ 9223372036854775807) :
    Calls Tryz.prog 101 #[.string s] w fun e w' => e = .returned (.bool (nameB s.data.toList)) ∧ w = w' := by
  have S := refStarts_any s 0
  have U := refRun_any s 0
  rw [show (0 : Int).toNat = 0 from rfl, List.drop_zero] at S U
  have hU := runL_all s.data.toList
  have hl := runL_le s.data.toList
  have hsz : s.data.toList.length = s.size := by simp
  rw [hsz] at hl
  have E : nameB s.data.toList = (startsL s.data.toList && (decide ((runL s.data.toList).length = s.size) && decide (s.size ≤ 32))) := by
    unfold nameB; rw [← hU, hsz, Bool.and_assoc]
  have E := Lib.hid E
  clear hU hsz
  cases hst : startsL s.data.toList
  · rw [hst] at S E
    have S := Lib.hid S
    clear hst
    go_enter Tryz.func101, Tryz.ntmps101
    go_wp2_with (go_at_call 113; refine (S.out _ hs (by omega) (by omega)).mono ?_; rintro e w' ⟨rfl, rfl⟩)
    go_ret
    exact ⟨ret_bo (by rw [E.out]; simp), rfl⟩
  · rw [hst] at S E
    have S := Lib.hid S
    have U := Lib.hid U
    clear hst
    generalize (runL s.data.toList).length = r at *
    go_enter Tryz.func101, Tryz.ntmps101
    go_wp2_with (first
      | (go_at_call 113; refine (S.out _ hs (by omega) (by omega)).mono ?_; rintro e w' ⟨rfl, rfl⟩)
      | (go_at_call 114; refine (U.out _ hs (by omega) (by omega)).mono ?_; rintro e w' ⟨rfl, rfl⟩))
    all_goals go_ret
    all_goals exact ⟨ret_bo (by go_light; rw [E.out, Bool.eq_iff_iff]; simp <;> omega), rfl⟩
end Go.Proofs.YtkbnmmknjmmlmaaGreatDoor
