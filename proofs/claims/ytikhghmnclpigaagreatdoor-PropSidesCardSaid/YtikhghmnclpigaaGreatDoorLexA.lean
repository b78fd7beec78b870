/-
  The walks of ref01.Digits, Number and ref05.Blank, Blanks.
  The walks of ref05.Has, Behind, Sign and ref01.Number.
  The walk of ref01.Number. Printed by wip/gen_number.py.
-/
import Derived.Test.YtikhghmnclpigaaGreatDoorNames
import Derived.Test.YtikhghmnclpigaaGreatDoorLexPlain
namespace Go.Proofs.YtikhghmnclpigaaGreatDoor
open Go.RowKit Wsc
theorem refBlank_any (n : Int) (w : World) :
    Calls Tryz.prog 101 #[.int .u8 n] w fun e w' => e = .returned (.bool (blankB n)) ∧ w = w' := by
  go_enter Tryz.func101, Tryz.ntmps101
  go_wp2
  all_goals go_ret
  all_goals exact ⟨ret_bo (by go_light; rw [Bool.eq_iff_iff]; simp [blankB] <;> omega), rfl⟩
theorem refDigits_any (s : ByteArray) (a : Int) (w : World) (hs : s.size ≤ 4611686018427387904) (h0 : 0 ≤ a) (ha : a ≤ 4611686018427387904) :
    Calls Tryz.prog 119 #[.string s, .int .i64 a] w fun e w' => e = .returned (.int .i64 (digitsL (s.data.toList.drop a.toNat))) ∧ w = w' := by
  obtain ⟨n, rfl⟩ := Int.eq_ofNat_of_zero_le h0
  rw [Int.toNat_natCast]
  unfold digitsL
  go_enter Tryz.func119, Tryz.ntmps119
  go_wp2
  go_loop [1, 5] (fun i r => ∃ j k : Nat, j ≤ n + s.size ∧ i = .int .i64 j ∧ r = .int .i64 k ∧ k ≤ s.size ∧ (j ≤ s.size ∨ j = n) ∧ n + k = j ∧ Hid ((runOf digB (s.data.toList.drop n)).length = k + (runOf digB (s.data.toList.drop j)).length)) (fun i _ => n + s.size - (intOf i).toNat)
  case atStart => exact ⟨n, 0, by omega, rfl, rfl, Nat.zero_le _, Or.inr rfl, by omega, Lib.hid (by simp)⟩
  case round =>
    obtain ⟨j, k, hj, rfl, rfl, hk, hjs, hnk, H⟩ := hrel
    by_cases hjl : j < s.size
    · have hnk := Lib.hid hnk
      by_cases h1 : 48 ≤ bn s[j]
      · have g1 : decide ((48 : Int) ≤ s[j].toNat) = true := by simpa using h1
        by_cases h2 : bn s[j] ≤ 57
        · have g2 : decide ((s[j].toNat : Int) ≤ 57) = true := by simpa using h2
          have R := Lib.hid (runOf_go digB s j hjl (by simp [digB]; omega))
          have hk' : k + 1 ≤ s.size := by have := hnk.out; omega
          clear h1 h2 hjs
          go_wp2
          go_round
          case rel => exact ⟨j + 1, k + 1, by omega, by go_num, by go_num, hk', Or.inl (by omega), by have := hnk.out; omega, by have := H.out; rw [R.out] at this; rw [Hid, this]; omega⟩
          case measure => simp [intOf]; omega
        · have g2 : decide ((s[j].toNat : Int) ≤ 57) = false := by simpa using h2
          have R := Lib.hid (runOf_stop digB s j hjl (by simp [digB]; omega))
          clear h1 h2 hjs
          go_wp2
          go_ret
          exact ⟨ret_in (by rw [H.out, R.out]; simp), rfl⟩
      · have g1 : decide ((48 : Int) ≤ s[j].toNat) = false := by simpa using h1
        have R := Lib.hid (runOf_stop digB s j hjl (by simp [digB]; omega))
        clear h1 hjs
        go_wp2
        go_ret
        exact ⟨ret_in (by rw [H.out, R.out]; simp), rfl⟩
    · have R := Lib.hid (runOf_end digB s j hjl)
      have hnk := Lib.hid hnk
      clear hjs
      go_wp2
      go_ret
      exact ⟨ret_in (by rw [H.out, R.out]; simp), rfl⟩
theorem refBlanks_any (s : ByteArray) (a : Int) (w : World) (hs : s.size ≤ 4611686018427387904) (h0 : 0 ≤ a) (ha : a ≤ 4611686018427387904) :
    Calls Tryz.prog 102 #[.string s, .int .i64 a] w fun e w' => e = .returned (.int .i64 (runOf blankB (s.data.toList.drop a.toNat)).length) ∧ w = w' := by
  obtain ⟨n, rfl⟩ := Int.eq_ofNat_of_zero_le h0
  rw [Int.toNat_natCast]
  go_enter Tryz.func102, Tryz.ntmps102
  go_wp2
  go_loop [1, 5] (fun i r => ∃ j k : Nat, j ≤ n + s.size ∧ i = .int .i64 j ∧ r = .int .i64 k ∧ k ≤ s.size ∧ (j ≤ s.size ∨ j = n) ∧ n + k = j ∧ Hid ((runOf blankB (s.data.toList.drop n)).length = k + (runOf blankB (s.data.toList.drop j)).length)) (fun i _ => n + s.size - (intOf i).toNat)
  case atStart => exact ⟨n, 0, by omega, rfl, rfl, Nat.zero_le _, Or.inr rfl, by omega, Lib.hid (by simp)⟩
  case round =>
    obtain ⟨j, k, hj, rfl, rfl, hk, hjs, hnk, H⟩ := hrel
    by_cases hjl : j < s.size
    · cases hg : blankB (bn s[j])
      · have R := runOf_stop blankB s j hjl hg
        have R := Lib.hid R
        have B := refBlank_any (bn s[j])
        rw [hg] at B
        have B := Lib.hid B
        clear hg
        have hnk := Lib.hid hnk
        clear hjs
        go_wp2_with (go_at_call 101; refine (B.out _).mono ?_; rintro e w' ⟨rfl, rfl⟩)
        go_ret
        exact ⟨ret_in (by rw [H.out, R.out]; simp), rfl⟩
      · have R := runOf_go blankB s j hjl hg
        have R := Lib.hid R
        have B := refBlank_any (bn s[j])
        rw [hg] at B
        have B := Lib.hid B
        clear hg
        have hk' : k + 1 ≤ s.size := by omega
        have hnk := Lib.hid hnk
        clear hjs
        go_wp2_with (go_at_call 101; refine (B.out _).mono ?_; rintro e w' ⟨rfl, rfl⟩)
        go_round
        case rel => exact ⟨j + 1, k + 1, by omega, by go_num, by go_num, hk', Or.inl (by omega), by have := hnk.out; omega, by have := H.out; rw [R.out] at this; rw [Hid, this]; omega⟩
        case measure => simp [intOf]; omega
    · have R := Lib.hid (runOf_end blankB s j hjl)
      have hnk := Lib.hid hnk
      clear hjs
      go_wp2
      go_ret
      exact ⟨ret_in (by rw [H.out, R.out]; simp), rfl⟩
end Go.Proofs.YtikhghmnclpigaaGreatDoor
namespace Go.Proofs.YtikhghmnclpigaaGreatDoor
open Go.RowKit Wsc
theorem refHas_any (s t : ByteArray) (a : Int) (w : World) (hs : s.size ≤ 4611686018427387904) (ht : t.size ≤ 4611686018427387904) (h0 : 0 ≤ a) (ha : a ≤ s.size) :
    Calls Tryz.prog 99 #[.string s, .int .i64 a, .string t] w fun e w' => e = .returned (.bool (hasL (s.data.toList.drop a.toNat) t.data.toList)) ∧ w = w' := by
  obtain ⟨n, rfl⟩ := Int.eq_ofNat_of_zero_le h0
  rw [Int.toNat_natCast]
  rw [hasL_take]
  by_cases hl : (s.size : Int) - n < t.size
  · have g : decide ((t.size : Int) ≤ (s.size : Int) - n) = false := by simpa using hl
    have R : (decide (t.data.toList.length ≤ (s.data.toList.drop n).length ∧ (s.data.toList.drop n).take t.data.toList.length = t.data.toList)) = false := by
      rw [decide_eq_false_iff_not]; rintro ⟨h, _⟩; simp at h
      omega
    rw [R]
    have g2 := Lib.hid R
    clear R
    go_enter Tryz.func99, Tryz.ntmps99
    go_wp2
    go_ret
    exact ⟨rfl, rfl⟩
  · have g : decide ((t.size : Int) ≤ (s.size : Int) - n) = true := by simp; omega
    have R : (decide (t.data.toList.length ≤ (s.data.toList.drop n).length ∧ (s.data.toList.drop n).take t.data.toList.length = t.data.toList)) = ((s.extract n (n + t.size)).toList == t.toList) := by
      rw [Lib.toList_data, Lib.toList_data, Lib.extract_data, Bool.eq_iff_iff]
      simp; omega
    rw [R]
    have g2 := Lib.hid R
    clear R
    obtain ⟨m, hm⟩ : ∃ m, m = n + t.size := ⟨_, rfl⟩
    have hm2 : (n : Int) + (t.size : Int) = (m : Int) := by omega
    have hm3 : m ≤ s.size := by omega
    have hm4 : n ≤ m := by omega
    rw [← hm]
    have hm5 := Lib.hid hm
    clear hm
    go_enter Tryz.func99, Tryz.ntmps99
    go_wp2
    go_ret
    exact ⟨rfl, rfl⟩
theorem lexSign_any (c : Int) (w : World) :
    Calls Tryz.prog 106 #[.int .u8 c] w fun e w' => e = .returned (.int .i64 (signsK c)) ∧ w = w' := by
  unfold signsK
  go_enter Tryz.func106, Tryz.ntmps106
  go_wp2
  go_loop [4] (fun i => ∃ k : Nat, k ≤ 9 ∧ i = .int .i64 k ∧ Hid (signFrom c [58, 59, 44, 40, 41, 91, 93, 123, 125] 10 = signFrom c (([58, 59, 44, 40, 41, 91, 93, 123, 125] : List UInt8).drop k) (10 + k))) (fun i => 9 - (intOf i).toNat)
  case atStart => exact ⟨0, by omega, rfl, Lib.hid rfl⟩
  case round =>
    obtain ⟨k, hk, rfl, H⟩ := hrel
    by_cases h9 : k < 9
    · have h9' : k < ([58, 59, 44, 40, 41, 91, 93, 123, 125] : List UInt8).length := h9
      have A := signFrom_at c [58, 59, 44, 40, 41, 91, 93, 123, 125] k (10 + k) h9'
      by_cases hc : bn (([58, 59, 44, 40, 41, 91, 93, 123, 125] : List UInt8)[k]'h9') = c
      · rw [if_pos hc] at A
        have R := Lib.hid (H.out.trans A)
        have hc2 : ((((⟨#[58, 59, 44, 40, 41, 91, 93, 123, 125]⟩ : ByteArray)[k]'h9).toNat : Int) == c) = true := beq_iff_eq.2 hc
        clear A hc
        go_wp2
        go_ret
        exact ⟨ret_in R.out.symm, rfl⟩
      · rw [if_neg hc] at A
        have R := Lib.hid (H.out.trans A)
        have hc2 : ((((⟨#[58, 59, 44, 40, 41, 91, 93, 123, 125]⟩ : ByteArray)[k]'h9).toNat : Int) == c) = false := beq_eq_false_iff_ne.2 hc
        clear A hc
        go_wp2
        go_round
        case rel => exact ⟨k + 1, by omega, by go_num, Lib.hid (by rw [R.out]; congr 1)⟩
        case measure => simp [intOf]; omega
    · have e : k = 9 := by omega
      subst e
      go_wp2
      go_ret
      exact ⟨ret_in (by rw [H.out]; rfl), rfl⟩
end Go.Proofs.YtikhghmnclpigaaGreatDoor
namespace Go.Proofs.YtikhghmnclpigaaGreatDoor
open Go.RowKit Wsc
theorem num_no (s : ByteArray) (n a d m k : Nat) (hs : signW (s.data.toList.drop n) = a) (hd : digitsL (s.data.toList.drop (n + a)) = d) (hm : m = n + a + d) (hk : digitsL (s.data.toList.drop (m + 1)) = k)
    (h : ¬ m < s.size ∨ (∃ h : m < s.size, ¬ bn s[m] = 46) ∨ k = 0) : numberL (s.data.toList.drop n) = if d = 0 then 0 else a + d := by
  unfold numberL
  rw [hs, List.drop_drop, hd, List.drop_drop, show n + (a + d + 1) = m + 1 by omega, hk]
  rw [if_neg]
  rintro ⟨h1, h2⟩
  rcases h with h | ⟨h, h3⟩ | h
  · rw [atB_out s n (a + d) 46 (by omega)] at h1; cases h1
  · subst hm; rw [atB_in s n (a + d) 46 (by omega)] at h1; simp only [show n + (a + d) = n + a + d by omega] at h1; exact h3 (of_decide_eq_true h1)
  · omega
theorem num_yes (s : ByteArray) (n a d m k : Nat) (hs : signW (s.data.toList.drop n) = a) (hd : digitsL (s.data.toList.drop (n + a)) = d) (hm : m = n + a + d) (hk : digitsL (s.data.toList.drop (m + 1)) = k)
    (h : m < s.size) (h3 : bn s[m] = 46) (h0 : 0 < k) : numberL (s.data.toList.drop n) = a + d + 1 + k := by
  unfold numberL
  rw [hs, List.drop_drop, hd, List.drop_drop, show n + (a + d + 1) = m + 1 by omega, hk]
  rw [if_pos]
  refine ⟨?_, h0⟩
  subst hm; rw [atB_in s n (a + d) 46 (by omega)]; simp only [show n + (a + d) = n + a + d by omega]; exact decide_eq_true h3
set_option maxHeartbeats 1000000 in
set_option maxRecDepth 100000 in
theorem refNumber_any (s : ByteArray) (a : Int) (w : World) (hs : s.size ≤ 4611686018427387903) (h0 : 0 ≤ a) (ha : a ≤ s.size) :
    Calls Tryz.prog 104 #[.string s, .int .i64 a] w fun e w' => e = .returned (.int .i64 (numberL (s.data.toList.drop a.toNat))) ∧ w = w' := by
  obtain ⟨n, rfl⟩ := Int.eq_ofNat_of_zero_le h0
  rw [Int.toNat_natCast]
  have D := Lib.hid (fun x => refDigits_any s x)
  by_cases h : n < s.size
  · by_cases h43 : bn s[n] = 43
    · have g43 : ((s[n].toNat : Int) == 43) = true := by simpa using h43
      have SG := signW_at s n h
      rw [if_pos (Or.inl h43)] at SG
      clear h43
      have SG2 := Lib.hid SG
      clear SG
      have S := Lib.hid (SG2.out)
      have dle := digitsL_le (s.data.toList.drop (n + 1))
      rw [List.length_drop, Array.length_toList] at dle
      have dle : digitsL (s.data.toList.drop (n + 1)) ≤ s.size - (n + 1) := dle
      generalize hd : digitsL (s.data.toList.drop (n + 1)) = d at *
      have HD := Lib.hid hd
      obtain ⟨m, hm⟩ : ∃ m, m = n + 1 + d := ⟨_, rfl⟩
      have hm2 : (n : Int) + 1 + (d : Int) = (m : Int) := by omega
      have hmn : n ≤ m ∧ m ≤ s.size := by omega
      have kle := digitsL_le (s.data.toList.drop (m + 1))
      rw [List.length_drop, Array.length_toList] at kle
      have kle : digitsL (s.data.toList.drop (m + 1)) ≤ s.size - (m + 1) := kle
      generalize hk : digitsL (s.data.toList.drop (m + 1)) = k at *
      have HK := Lib.hid hk
      have HM := Lib.hid hm
      clear hm
      by_cases hms : m < s.size
      · by_cases hp : bn s[m] = 46
        · have g46 : ((s[m].toNat : Int) == 46) = true := by simpa using hp
          by_cases hk0 : 0 < k
          · have R := Lib.hid (num_yes s n 1 d m k S.out HD.out HM.out HK.out hms hp hk0)
            clear hp
            go_enter Tryz.func104, Tryz.ntmps104
            go_wp2_with (go_at_call 119; refine (D.out _ _ (by omega) (by omega) (by omega)).mono ?_; rintro e w' ⟨rfl, rfl⟩)
            go_ret
            exact ⟨ret_in (by rw [R.out]; have := HM.out; omega), rfl⟩
          · have R := Lib.hid (num_no s n 1 d m k S.out HD.out HM.out HK.out (Or.inr (Or.inr (by omega))))
            clear hp
            by_cases hd0 : d = 0
            · have g0 : ((d : Int) == 0) = true := beq_iff_eq.2 (by omega)
              have hd1 := Lib.hid hd0
              clear hd0
              go_enter Tryz.func104, Tryz.ntmps104
              go_wp2_with (go_at_call 119; refine (D.out _ _ (by omega) (by omega) (by omega)).mono ?_; rintro e w' ⟨rfl, rfl⟩)
              go_ret
              exact ⟨ret_in (by rw [R.out, if_pos hd1.out]; rfl), rfl⟩
            · have g0 : ((d : Int) == 0) = false := beq_eq_false_iff_ne.2 (by omega)
              have hd1 := Lib.hid hd0
              clear hd0
              go_enter Tryz.func104, Tryz.ntmps104
              go_wp2_with (go_at_call 119; refine (D.out _ _ (by omega) (by omega) (by omega)).mono ?_; rintro e w' ⟨rfl, rfl⟩)
              go_ret
              exact ⟨ret_in (by rw [R.out, if_neg hd1.out]; have := HM.out; omega), rfl⟩

        · have g46 : ((s[m].toNat : Int) == 46) = false := by simpa using hp
          have R := Lib.hid (num_no s n 1 d m k S.out HD.out HM.out HK.out (Or.inr (Or.inl ⟨hms, hp⟩)))
          clear hp
          by_cases hd0 : d = 0
          · have g0 : ((d : Int) == 0) = true := beq_iff_eq.2 (by omega)
            have hd1 := Lib.hid hd0
            clear hd0
            go_enter Tryz.func104, Tryz.ntmps104
            go_wp2_with (go_at_call 119; refine (D.out _ _ (by omega) (by omega) (by omega)).mono ?_; rintro e w' ⟨rfl, rfl⟩)
            go_ret
            exact ⟨ret_in (by rw [R.out, if_pos hd1.out]; rfl), rfl⟩
          · have g0 : ((d : Int) == 0) = false := beq_eq_false_iff_ne.2 (by omega)
            have hd1 := Lib.hid hd0
            clear hd0
            go_enter Tryz.func104, Tryz.ntmps104
            go_wp2_with (go_at_call 119; refine (D.out _ _ (by omega) (by omega) (by omega)).mono ?_; rintro e w' ⟨rfl, rfl⟩)
            go_ret
            exact ⟨ret_in (by rw [R.out, if_neg hd1.out]; have := HM.out; omega), rfl⟩

      · have R := Lib.hid (num_no s n 1 d m k S.out HD.out HM.out HK.out (Or.inl hms))
        by_cases hd0 : d = 0
        · have g0 : ((d : Int) == 0) = true := beq_iff_eq.2 (by omega)
          have hd1 := Lib.hid hd0
          clear hd0
          go_enter Tryz.func104, Tryz.ntmps104
          go_wp2_with (go_at_call 119; refine (D.out _ _ (by omega) (by omega) (by omega)).mono ?_; rintro e w' ⟨rfl, rfl⟩)
          go_ret
          exact ⟨ret_in (by rw [R.out, if_pos hd1.out]; rfl), rfl⟩
        · have g0 : ((d : Int) == 0) = false := beq_eq_false_iff_ne.2 (by omega)
          have hd1 := Lib.hid hd0
          clear hd0
          go_enter Tryz.func104, Tryz.ntmps104
          go_wp2_with (go_at_call 119; refine (D.out _ _ (by omega) (by omega) (by omega)).mono ?_; rintro e w' ⟨rfl, rfl⟩)
          go_ret
          exact ⟨ret_in (by rw [R.out, if_neg hd1.out]; have := HM.out; omega), rfl⟩

    · have g43 : ((s[n].toNat : Int) == 43) = false := by simpa using h43
      by_cases h45 : bn s[n] = 45
      · have g45 : ((s[n].toNat : Int) == 45) = true := by simpa using h45
        have SG := signW_at s n h
        rw [if_pos (Or.inr h45)] at SG
        clear h43 h45
        have SG2 := Lib.hid SG
        clear SG
        have S := Lib.hid (SG2.out)
        have dle := digitsL_le (s.data.toList.drop (n + 1))
        rw [List.length_drop, Array.length_toList] at dle
        have dle : digitsL (s.data.toList.drop (n + 1)) ≤ s.size - (n + 1) := dle
        generalize hd : digitsL (s.data.toList.drop (n + 1)) = d at *
        have HD := Lib.hid hd
        obtain ⟨m, hm⟩ : ∃ m, m = n + 1 + d := ⟨_, rfl⟩
        have hm2 : (n : Int) + 1 + (d : Int) = (m : Int) := by omega
        have hmn : n ≤ m ∧ m ≤ s.size := by omega
        have kle := digitsL_le (s.data.toList.drop (m + 1))
        rw [List.length_drop, Array.length_toList] at kle
        have kle : digitsL (s.data.toList.drop (m + 1)) ≤ s.size - (m + 1) := kle
        generalize hk : digitsL (s.data.toList.drop (m + 1)) = k at *
        have HK := Lib.hid hk
        have HM := Lib.hid hm
        clear hm
        by_cases hms : m < s.size
        · by_cases hp : bn s[m] = 46
          · have g46 : ((s[m].toNat : Int) == 46) = true := by simpa using hp
            by_cases hk0 : 0 < k
            · have R := Lib.hid (num_yes s n 1 d m k S.out HD.out HM.out HK.out hms hp hk0)
              clear hp
              go_enter Tryz.func104, Tryz.ntmps104
              go_wp2_with (go_at_call 119; refine (D.out _ _ (by omega) (by omega) (by omega)).mono ?_; rintro e w' ⟨rfl, rfl⟩)
              go_ret
              exact ⟨ret_in (by rw [R.out]; have := HM.out; omega), rfl⟩
            · have R := Lib.hid (num_no s n 1 d m k S.out HD.out HM.out HK.out (Or.inr (Or.inr (by omega))))
              clear hp
              by_cases hd0 : d = 0
              · have g0 : ((d : Int) == 0) = true := beq_iff_eq.2 (by omega)
                have hd1 := Lib.hid hd0
                clear hd0
                go_enter Tryz.func104, Tryz.ntmps104
                go_wp2_with (go_at_call 119; refine (D.out _ _ (by omega) (by omega) (by omega)).mono ?_; rintro e w' ⟨rfl, rfl⟩)
                go_ret
                exact ⟨ret_in (by rw [R.out, if_pos hd1.out]; rfl), rfl⟩
              · have g0 : ((d : Int) == 0) = false := beq_eq_false_iff_ne.2 (by omega)
                have hd1 := Lib.hid hd0
                clear hd0
                go_enter Tryz.func104, Tryz.ntmps104
                go_wp2_with (go_at_call 119; refine (D.out _ _ (by omega) (by omega) (by omega)).mono ?_; rintro e w' ⟨rfl, rfl⟩)
                go_ret
                exact ⟨ret_in (by rw [R.out, if_neg hd1.out]; have := HM.out; omega), rfl⟩

          · have g46 : ((s[m].toNat : Int) == 46) = false := by simpa using hp
            have R := Lib.hid (num_no s n 1 d m k S.out HD.out HM.out HK.out (Or.inr (Or.inl ⟨hms, hp⟩)))
            clear hp
            by_cases hd0 : d = 0
            · have g0 : ((d : Int) == 0) = true := beq_iff_eq.2 (by omega)
              have hd1 := Lib.hid hd0
              clear hd0
              go_enter Tryz.func104, Tryz.ntmps104
              go_wp2_with (go_at_call 119; refine (D.out _ _ (by omega) (by omega) (by omega)).mono ?_; rintro e w' ⟨rfl, rfl⟩)
              go_ret
              exact ⟨ret_in (by rw [R.out, if_pos hd1.out]; rfl), rfl⟩
            · have g0 : ((d : Int) == 0) = false := beq_eq_false_iff_ne.2 (by omega)
              have hd1 := Lib.hid hd0
              clear hd0
              go_enter Tryz.func104, Tryz.ntmps104
              go_wp2_with (go_at_call 119; refine (D.out _ _ (by omega) (by omega) (by omega)).mono ?_; rintro e w' ⟨rfl, rfl⟩)
              go_ret
              exact ⟨ret_in (by rw [R.out, if_neg hd1.out]; have := HM.out; omega), rfl⟩

        · have R := Lib.hid (num_no s n 1 d m k S.out HD.out HM.out HK.out (Or.inl hms))
          by_cases hd0 : d = 0
          · have g0 : ((d : Int) == 0) = true := beq_iff_eq.2 (by omega)
            have hd1 := Lib.hid hd0
            clear hd0
            go_enter Tryz.func104, Tryz.ntmps104
            go_wp2_with (go_at_call 119; refine (D.out _ _ (by omega) (by omega) (by omega)).mono ?_; rintro e w' ⟨rfl, rfl⟩)
            go_ret
            exact ⟨ret_in (by rw [R.out, if_pos hd1.out]; rfl), rfl⟩
          · have g0 : ((d : Int) == 0) = false := beq_eq_false_iff_ne.2 (by omega)
            have hd1 := Lib.hid hd0
            clear hd0
            go_enter Tryz.func104, Tryz.ntmps104
            go_wp2_with (go_at_call 119; refine (D.out _ _ (by omega) (by omega) (by omega)).mono ?_; rintro e w' ⟨rfl, rfl⟩)
            go_ret
            exact ⟨ret_in (by rw [R.out, if_neg hd1.out]; have := HM.out; omega), rfl⟩

      · have g45 : ((s[n].toNat : Int) == 45) = false := by simpa using h45
        have SG := signW_at s n h
        rw [if_neg (by rintro (h | h); exact h43 h; exact h45 h)] at SG
        clear h43 h45
        have SG2 := Lib.hid SG
        clear SG
        have S := Lib.hid (SG2.out)
        have dle := digitsL_le (s.data.toList.drop (n))
        rw [List.length_drop, Array.length_toList] at dle
        have dle : digitsL (s.data.toList.drop (n)) ≤ s.size - (n) := dle
        generalize hd : digitsL (s.data.toList.drop (n)) = d at *
        have HD := Lib.hid hd
        obtain ⟨m, hm⟩ : ∃ m, m = n + d := ⟨_, rfl⟩
        have hm2 : (n : Int) + (d : Int) = (m : Int) := by omega
        have hmn : n ≤ m ∧ m ≤ s.size := by omega
        have kle := digitsL_le (s.data.toList.drop (m + 1))
        rw [List.length_drop, Array.length_toList] at kle
        have kle : digitsL (s.data.toList.drop (m + 1)) ≤ s.size - (m + 1) := kle
        generalize hk : digitsL (s.data.toList.drop (m + 1)) = k at *
        have HK := Lib.hid hk
        have HM := Lib.hid hm
        clear hm
        by_cases hms : m < s.size
        · by_cases hp : bn s[m] = 46
          · have g46 : ((s[m].toNat : Int) == 46) = true := by simpa using hp
            by_cases hk0 : 0 < k
            · have R := Lib.hid (num_yes s n 0 d m k S.out HD.out HM.out HK.out hms hp hk0)
              clear hp
              go_enter Tryz.func104, Tryz.ntmps104
              go_wp2_with (go_at_call 119; refine (D.out _ _ (by omega) (by omega) (by omega)).mono ?_; rintro e w' ⟨rfl, rfl⟩)
              go_ret
              exact ⟨ret_in (by rw [R.out]; have := HM.out; omega), rfl⟩
            · have R := Lib.hid (num_no s n 0 d m k S.out HD.out HM.out HK.out (Or.inr (Or.inr (by omega))))
              clear hp
              by_cases hd0 : d = 0
              · have g0 : ((d : Int) == 0) = true := beq_iff_eq.2 (by omega)
                have hd1 := Lib.hid hd0
                clear hd0
                go_enter Tryz.func104, Tryz.ntmps104
                go_wp2_with (go_at_call 119; refine (D.out _ _ (by omega) (by omega) (by omega)).mono ?_; rintro e w' ⟨rfl, rfl⟩)
                go_ret
                exact ⟨ret_in (by rw [R.out, if_pos hd1.out]; rfl), rfl⟩
              · have g0 : ((d : Int) == 0) = false := beq_eq_false_iff_ne.2 (by omega)
                have hd1 := Lib.hid hd0
                clear hd0
                go_enter Tryz.func104, Tryz.ntmps104
                go_wp2_with (go_at_call 119; refine (D.out _ _ (by omega) (by omega) (by omega)).mono ?_; rintro e w' ⟨rfl, rfl⟩)
                go_ret
                exact ⟨ret_in (by rw [R.out, if_neg hd1.out]; have := HM.out; omega), rfl⟩

          · have g46 : ((s[m].toNat : Int) == 46) = false := by simpa using hp
            have R := Lib.hid (num_no s n 0 d m k S.out HD.out HM.out HK.out (Or.inr (Or.inl ⟨hms, hp⟩)))
            clear hp
            by_cases hd0 : d = 0
            · have g0 : ((d : Int) == 0) = true := beq_iff_eq.2 (by omega)
              have hd1 := Lib.hid hd0
              clear hd0
              go_enter Tryz.func104, Tryz.ntmps104
              go_wp2_with (go_at_call 119; refine (D.out _ _ (by omega) (by omega) (by omega)).mono ?_; rintro e w' ⟨rfl, rfl⟩)
              go_ret
              exact ⟨ret_in (by rw [R.out, if_pos hd1.out]; rfl), rfl⟩
            · have g0 : ((d : Int) == 0) = false := beq_eq_false_iff_ne.2 (by omega)
              have hd1 := Lib.hid hd0
              clear hd0
              go_enter Tryz.func104, Tryz.ntmps104
              go_wp2_with (go_at_call 119; refine (D.out _ _ (by omega) (by omega) (by omega)).mono ?_; rintro e w' ⟨rfl, rfl⟩)
              go_ret
              exact ⟨ret_in (by rw [R.out, if_neg hd1.out]; have := HM.out; omega), rfl⟩

        · have R := Lib.hid (num_no s n 0 d m k S.out HD.out HM.out HK.out (Or.inl hms))
          by_cases hd0 : d = 0
          · have g0 : ((d : Int) == 0) = true := beq_iff_eq.2 (by omega)
            have hd1 := Lib.hid hd0
            clear hd0
            go_enter Tryz.func104, Tryz.ntmps104
            go_wp2_with (go_at_call 119; refine (D.out _ _ (by omega) (by omega) (by omega)).mono ?_; rintro e w' ⟨rfl, rfl⟩)
            go_ret
            exact ⟨ret_in (by rw [R.out, if_pos hd1.out]; rfl), rfl⟩
          · have g0 : ((d : Int) == 0) = false := beq_eq_false_iff_ne.2 (by omega)
            have hd1 := Lib.hid hd0
            clear hd0
            go_enter Tryz.func104, Tryz.ntmps104
            go_wp2_with (go_at_call 119; refine (D.out _ _ (by omega) (by omega) (by omega)).mono ?_; rintro e w' ⟨rfl, rfl⟩)
            go_ret
            exact ⟨ret_in (by rw [R.out, if_neg hd1.out]; have := HM.out; omega), rfl⟩

  · have SG := signW_end s n h
    have SG2 := Lib.hid SG
    clear SG
    have S := Lib.hid (SG2.out)
    have dle := digitsL_le (s.data.toList.drop (n))
    rw [List.length_drop, Array.length_toList] at dle
    have dle : digitsL (s.data.toList.drop (n)) ≤ s.size - (n) := dle
    generalize hd : digitsL (s.data.toList.drop (n)) = d at *
    have HD := Lib.hid hd
    obtain ⟨m, hm⟩ : ∃ m, m = n + d := ⟨_, rfl⟩
    have hm2 : (n : Int) + (d : Int) = (m : Int) := by omega
    have hmn : n ≤ m ∧ m ≤ s.size := by omega
    have kle := digitsL_le (s.data.toList.drop (m + 1))
    rw [List.length_drop, Array.length_toList] at kle
    have kle : digitsL (s.data.toList.drop (m + 1)) ≤ s.size - (m + 1) := kle
    generalize hk : digitsL (s.data.toList.drop (m + 1)) = k at *
    have HK := Lib.hid hk
    have HM := Lib.hid hm
    clear hm
    by_cases hms : m < s.size
    · by_cases hp : bn s[m] = 46
      · have g46 : ((s[m].toNat : Int) == 46) = true := by simpa using hp
        by_cases hk0 : 0 < k
        · have R := Lib.hid (num_yes s n 0 d m k S.out HD.out HM.out HK.out hms hp hk0)
          clear hp
          go_enter Tryz.func104, Tryz.ntmps104
          go_wp2_with (go_at_call 119; refine (D.out _ _ (by omega) (by omega) (by omega)).mono ?_; rintro e w' ⟨rfl, rfl⟩)
          go_ret
          exact ⟨ret_in (by rw [R.out]; have := HM.out; omega), rfl⟩
        · have R := Lib.hid (num_no s n 0 d m k S.out HD.out HM.out HK.out (Or.inr (Or.inr (by omega))))
          clear hp
          by_cases hd0 : d = 0
          · have g0 : ((d : Int) == 0) = true := beq_iff_eq.2 (by omega)
            have hd1 := Lib.hid hd0
            clear hd0
            go_enter Tryz.func104, Tryz.ntmps104
            go_wp2_with (go_at_call 119; refine (D.out _ _ (by omega) (by omega) (by omega)).mono ?_; rintro e w' ⟨rfl, rfl⟩)
            go_ret
            exact ⟨ret_in (by rw [R.out, if_pos hd1.out]; rfl), rfl⟩
          · have g0 : ((d : Int) == 0) = false := beq_eq_false_iff_ne.2 (by omega)
            have hd1 := Lib.hid hd0
            clear hd0
            go_enter Tryz.func104, Tryz.ntmps104
            go_wp2_with (go_at_call 119; refine (D.out _ _ (by omega) (by omega) (by omega)).mono ?_; rintro e w' ⟨rfl, rfl⟩)
            go_ret
            exact ⟨ret_in (by rw [R.out, if_neg hd1.out]; have := HM.out; omega), rfl⟩

      · have g46 : ((s[m].toNat : Int) == 46) = false := by simpa using hp
        have R := Lib.hid (num_no s n 0 d m k S.out HD.out HM.out HK.out (Or.inr (Or.inl ⟨hms, hp⟩)))
        clear hp
        by_cases hd0 : d = 0
        · have g0 : ((d : Int) == 0) = true := beq_iff_eq.2 (by omega)
          have hd1 := Lib.hid hd0
          clear hd0
          go_enter Tryz.func104, Tryz.ntmps104
          go_wp2_with (go_at_call 119; refine (D.out _ _ (by omega) (by omega) (by omega)).mono ?_; rintro e w' ⟨rfl, rfl⟩)
          go_ret
          exact ⟨ret_in (by rw [R.out, if_pos hd1.out]; rfl), rfl⟩
        · have g0 : ((d : Int) == 0) = false := beq_eq_false_iff_ne.2 (by omega)
          have hd1 := Lib.hid hd0
          clear hd0
          go_enter Tryz.func104, Tryz.ntmps104
          go_wp2_with (go_at_call 119; refine (D.out _ _ (by omega) (by omega) (by omega)).mono ?_; rintro e w' ⟨rfl, rfl⟩)
          go_ret
          exact ⟨ret_in (by rw [R.out, if_neg hd1.out]; have := HM.out; omega), rfl⟩

    · have R := Lib.hid (num_no s n 0 d m k S.out HD.out HM.out HK.out (Or.inl hms))
      by_cases hd0 : d = 0
      · have g0 : ((d : Int) == 0) = true := beq_iff_eq.2 (by omega)
        have hd1 := Lib.hid hd0
        clear hd0
        go_enter Tryz.func104, Tryz.ntmps104
        go_wp2_with (go_at_call 119; refine (D.out _ _ (by omega) (by omega) (by omega)).mono ?_; rintro e w' ⟨rfl, rfl⟩)
        go_ret
        exact ⟨ret_in (by rw [R.out, if_pos hd1.out]; rfl), rfl⟩
      · have g0 : ((d : Int) == 0) = false := beq_eq_false_iff_ne.2 (by omega)
        have hd1 := Lib.hid hd0
        clear hd0
        go_enter Tryz.func104, Tryz.ntmps104
        go_wp2_with (go_at_call 119; refine (D.out _ _ (by omega) (by omega) (by omega)).mono ?_; rintro e w' ⟨rfl, rfl⟩)
        go_ret
        exact ⟨ret_in (by rw [R.out, if_neg hd1.out]; have := HM.out; omega), rfl⟩

end Go.Proofs.YtikhghmnclpigaaGreatDoor
