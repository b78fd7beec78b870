/-
  The walk of ref01.Number. Printed by wip/gen_number.py.
-/
import Derived.Test.YthlkgkjkjpboiaaDoorLexB
namespace Go.Proofs.YthlkgkjkjpboiaaDoor
open Go.RowKit Wsc
theorem num_no (s : ByteArray) (n a d m k : Nat) (hs : signW (s.data.toList.drop n) = a) (hd : digitsL (s.data.toList.drop (n + a)) = d) (hm : m = n + a + d) (hk : digitsL (s.data.toList.drop (m + 1)) = k)
    (h : ¬ m < s.size ∨ (∃ h : m < s.size, ¬ bn s[m] = 46) ∨ k = 0) : numberL (s.data.toList.drop n) = if d = 0 then 0 else a + d := by
  unfold numberL
  rw [hs, List.drop_drop, hd, List.drop_drop, show n + (a + d + 1) = m + 1 by omega, hk]
  rw [if_neg]
  rintro ⟨h1, h2⟩
  rcases h with h | ⟨h, h3⟩ | h
  · rw [atB_out s n (a + d) 46 (by omega)] at h1; cases h1
  · subst hm; rw [atB_in s n (a + d) 46 (by omega)] at h1; simp only [show n + (a + d) = n + a + d by omega] at h1; exact h3 (of_decide_eq_true h1)
  · omega
theorem num_yes (s : ByteArray) (n a d m k : Nat) (hs : signW (s.data.toList.drop n) = a) (hd : digitsL (s.data.toList.drop (n + a)) = d) (hm : m = n + a + d) (hk : digitsL (s.data.toList.drop (m + 1)) = k)
    (h : m < s.size) (h3 : bn s[m] = 46) (h0 : 0 < k) : numberL (s.data.toList.drop n) = a + d + 1 + k := by
  unfold numberL
  rw [hs, List.drop_drop, hd, List.drop_drop, show n + (a + d + 1) = m + 1 by omega, hk]
  rw [if_pos]
  refine ⟨?_, h0⟩
  subst hm; rw [atB_in s n (a + d) 46 (by omega)]; simp only [show n + (a + d) = n + a + d by omega]; exact decide_eq_true h3
set_option maxHeartbeats 1000000 in
set_option maxRecDepth 100000 in
theorem refNumber_any (s : ByteArray) (a : Int) (w : World) (hs : s.size ≤ 4611686018427387903) (h0 : 0 ≤ a) (ha : a ≤ s.size) :
    Calls Tryd.prog 59 #[.string s, .int .i64 a] w fun e w' => e = .returned (.int .i64 (numberL (s.data.toList.drop a.toNat))) ∧ w = w' := by
  obtain ⟨n, rfl⟩ := Int.eq_ofNat_of_zero_le h0
  rw [Int.toNat_natCast]
  have D := Lib.hid (fun x => refDigits_any s x)
  by_cases h : n < s.size
  · by_cases h43 : bn s[n] = 43
    · have g43 : ((s[n].toNat : Int) == 43) = true := by simpa using h43
      have SG := signW_at s n h
      rw [if_pos (Or.inl h43)] at SG
      clear h43
      have SG2 := Lib.hid SG
      clear SG
      have S := Lib.hid (SG2.out)
      have dle := digitsL_le (s.data.toList.drop (n + 1))
      rw [List.length_drop, Array.length_toList] at dle
      have dle : digitsL (s.data.toList.drop (n + 1)) ≤ s.size - (n + 1) := dle
      generalize hd : digitsL (s.data.toList.drop (n + 1)) = d at *
      have HD := Lib.hid hd
      obtain ⟨m, hm⟩ : ∃ m, m = n + 1 + d := ⟨_, rfl⟩
      have hm2 : (n : Int) + 1 + (d : Int) = (m : Int) := by omega
      have hmn : n ≤ m ∧ m ≤ s.size := by omega
      have kle := digitsL_le (s.data.toList.drop (m + 1))
      rw [List.length_drop, Array.length_toList] at kle
      have kle : digitsL (s.data.toList.drop (m + 1)) ≤ s.size - (m + 1) := kle
      generalize hk : digitsL (s.data.toList.drop (m + 1)) = k at *
      have HK := Lib.hid hk
      have HM := Lib.hid hm
      clear hm
      by_cases hms : m < s.size
      · by_cases hp : bn s[m] = 46
        · have g46 : ((s[m].toNat : Int) == 46) = true := by simpa using hp
          by_cases hk0 : 0 < k
          · have R := Lib.hid (num_yes s n 1 d m k S.out HD.out HM.out HK.out hms hp hk0)
            clear hp
            go_enter Tryd.func59, Tryd.ntmps59
            go_wp2_with (go_at_call 73; refine (D.out _ _ (by omega) (by omega) (by omega)).mono ?_; rintro e w' ⟨rfl, rfl⟩)
            go_ret
            exact ⟨ret_in (by rw [R.out]; have := HM.out; omega), rfl⟩
          · have R := Lib.hid (num_no s n 1 d m k S.out HD.out HM.out HK.out (Or.inr (Or.inr (by omega))))
            clear hp
            by_cases hd0 : d = 0
            · have g0 : ((d : Int) == 0) = true := beq_iff_eq.2 (by omega)
              have hd1 := Lib.hid hd0
              clear hd0
              go_enter Tryd.func59, Tryd.ntmps59
              go_wp2_with (go_at_call 73; refine (D.out _ _ (by omega) (by omega) (by omega)).mono ?_; rintro e w' ⟨rfl, rfl⟩)
              go_ret
              exact ⟨ret_in (by rw [R.out, if_pos hd1.out]; rfl), rfl⟩
            · have g0 : ((d : Int) == 0) = false := beq_eq_false_iff_ne.2 (by omega)
              have hd1 := Lib.hid hd0
              clear hd0
              go_enter Tryd.func59, Tryd.ntmps59
              go_wp2_with (go_at_call 73; refine (D.out _ _ (by omega) (by omega) (by omega)).mono ?_; rintro e w' ⟨rfl, rfl⟩)
              go_ret
              exact ⟨ret_in (by rw [R.out, if_neg hd1.out]; have := HM.out; omega), rfl⟩

        · have g46 : ((s[m].toNat : Int) == 46) = false := by simpa using hp
          have R := Lib.hid (num_no s n 1 d m k S.out HD.out HM.out HK.out (Or.inr (Or.inl ⟨hms, hp⟩)))
          clear hp
          by_cases hd0 : d = 0
          · have g0 : ((d : Int) == 0) = true := beq_iff_eq.2 (by omega)
            have hd1 := Lib.hid hd0
            clear hd0
            go_enter Tryd.func59, Tryd.ntmps59
            go_wp2_with (go_at_call 73; refine (D.out _ _ (by omega) (by omega) (by omega)).mono ?_; rintro e w' ⟨rfl, rfl⟩)
            go_ret
            exact ⟨ret_in (by rw [R.out, if_pos hd1.out]; rfl), rfl⟩
          · have g0 : ((d : Int) == 0) = false := beq_eq_false_iff_ne.2 (by omega)
            have hd1 := Lib.hid hd0
            clear hd0
            go_enter Tryd.func59, Tryd.ntmps59
            go_wp2_with (go_at_call 73; refine (D.out _ _ (by omega) (by omega) (by omega)).mono ?_; rintro e w' ⟨rfl, rfl⟩)
            go_ret
            exact ⟨ret_in (by rw [R.out, if_neg hd1.out]; have := HM.out; omega), rfl⟩

      · have R := Lib.hid (num_no s n 1 d m k S.out HD.out HM.out HK.out (Or.inl hms))
        by_cases hd0 : d = 0
        · have g0 : ((d : Int) == 0) = true := beq_iff_eq.2 (by omega)
          have hd1 := Lib.hid hd0
          clear hd0
          go_enter Tryd.func59, Tryd.ntmps59
          go_wp2_with (go_at_call 73; refine (D.out _ _ (by omega) (by omega) (by omega)).mono ?_; rintro e w' ⟨rfl, rfl⟩)
          go_ret
          exact ⟨ret_in (by rw [R.out, if_pos hd1.out]; rfl), rfl⟩
        · have g0 : ((d : Int) == 0) = false := beq_eq_false_iff_ne.2 (by omega)
          have hd1 := Lib.hid hd0
          clear hd0
          go_enter Tryd.func59, Tryd.ntmps59
          go_wp2_with (go_at_call 73; refine (D.out _ _ (by omega) (by omega) (by omega)).mono ?_; rintro e w' ⟨rfl, rfl⟩)
          go_ret
          exact ⟨ret_in (by rw [R.out, if_neg hd1.out]; have := HM.out; omega), rfl⟩

    · have g43 : ((s[n].toNat : Int) == 43) = false := by simpa using h43
      by_cases h45 : bn s[n] = 45
      · have g45 : ((s[n].toNat : Int) == 45) = true := by simpa using h45
        have SG := signW_at s n h
        rw [if_pos (Or.inr h45)] at SG
        clear h43 h45
        have SG2 := Lib.hid SG
        clear SG
        have S := Lib.hid (SG2.out)
        have dle := digitsL_le (s.data.toList.drop (n + 1))
        rw [List.length_drop, Array.length_toList] at dle
        have dle : digitsL (s.data.toList.drop (n + 1)) ≤ s.size - (n + 1) := dle
        generalize hd : digitsL (s.data.toList.drop (n + 1)) = d at *
        have HD := Lib.hid hd
        obtain ⟨m, hm⟩ : ∃ m, m = n + 1 + d := ⟨_, rfl⟩
        have hm2 : (n : Int) + 1 + (d : Int) = (m : Int) := by omega
        have hmn : n ≤ m ∧ m ≤ s.size := by omega
        have kle := digitsL_le (s.data.toList.drop (m + 1))
        rw [List.length_drop, Array.length_toList] at kle
        have kle : digitsL (s.data.toList.drop (m + 1)) ≤ s.size - (m + 1) := kle
        generalize hk : digitsL (s.data.toList.drop (m + 1)) = k at *
        have HK := Lib.hid hk
        have HM := Lib.hid hm
        clear hm
        by_cases hms : m < s.size
        · by_cases hp : bn s[m] = 46
          · have g46 : ((s[m].toNat : Int) == 46) = true := by simpa using hp
            by_cases hk0 : 0 < k
            · have R := Lib.hid (num_yes s n 1 d m k S.out HD.out HM.out HK.out hms hp hk0)
              clear hp
              go_enter Tryd.func59, Tryd.ntmps59
              go_wp2_with (go_at_call 73; refine (D.out _ _ (by omega) (by omega) (by omega)).mono ?_; rintro e w' ⟨rfl, rfl⟩)
              go_ret
              exact ⟨ret_in (by rw [R.out]; have := HM.out; omega), rfl⟩
            · have R := Lib.hid (num_no s n 1 d m k S.out HD.out HM.out HK.out (Or.inr (Or.inr (by omega))))
              clear hp
              by_cases hd0 : d = 0
              · have g0 : ((d : Int) == 0) = true := beq_iff_eq.2 (by omega)
                have hd1 := Lib.hid hd0
                clear hd0
                go_enter Tryd.func59, Tryd.ntmps59
                go_wp2_with (go_at_call 73; refine (D.out _ _ (by omega) (by omega) (by omega)).mono ?_; rintro e w' ⟨rfl, rfl⟩)
                go_ret
                exact ⟨ret_in (by rw [R.out, if_pos hd1.out]; rfl), rfl⟩
              · have g0 : ((d : Int) == 0) = false := beq_eq_false_iff_ne.2 (by omega)
                have hd1 := Lib.hid hd0
                clear hd0
                go_enter Tryd.func59, Tryd.ntmps59
                go_wp2_with (go_at_call 73; refine (D.out _ _ (by omega) (by omega) (by omega)).mono ?_; rintro e w' ⟨rfl, rfl⟩)
                go_ret
                exact ⟨ret_in (by rw [R.out, if_neg hd1.out]; have := HM.out; omega), rfl⟩

          · have g46 : ((s[m].toNat : Int) == 46) = false := by simpa using hp
            have R := Lib.hid (num_no s n 1 d m k S.out HD.out HM.out HK.out (Or.inr (Or.inl ⟨hms, hp⟩)))
            clear hp
            by_cases hd0 : d = 0
            · have g0 : ((d : Int) == 0) = true := beq_iff_eq.2 (by omega)
              have hd1 := Lib.hid hd0
              clear hd0
              go_enter Tryd.func59, Tryd.ntmps59
              go_wp2_with (go_at_call 73; refine (D.out _ _ (by omega) (by omega) (by omega)).mono ?_; rintro e w' ⟨rfl, rfl⟩)
              go_ret
              exact ⟨ret_in (by rw [R.out, if_pos hd1.out]; rfl), rfl⟩
            · have g0 : ((d : Int) == 0) = false := beq_eq_false_iff_ne.2 (by omega)
              have hd1 := Lib.hid hd0
              clear hd0
              go_enter Tryd.func59, Tryd.ntmps59
              go_wp2_with (go_at_call 73; refine (D.out _ _ (by omega) (by omega) (by omega)).mono ?_; rintro e w' ⟨rfl, rfl⟩)
              go_ret
              exact ⟨ret_in (by rw [R.out, if_neg hd1.out]; have := HM.out; omega), rfl⟩

        · have R := Lib.hid (num_no s n 1 d m k S.out HD.out HM.out HK.out (Or.inl hms))
          by_cases hd0 : d = 0
          · have g0 : ((d : Int) == 0) = true := beq_iff_eq.2 (by omega)
            have hd1 := Lib.hid hd0
            clear hd0
            go_enter Tryd.func59, Tryd.ntmps59
            go_wp2_with (go_at_call 73; refine (D.out _ _ (by omega) (by omega) (by omega)).mono ?_; rintro e w' ⟨rfl, rfl⟩)
            go_ret
            exact ⟨ret_in (by rw [R.out, if_pos hd1.out]; rfl), rfl⟩
          · have g0 : ((d : Int) == 0) = false := beq_eq_false_iff_ne.2 (by omega)
            have hd1 := Lib.hid hd0
            clear hd0
            go_enter Tryd.func59, Tryd.ntmps59
            go_wp2_with (go_at_call 73; refine (D.out _ _ (by omega) (by omega) (by omega)).mono ?_; rintro e w' ⟨rfl, rfl⟩)
            go_ret
            exact ⟨ret_in (by rw [R.out, if_neg hd1.out]; have := HM.out; omega), rfl⟩

      · have g45 : ((s[n].toNat : Int) == 45) = false := by simpa using h45
        have SG := signW_at s n h
        rw [if_neg (by rintro (h | h); exact h43 h; exact h45 h)] at SG
        clear h43 h45
        have SG2 := Lib.hid SG
        clear SG
        have S := Lib.hid (SG2.out)
        have dle := digitsL_le (s.data.toList.drop (n))
        rw [List.length_drop, Array.length_toList] at dle
        have dle : digitsL (s.data.toList.drop (n)) ≤ s.size - (n) := dle
        generalize hd : digitsL (s.data.toList.drop (n)) = d at *
        have HD := Lib.hid hd
        obtain ⟨m, hm⟩ : ∃ m, m = n + d := ⟨_, rfl⟩
        have hm2 : (n : Int) + (d : Int) = (m : Int) := by omega
        have hmn : n ≤ m ∧ m ≤ s.size := by omega
        have kle := digitsL_le (s.data.toList.drop (m + 1))
        rw [List.length_drop, Array.length_toList] at kle
        have kle : digitsL (s.data.toList.drop (m + 1)) ≤ s.size - (m + 1) := kle
        generalize hk : digitsL (s.data.toList.drop (m + 1)) = k at *
        have HK := Lib.hid hk
        have HM := Lib.hid hm
        clear hm
        by_cases hms : m < s.size
        · by_cases hp : bn s[m] = 46
          · have g46 : ((s[m].toNat : Int) == 46) = true := by simpa using hp
            by_cases hk0 : 0 < k
            · have R := Lib.hid (num_yes s n 0 d m k S.out HD.out HM.out HK.out hms hp hk0)
              clear hp
              go_enter Tryd.func59, Tryd.ntmps59
              go_wp2_with (go_at_call 73; refine (D.out _ _ (by omega) (by omega) (by omega)).mono ?_; rintro e w' ⟨rfl, rfl⟩)
              go_ret
              exact ⟨ret_in (by rw [R.out]; have := HM.out; omega), rfl⟩
            · have R := Lib.hid (num_no s n 0 d m k S.out HD.out HM.out HK.out (Or.inr (Or.inr (by omega))))
              clear hp
              by_cases hd0 : d = 0
              · have g0 : ((d : Int) == 0) = true := beq_iff_eq.2 (by omega)
                have hd1 := Lib.hid hd0
                clear hd0
                go_enter Tryd.func59, Tryd.ntmps59
                go_wp2_with (go_at_call 73; refine (D.out _ _ (by omega) (by omega) (by omega)).mono ?_; rintro e w' ⟨rfl, rfl⟩)
                go_ret
                exact ⟨ret_in (by rw [R.out, if_pos hd1.out]; rfl), rfl⟩
              · have g0 : ((d : Int) == 0) = false := beq_eq_false_iff_ne.2 (by omega)
                have hd1 := Lib.hid hd0
                clear hd0
                go_enter Tryd.func59, Tryd.ntmps59
                go_wp2_with (go_at_call 73; refine (D.out _ _ (by omega) (by omega) (by omega)).mono ?_; rintro e w' ⟨rfl, rfl⟩)
                go_ret
                exact ⟨ret_in (by rw [R.out, if_neg hd1.out]; have := HM.out; omega), rfl⟩

          · have g46 : ((s[m].toNat : Int) == 46) = false := by simpa using hp
            have R := Lib.hid (num_no s n 0 d m k S.out HD.out HM.out HK.out (Or.inr (Or.inl ⟨hms, hp⟩)))
            clear hp
            by_cases hd0 : d = 0
            · have g0 : ((d : Int) == 0) = true := beq_iff_eq.2 (by omega)
              have hd1 := Lib.hid hd0
              clear hd0
              go_enter Tryd.func59, Tryd.ntmps59
              go_wp2_with (go_at_call 73; refine (D.out _ _ (by omega) (by omega) (by omega)).mono ?_; rintro e w' ⟨rfl, rfl⟩)
              go_ret
              exact ⟨ret_in (by rw [R.out, if_pos hd1.out]; rfl), rfl⟩
            · have g0 : ((d : Int) == 0) = false := beq_eq_false_iff_ne.2 (by omega)
              have hd1 := Lib.hid hd0
              clear hd0
              go_enter Tryd.func59, Tryd.ntmps59
              go_wp2_with (go_at_call 73; refine (D.out _ _ (by omega) (by omega) (by omega)).mono ?_; rintro e w' ⟨rfl, rfl⟩)
              go_ret
              exact ⟨ret_in (by rw [R.out, if_neg hd1.out]; have := HM.out; omega), rfl⟩

        · have R := Lib.hid (num_no s n 0 d m k S.out HD.out HM.out HK.out (Or.inl hms))
          by_cases hd0 : d = 0
          · have g0 : ((d : Int) == 0) = true := beq_iff_eq.2 (by omega)
            have hd1 := Lib.hid hd0
            clear hd0
            go_enter Tryd.func59, Tryd.ntmps59
            go_wp2_with (go_at_call 73; refine (D.out _ _ (by omega) (by omega) (by omega)).mono ?_; rintro e w' ⟨rfl, rfl⟩)
            go_ret
            exact ⟨ret_in (by rw [R.out, if_pos hd1.out]; rfl), rfl⟩
          · have g0 : ((d : Int) == 0) = false := beq_eq_false_iff_ne.2 (by omega)
            have hd1 := Lib.hid hd0
            clear hd0
            go_enter Tryd.func59, Tryd.ntmps59
            go_wp2_with (go_at_call 73; refine (D.out _ _ (by omega) (by omega) (by omega)).mono ?_; rintro e w' ⟨rfl, rfl⟩)
            go_ret
            exact ⟨ret_in (by rw [R.out, if_neg hd1.out]; have := HM.out; omega), rfl⟩

  · have SG := signW_end s n h
    have SG2 := Lib.hid SG
    clear SG
    have S := Lib.hid (SG2.out)
    have dle := digitsL_le (s.data.toList.drop (n))
    rw [List.length_drop, Array.length_toList] at dle
    have dle : digitsL (s.data.toList.drop (n)) ≤ s.size - (n) := dle
    generalize hd : digitsL (s.data.toList.drop (n)) = d at *
    have HD := Lib.hid hd
    obtain ⟨m, hm⟩ : ∃ m, m = n + d := ⟨_, rfl⟩
    have hm2 : (n : Int) + (d : Int) = (m : Int) := by omega
    have hmn : n ≤ m ∧ m ≤ s.size := by omega
    have kle := digitsL_le (s.data.toList.drop (m + 1))
    rw [List.length_drop, Array.length_toList] at kle
    have kle : digitsL (s.data.toList.drop (m + 1)) ≤ s.size - (m + 1) := kle
    generalize hk : digitsL (s.data.toList.drop (m + 1)) = k at *
    have HK := Lib.hid hk
    have HM := Lib.hid hm
    clear hm
    by_cases hms : m < s.size
    · by_cases hp : bn s[m] = 46
      · have g46 : ((s[m].toNat : Int) == 46) = true := by simpa using hp
        by_cases hk0 : 0 < k
        · have R := Lib.hid (num_yes s n 0 d m k S.out HD.out HM.out HK.out hms hp hk0)
          clear hp
          go_enter Tryd.func59, Tryd.ntmps59
          go_wp2_with (go_at_call 73; refine (D.out _ _ (by omega) (by omega) (by omega)).mono ?_; rintro e w' ⟨rfl, rfl⟩)
          go_ret
          exact ⟨ret_in (by rw [R.out]; have := HM.out; omega), rfl⟩
        · have R := Lib.hid (num_no s n 0 d m k S.out HD.out HM.out HK.out (Or.inr (Or.inr (by omega))))
          clear hp
          by_cases hd0 : d = 0
          · have g0 : ((d : Int) == 0) = true := beq_iff_eq.2 (by omega)
            have hd1 := Lib.hid hd0
            clear hd0
            go_enter Tryd.func59, Tryd.ntmps59
            go_wp2_with (go_at_call 73; refine (D.out _ _ (by omega) (by omega) (by omega)).mono ?_; rintro e w' ⟨rfl, rfl⟩)
            go_ret
            exact ⟨ret_in (by rw [R.out, if_pos hd1.out]; rfl), rfl⟩
          · have g0 : ((d : Int) == 0) = false := beq_eq_false_iff_ne.2 (by omega)
            have hd1 := Lib.hid hd0
            clear hd0
            go_enter Tryd.func59, Tryd.ntmps59
            go_wp2_with (go_at_call 73; refine (D.out _ _ (by omega) (by omega) (by omega)).mono ?_; rintro e w' ⟨rfl, rfl⟩)
            go_ret
            exact ⟨ret_in (by rw [R.out, if_neg hd1.out]; have := HM.out; omega), rfl⟩

      · have g46 : ((s[m].toNat : Int) == 46) = false := by simpa using hp
        have R := Lib.hid (num_no s n 0 d m k S.out HD.out HM.out HK.out (Or.inr (Or.inl ⟨hms, hp⟩)))
        clear hp
        by_cases hd0 : d = 0
        · have g0 : ((d : Int) == 0) = true := beq_iff_eq.2 (by omega)
          have hd1 := Lib.hid hd0
          clear hd0
          go_enter Tryd.func59, Tryd.ntmps59
          go_wp2_with (go_at_call 73; refine (D.out _ _ (by omega) (by omega) (by omega)).mono ?_; rintro e w' ⟨rfl, rfl⟩)
          go_ret
          exact ⟨ret_in (by rw [R.out, if_pos hd1.out]; rfl), rfl⟩
        · have g0 : ((d : Int) == 0) = false := beq_eq_false_iff_ne.2 (by omega)
          have hd1 := Lib.hid hd0
          clear hd0
          go_enter Tryd.func59, Tryd.ntmps59
          go_wp2_with (go_at_call 73; refine (D.out _ _ (by omega) (by omega) (by omega)).mono ?_; rintro e w' ⟨rfl, rfl⟩)
          go_ret
          exact ⟨ret_in (by rw [R.out, if_neg hd1.out]; have := HM.out; omega), rfl⟩

    · have R := Lib.hid (num_no s n 0 d m k S.out HD.out HM.out HK.out (Or.inl hms))
      by_cases hd0 : d = 0
      · have g0 : ((d : Int) == 0) = true := beq_iff_eq.2 (by omega)
        have hd1 := Lib.hid hd0
        clear hd0
        go_enter Tryd.func59, Tryd.ntmps59
        go_wp2_with (go_at_call 73; refine (D.out _ _ (by omega) (by omega) (by omega)).mono ?_; rintro e w' ⟨rfl, rfl⟩)
        go_ret
        exact ⟨ret_in (by rw [R.out, if_pos hd1.out]; rfl), rfl⟩
      · have g0 : ((d : Int) == 0) = false := beq_eq_false_iff_ne.2 (by omega)
        have hd1 := Lib.hid hd0
        clear hd0
        go_enter Tryd.func59, Tryd.ntmps59
        go_wp2_with (go_at_call 73; refine (D.out _ _ (by omega) (by omega) (by omega)).mono ?_; rintro e w' ⟨rfl, rfl⟩)
        go_ret
        exact ⟨ret_in (by rw [R.out, if_neg hd1.out]; have := HM.out; omega), rfl⟩

end Go.Proofs.YthlkgkjkjpboiaaDoor
