/-
  The walks of ref01.Digits, Number and ref05.Blank, Blanks.
-/
import Derived.Test.YthlkgkjkjpboiaaDoorNames
import Derived.Test.YthlkgkjkjpboiaaDoorLexPlain
namespace Go.Proofs.YthlkgkjkjpboiaaDoor
open Go.RowKit Wsc
theorem refBlank_any (n : Int) (w : World) :
    Calls Tryd.prog 56 #[.int .u8 n] w fun e w' => e = .returned (.bool (blankB n)) ∧ w = w' := by
  go_enter Tryd.func56, Tryd.ntmps56
  go_wp2
  all_goals go_ret
  all_goals exact ⟨ret_bo (by go_light; rw [Bool.eq_iff_iff]; simp [blankB] <;> omega), rfl⟩
theorem refDigits_any (s : ByteArray) (a : Int) (w : World) (hs : s.size ≤ 4611686018427387904) (h0 : 0 ≤ a) (ha : a ≤ 4611686018427387904) :
    Calls Tryd.prog 73 #[.string s, .int .i64 a] w fun e w' => e = .returned (.int .i64 (digitsL (s.data.toList.drop a.toNat))) ∧ w = w' := by
  obtain ⟨n, rfl⟩ := Int.eq_ofNat_of_zero_le h0
  rw [Int.toNat_natCast]
  unfold digitsL
  go_enter Tryd.func73, Tryd.ntmps73
  go_wp2
  go_loop [1, 5] (fun i r => ∃ j k : Nat, j ≤ n + s.size ∧ i = .int .i64 j ∧ r = .int .i64 k ∧ k ≤ s.size ∧ (j ≤ s.size ∨ j = n) ∧ n + k = j ∧ Hid ((runOf digB (s.data.toList.drop n)).length = k + (runOf digB (s.data.toList.drop j)).length)) (fun i _ => n + s.size - (intOf i).toNat)
  case atStart => exact ⟨n, 0, by omega, rfl, rfl, Nat.zero_le _, Or.inr rfl, by omega, Lib.hid (by simp)⟩
  case round =>
    obtain ⟨j, k, hj, rfl, rfl, hk, hjs, hnk, H⟩ := hrel
    by_cases hjl : j < s.size
    · have hnk := Lib.hid hnk
      by_cases h1 : 48 ≤ bn s[j]
      · have g1 : decide ((48 : Int) ≤ s[j].toNat) = true := by simpa using h1
        by_cases h2 : bn s[j] ≤ 57
        · have g2 : decide ((s[j].toNat : Int) ≤ 57) = true := by simpa using h2
          have R := Lib.hid (runOf_go digB s j hjl (by simp [digB]; omega))
          have hk' : k + 1 ≤ s.size := by have := hnk.out; omega
          clear h1 h2 hjs
          go_wp2
          go_round
          case rel => exact ⟨j + 1, k + 1, by omega, by go_num, by go_num, hk', Or.inl (by omega), by have := hnk.out; omega, by have := H.out; rw [R.out] at this; rw [Hid, this]; omega⟩
          case measure => simp [intOf]; omega
        · have g2 : decide ((s[j].toNat : Int) ≤ 57) = false := by simpa using h2
          have R := Lib.hid (runOf_stop digB s j hjl (by simp [digB]; omega))
          clear h1 h2 hjs
          go_wp2
          go_ret
          exact ⟨ret_in (by rw [H.out, R.out]; simp), rfl⟩
      · have g1 : decide ((48 : Int) ≤ s[j].toNat) = false := by simpa using h1
        have R := Lib.hid (runOf_stop digB s j hjl (by simp [digB]; omega))
        clear h1 hjs
        go_wp2
        go_ret
        exact ⟨ret_in (by rw [H.out, R.out]; simp), rfl⟩
    · have R := Lib.hid (runOf_end digB s j hjl)
      have hnk := Lib.hid hnk
      clear hjs
      go_wp2
      go_ret
      exact ⟨ret_in (by rw [H.out, R.out]; simp), rfl⟩
theorem refBlanks_any (s : ByteArray) (a : Int) (w : World) (hs : s.size ≤ 4611686018427387904) (h0 : 0 ≤ a) (ha : a ≤ 4611686018427387904) :
    Calls Tryd.prog 57 #[.string s, .int .i64 a] w fun e w' => e = .returned (.int .i64 (runOf blankB (s.data.toList.drop a.toNat)).length) ∧ w = w' := by
  obtain ⟨n, rfl⟩ := Int.eq_ofNat_of_zero_le h0
  rw [Int.toNat_natCast]
  go_enter Tryd.func57, Tryd.ntmps57
  go_wp2
  go_loop [1, 5] (fun i r => ∃ j k : Nat, j ≤ n + s.size ∧ i = .int .i64 j ∧ r = .int .i64 k ∧ k ≤ s.size ∧ (j ≤ s.size ∨ j = n) ∧ n + k = j ∧ Hid ((runOf blankB (s.data.toList.drop n)).length = k + (runOf blankB (s.data.toList.drop j)).length)) (fun i _ => n + s.size - (intOf i).toNat)
  case atStart => exact ⟨n, 0, by omega, rfl, rfl, Nat.zero_le _, Or.inr rfl, by omega, Lib.hid (by simp)⟩
  case round =>
    obtain ⟨j, k, hj, rfl, rfl, hk, hjs, hnk, H⟩ := hrel
    by_cases hjl : j < s.size
    · cases hg : blankB (bn s[j])
      · have R := runOf_stop blankB s j hjl hg
        have R := Lib.hid R
        have B := refBlank_any (bn s[j])
        rw [hg] at B
        have B := Lib.hid B
        clear hg
        have hnk := Lib.hid hnk
        clear hjs
        go_wp2_with (go_at_call 56; refine (B.out _).mono ?_; rintro e w' ⟨rfl, rfl⟩)
        go_ret
        exact ⟨ret_in (by rw [H.out, R.out]; simp), rfl⟩
      · have R := runOf_go blankB s j hjl hg
        have R := Lib.hid R
        have B := refBlank_any (bn s[j])
        rw [hg] at B
        have B := Lib.hid B
        clear hg
        have hk' : k + 1 ≤ s.size := by omega
        have hnk := Lib.hid hnk
        clear hjs
        go_wp2_with (go_at_call 56; refine (B.out _).mono ?_; rintro e w' ⟨rfl, rfl⟩)
        go_round
        case rel => exact ⟨j + 1, k + 1, by omega, by go_num, by go_num, hk', Or.inl (by omega), by have := hnk.out; omega, by have := H.out; rw [R.out] at this; rw [Hid, this]; omega⟩
        case measure => simp [intOf]; omega
    · have R := Lib.hid (runOf_end blankB s j hjl)
      have hnk := Lib.hid hnk
      clear hjs
      go_wp2
      go_ret
      exact ⟨ret_in (by rw [H.out, R.out]; simp), rfl⟩
end Go.Proofs.YthlkgkjkjpboiaaDoor
