/-
  The walks of ref05.Has, Behind, Sign and ref01.Number.
-/
import Derived.Test.YthlkgkjkjpboiaaDoorLexA
namespace Go.Proofs.YthlkgkjkjpboiaaDoor
open Go.RowKit Wsc
theorem refHas_any (s t : ByteArray) (a : Int) (w : World) (hs : s.size ≤ 4611686018427387904) (ht : t.size ≤ 4611686018427387904) (h0 : 0 ≤ a) (ha : a ≤ s.size) :
    Calls Tryd.prog 54 #[.string s, .int .i64 a, .string t] w fun e w' => e = .returned (.bool (hasL (s.data.toList.drop a.toNat) t.data.toList)) ∧ w = w' := by
  obtain ⟨n, rfl⟩ := Int.eq_ofNat_of_zero_le h0
  rw [Int.toNat_natCast]
  rw [hasL_take]
  by_cases hl : (s.size : Int) - n < t.size
  · have g : decide ((t.size : Int) ≤ (s.size : Int) - n) = false := by simpa using hl
    have R : (decide (t.data.toList.length ≤ (s.data.toList.drop n).length ∧ (s.data.toList.drop n).take t.data.toList.length = t.data.toList)) = false := by
      rw [decide_eq_false_iff_not]; rintro ⟨h, _⟩; simp at h
      omega
    rw [R]
    have g2 := Lib.hid R
    clear R
    go_enter Tryd.func54, Tryd.ntmps54
    go_wp2
    go_ret
    exact ⟨rfl, rfl⟩
  · have g : decide ((t.size : Int) ≤ (s.size : Int) - n) = true := by simp; omega
    have R : (decide (t.data.toList.length ≤ (s.data.toList.drop n).length ∧ (s.data.toList.drop n).take t.data.toList.length = t.data.toList)) = ((s.extract n (n + t.size)).toList == t.toList) := by
      rw [Lib.toList_data, Lib.toList_data, Lib.extract_data, Bool.eq_iff_iff]
      simp; omega
    rw [R]
    have g2 := Lib.hid R
    clear R
    obtain ⟨m, hm⟩ : ∃ m, m = n + t.size := ⟨_, rfl⟩
    have hm2 : (n : Int) + (t.size : Int) = (m : Int) := by omega
    have hm3 : m ≤ s.size := by omega
    have hm4 : n ≤ m := by omega
    rw [← hm]
    have hm5 := Lib.hid hm
    clear hm
    go_enter Tryd.func54, Tryd.ntmps54
    go_wp2
    go_ret
    exact ⟨rfl, rfl⟩
theorem lexSign_any (c : Int) (w : World) :
    Calls Tryd.prog 61 #[.int .u8 c] w fun e w' => e = .returned (.int .i64 (signsK c)) ∧ w = w' := by
  unfold signsK
  go_enter Tryd.func61, Tryd.ntmps61
  go_wp2
  go_loop [4] (fun i => ∃ k : Nat, k ≤ 9 ∧ i = .int .i64 k ∧ Hid (signFrom c [58, 59, 44, 40, 41, 91, 93, 123, 125] 10 = signFrom c (([58, 59, 44, 40, 41, 91, 93, 123, 125] : List UInt8).drop k) (10 + k))) (fun i => 9 - (intOf i).toNat)
  case atStart => exact ⟨0, by omega, rfl, Lib.hid rfl⟩
  case round =>
    obtain ⟨k, hk, rfl, H⟩ := hrel
    by_cases h9 : k < 9
    · have h9' : k < ([58, 59, 44, 40, 41, 91, 93, 123, 125] : List UInt8).length := h9
      have A := signFrom_at c [58, 59, 44, 40, 41, 91, 93, 123, 125] k (10 + k) h9'
      by_cases hc : bn (([58, 59, 44, 40, 41, 91, 93, 123, 125] : List UInt8)[k]'h9') = c
      · rw [if_pos hc] at A
        have R := Lib.hid (H.out.trans A)
        have hc2 : ((((⟨#[58, 59, 44, 40, 41, 91, 93, 123, 125]⟩ : ByteArray)[k]'h9).toNat : Int) == c) = true := beq_iff_eq.2 hc
        clear A hc
        go_wp2
        go_ret
        exact ⟨ret_in R.out.symm, rfl⟩
      · rw [if_neg hc] at A
        have R := Lib.hid (H.out.trans A)
        have hc2 : ((((⟨#[58, 59, 44, 40, 41, 91, 93, 123, 125]⟩ : ByteArray)[k]'h9).toNat : Int) == c) = false := beq_eq_false_iff_ne.2 hc
        clear A hc
        go_wp2
        go_round
        case rel => exact ⟨k + 1, by omega, by go_num, Lib.hid (by rw [R.out]; congr 1)⟩
        case measure => simp [intOf]; omega
    · have e : k = 9 := by omega
      subst e
      go_wp2
      go_ret
      exact ⟨ret_in (by rw [H.out]; rfl), rfl⟩
end Go.Proofs.YthlkgkjkjpboiaaDoor
