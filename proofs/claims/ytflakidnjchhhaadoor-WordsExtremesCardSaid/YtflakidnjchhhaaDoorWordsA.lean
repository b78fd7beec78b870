/-
  The walks of layer 18's bytes: Advance, advances, measure, Tall and the reference's In, Advance, Tall.
-/
import Derived.Test.YtflakidnjchhhaaDoorFix
import Derived.Test.YtflakidnjchhhaaDoorWordsPlain
import Derived.Test.YtflakidnjchhhaaDoorTexts
import Derived.Outline
import Derived.Deep.Light
namespace Go.Proofs.YtflakidnjchhhaaDoor
open Go.RowKit Wsc
theorem adv_any (n : Int) (w : World) :
    Calls Tryd.prog 16 #[.int .u8 n] w fun e w' => e = .returned (.int .i64 (adv n)) ∧ w = w' := by
  go_enter Tryd.func16, Tryd.ntmps16
  go_wp2
  all_goals go_ret
  all_goals exact ⟨ret_i (by go_light; simp only [beq_iff_eq, beq_eq_false_iff_ne, ne_eq] at *; first | (subst_vars; rfl) | (simp [adv, narrowL, wideL, *]; try omega)), rfl⟩
theorem in_any (s : ByteArray) (c : Int) (w : World) (hs : s.size ≤ maxLen) :
    Calls Tryd.prog 29 #[.string s, .int .u8 c] w fun e w' => e = .returned (.bool (inL s.data.toList c)) ∧ w = w' := by
  unfold maxLen at hs
  go_enter Tryd.func29, Tryd.ntmps29
  go_wp2
  go_loop [5] (fun i => ∃ k : Nat, k ≤ s.size ∧ i = .int .i64 k ∧ inL (s.data.toList.take k) c = false) (fun i => s.size - (intOf i).toNat)
  case atStart => exact ⟨0, Nat.zero_le _, rfl, rfl⟩
  case round =>
    obtain ⟨k, hk, rfl, hn⟩ := hrel
    have HN := Lib.hid hn
    clear hn
    by_cases hlt : k < s.size
    · have H1 := Lib.hid (inL_of s k hlt c)
      have H2 := Lib.hid (inL_snoc s k hlt c)
      go_wp2
      · have h : ((s[k].toNat : Int) == c) = true := by assumption
        go_ret
        exact ⟨ret_b (H1.out h).symm, rfl⟩
      · have h : ((s[k].toNat : Int) == c) = false := by assumption
        go_round
        case rel => exact ⟨k + 1, by omega, by go_num, by rw [H2.out, HN.out, h]; rfl⟩
        case measure => simp [intOf]; omega
    · have H1 := Lib.hid (take_all s k hlt)
      go_wp2
      go_ret
      exact ⟨ret_b (by have := HN.out; rw [H1.out] at this; exact this.symm), rfl⟩
theorem advances_any (s : ByteArray) (w : World) (hs : s.size ≤ 1099511627776) :
    Calls Tryd.prog 26 #[.string s] w fun e w' => e = .returned (.int .i64 (advs s.data.toList)) ∧ w = w' := by
  go_enter Tryd.func26, Tryd.ntmps26
  go_wp2
  go_loop [3, 7] (fun n i => ∃ k : Nat, k ≤ s.size ∧ i = .int .i64 k ∧ n = .int .i64 (advs (s.data.toList.take k))) (fun _ i => s.size - (intOf i).toNat)
  case atStart => exact ⟨0, Nat.zero_le _, rfl, rfl⟩
  case round =>
    obtain ⟨k, hk, rfl, rfl⟩ := hrel
    by_cases hlt : k < s.size
    · have H2 := Lib.hid (advs_snoc s k hlt)
      have hb := advs_bd (s.data.toList.take k)
      have hl : (s.data.toList.take k).length ≤ k := List.length_take_le _ _
      have ha := adv_bd (s[k].toNat : Int)
      go_wp2_with (go_at_call 16; refine (adv_any _ _).mono ?_; rintro e w' ⟨rfl, rfl⟩)
      go_round
      case rel => exact ⟨k + 1, by omega, by go_num, by rw [H2.out]⟩
      case measure => simp [intOf]; omega
    · have H1 := Lib.hid (take_all s k hlt)
      go_wp2
      go_ret
      exact ⟨ret_i (by rw [H1.out]), rfl⟩
theorem measure_any (n font : Int) (w : World) :
    Calls Tryd.prog 25 #[.int .i64 n, .int .i64 font] w fun e w' => e = .returned (.int .i64 (fpart font n 1000)) ∧ w = w' := by
  go_enter Tryd.func25, Tryd.ntmps25
  go_wp2_with (go_at_call 32; refine (fixPart_any _ _ _ _).mono ?_; rintro e w' ⟨rfl, rfl⟩)
  go_ret
  exact ⟨rfl, rfl⟩
theorem inL_map (c : Int) : ∀ l : List UInt8, inL l c = (l.map fun x => (x.toNat : Int)).contains c
  | [] => rfl
  | x :: l => by
    have := inL_map c l
    unfold inL at *
    rw [List.any_cons, this, List.map_cons, List.contains_cons]
    congr 1
    exact BEq.comm
theorem adv_inL (n : Int) : adv n = if n = 32 then 250 else if inL [102, 105, 106, 108, 114, 116, 46, 44, 58, 59, 39, 33, 124, 40, 41, 91, 93] n = true then 300 else if inL [109, 119, 77, 87, 37] n = true then 800 else if 65 ≤ n ∧ n ≤ 90 ∨ 48 ≤ n ∧ n ≤ 57 then 600 else 500 := by
  rw [inL_map, inL_map]; rfl
theorem refAdv_any (n : Int) (w : World) :
    Calls Tryd.prog 17 #[.int .u8 n] w fun e w' => e = .returned (.int .i64 (adv n)) ∧ w = w' := by
  have E1 := Lib.hid (adv_inL n)
  go_enter Tryd.func17, Tryd.ntmps17
  go_wp2_with (go_at_call 29; refine (in_any _ _ _ (by decide)).mono ?_; rintro e w' ⟨rfl, rfl⟩)
  all_goals go_ret
  all_goals exact ⟨ret_i (by go_light; rw [E1.out]; clear E1; simp only [beq_iff_eq, beq_eq_false_iff_ne, ne_eq] at *; first | (subst_vars; rfl) | (simp [*]; done) | (simp [*]; omega)), rfl⟩
theorem ite_hold (a b c : Int) : max (fpart a b c) 0 = if fpart a b c < 0 then 0 else fpart a b c := by omega
def tall (n font line : Int) : Int := if fpart font line 1000 < 0 ∨ n < 0 then 0 else hold (hold n * fpart font line 1000)
theorem tall_eq (n font line : Int) : fpart (max n 0) (max (fpart font line 1000) 0) 1 = tall n font line := by
  have hb := fpart_bd font line 1000
  unfold tall
  generalize fpart font line 1000 = h at *
  unfold fpart
  rw [if_neg (by decide)]
  have e1 : hold 1 = 1 := by decide
  rw [e1]
  unfold floor
  rw [if_neg (by decide), Int.ediv_one]
  by_cases h1 : h < 0
  · rw [if_pos (Or.inl h1), show max h 0 = 0 by omega]; simp [hold]
  · by_cases h2 : n < 0
    · rw [if_pos (Or.inr h2), show max n 0 = 0 by omega]; simp [hold]
    · rw [if_neg (by omega), show max n 0 = n by omega, show max h 0 = h by omega, hold_id h (by omega)]
theorem tall_any (n font line : Int) (w : World) :
    Calls Tryd.prog 22 #[.int .i64 n, .int .i64 font, .int .i64 line] w fun e w' => e = .returned (.int .i64 (tall n font line)) ∧ w = w' := by
  have E := Lib.hid (tall_eq n font line)
  go_enter Tryd.func22, Tryd.ntmps22
  go_wp2_with (go_at_call 32; refine (fixPart_any _ _ _ _).mono ?_; rintro e w' ⟨rfl, rfl⟩)
  all_goals go_ret
  all_goals exact ⟨ret_i (by rw [← E.out]; congr 1 <;> omega), rfl⟩
theorem refTall_any (n font line : Int) (w : World) :
    Calls Tryd.prog 23 #[.int .i64 n, .int .i64 font, .int .i64 line] w fun e w' => e = .returned (.int .i64 (tall n font line)) ∧ w = w' := by
  have hb := fpart_bd font line 1000
  have hm := mul_bd (hold_bd n) hb
  by_cases h1 : fpart font line 1000 < 0
  · go_enter Tryd.func23, Tryd.ntmps23
    go_wp2_with (first | (go_at_call 28; refine (refPart_any _ _ _ _).mono ?_; rintro e w' ⟨rfl, rfl⟩) | (go_at_call 31; refine (refHold_any _ _).mono ?_; rintro e w' ⟨rfl, rfl⟩))
    go_ret
    exact ⟨ret_i (by simp [tall, h1]), rfl⟩
  · by_cases h2 : n < 0
    · go_enter Tryd.func23, Tryd.ntmps23
      go_wp2_with (first | (go_at_call 28; refine (refPart_any _ _ _ _).mono ?_; rintro e w' ⟨rfl, rfl⟩) | (go_at_call 31; refine (refHold_any _ _).mono ?_; rintro e w' ⟨rfl, rfl⟩))
      go_ret
      exact ⟨ret_i (by simp [tall, h2]), rfl⟩
    · go_enter Tryd.func23, Tryd.ntmps23
      go_wp2_with (first | (go_at_call 28; refine (refPart_any _ _ _ _).mono ?_; rintro e w' ⟨rfl, rfl⟩) | (go_at_call 31; refine (refHold_any _ _).mono ?_; rintro e w' ⟨rfl, rfl⟩))
      go_ret
      exact ⟨ret_i (by simp [tall, h1, h2]; omega), rfl⟩
end Go.Proofs.YtflakidnjchhhaaDoor
