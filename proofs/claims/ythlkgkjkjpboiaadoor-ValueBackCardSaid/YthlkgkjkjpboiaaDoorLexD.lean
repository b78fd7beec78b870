/-
  The walks of ref01.Worth and ref05.Behind.
-/
import Derived.Test.YthlkgkjkjpboiaaDoorLexC
import Derived.Test.YthlkgkjkjpboiaaDoorFix
namespace Go.Proofs.YthlkgkjkjpboiaaDoor
open Go.RowKit Wsc
theorem refBehind_any (s t : ByteArray) (a : Int) (w : World) (hs : s.size ≤ 4611686018427387904) (ht : t.size ≤ 4611686018427387904) (h0 : 0 ≤ a) (ha : a ≤ s.size) :
    Calls Tryd.prog 55 #[.string s, .int .i64 a, .string t] w fun e w' => e = .returned (.int .i64 ((a.toNat + behindL t.data.toList (s.data.toList.drop a.toNat) : Nat) : Nat)) ∧ w = w' := by
  obtain ⟨n, rfl⟩ := Int.eq_ofNat_of_zero_le h0
  rw [Int.toNat_natCast]
  go_enter Tryd.func55, Tryd.ntmps55
  go_wp2
  go_loop [1] (fun i => ∃ j : Nat, j ≤ s.size ∧ i = .int .i64 j ∧ Hid (n + behindL t.data.toList (s.data.toList.drop n) = j + behindL t.data.toList (s.data.toList.drop j))) (fun i => s.size - (intOf i).toNat)
  case atStart => exact ⟨n, by omega, rfl, Lib.hid rfl⟩
  case round =>
    obtain ⟨j, hj, rfl, H⟩ := hrel
    by_cases hjl : j < s.size
    · have B := refHas_any s t (j : Int)
      rw [Int.toNat_natCast] at B
      cases hg : hasL (s.data.toList.drop j) t.data.toList
      · rw [hg] at B
        have B := Lib.hid B
        have R := Lib.hid (behindL_go _ s j hjl hg)
        clear hg
        go_wp2_with (go_at_call 54; refine (B.out _ hs ht (by omega) (by omega)).mono ?_; rintro e w' ⟨rfl, rfl⟩)
        go_round
        case rel => exact ⟨j + 1, by omega, by go_num, Lib.hid (by rw [H.out, R.out]; omega)⟩
        case measure => simp [intOf]; omega
      · rw [hg] at B
        have B := Lib.hid B
        have R := Lib.hid (behindL_stop _ s j hjl hg)
        clear hg
        go_wp2_with (go_at_call 54; refine (B.out _ hs ht (by omega) (by omega)).mono ?_; rintro e w' ⟨rfl, rfl⟩)
        go_ret
        exact ⟨ret_in (by have := H.out; rw [R.out, show t.data.toList.length = t.size from rfl] at this; omega), rfl⟩
    · have R := Lib.hid (behindL_end t.data.toList s j hjl)
      have e : j = s.size := by omega
      subst e
      go_wp2
      go_ret
      exact ⟨ret_in (by have := H.out; rw [R.out] at this; omega), rfl⟩
theorem fold_snoc (s : ByteArray) (k : Nat) (h : k < s.size) (x : Int × Int) : (s.data.toList.take (k + 1)).foldl worthStep x = worthStep ((s.data.toList.take k).foldl worthStep x) s[k] := by
  rw [List.take_succ_eq_append_getElem (by simpa using h), List.foldl_append]; rfl
theorem step_dot (v l : Int) (c : UInt8) (h : bn c = 46) : worthStep (v, l) c = (v, 3) := by
  simp [worthStep, digB, h]
theorem step_no (v l : Int) (c : UInt8) (h : ¬ bn c = 46) (h2 : digB (bn c) = false ∨ l = 0) : worthStep (v, l) c = (v, l) := by
  unfold worthStep; simp only [if_neg h, if_pos h2]
theorem step_go (v l : Int) (c : UInt8) (h : ¬ bn c = 46) (h2 : digB (bn c) = true) (h3 : ¬ l = 0) :
    worthStep (v, l) c = (if v * 10 + (bn c - 48) > 1125899906842624 then 1125899906842624 else v * 10 + (bn c - 48), if l > 0 then l - 1 else l) := by
  unfold worthStep; simp only [if_neg h]; rw [if_neg (by rw [h2]; simp [h3])]
theorem atB_zero (s : ByteArray) (h : 0 < s.size) (k : Int) : atB s.data.toList 0 k = decide (bn s[0] = k) := by
  have := atB_in s 0 0 k (by omega)
  rwa [List.drop_zero] at this
theorem fin_less (v l : Int) (h : l < 0) : worthFin (v, 3) = worthFin (v, l) := by simp [worthFin, h]
theorem fin_step (v l : Int) (h : 0 < l) (h3 : l ≤ 3) : worthFin (v * 10, l - 1) = worthFin (v, l) := by
  have : l = 1 ∨ l = 2 ∨ l = 3 := by omega
  rcases this with rfl | rfl | rfl <;> simp [worthFin] <;> omega
set_option maxHeartbeats 1000000 in
theorem refWorth_any (s : ByteArray) (w : World) (hs : s.size ≤ 4611686018427387903) (h0 : 0 < s.size) :
    Calls Tryd.prog 74 #[.string s] w fun e w' => e = .returned (.int .i64 (worthL s.data.toList)) ∧ w = w' := by
  have AZ := Lib.hid (atB_zero s h0 45)
  unfold worthL
  rw [AZ.out]
  generalize hF : s.data.toList.foldl worthStep (0, -1) = F
  have HF := Lib.hid hF
  clear hF
  go_enter Tryd.func74, Tryd.ntmps74
  go_wp2
  go_loop [3, 4, 5] (fun v l i => ∃ (k : Nat) (v' l' : Int), k ≤ s.size ∧ i = .int .i64 k ∧ v = .int .i64 v' ∧ l = .int .i64 l' ∧ 0 ≤ v' ∧ v' ≤ 1125899906842624 ∧ -1 ≤ l' ∧ l' ≤ 3 ∧ Hid ((s.data.toList.take k).foldl worthStep (0, -1) = (v', l'))) (fun _ _ i => s.size - (intOf i).toNat)
  case atStart => exact ⟨0, 0, -1, by omega, rfl, rfl, rfl, by omega, by omega, by omega, by omega, Lib.hid rfl⟩
  case round =>
    obtain ⟨k, v', l', hk, rfl, rfl, rfl, hv0, hv1, hl0, hl1, H⟩ := hrel
    by_cases hks : k < s.size
    · have FS := fold_snoc s k hks (0, -1)
      rw [H.out] at FS
      by_cases h46 : bn s[k] = 46
      · have g46 : ((s[k].toNat : Int) == 46) = true := by simpa using h46
        rw [step_dot v' l' _ h46] at FS
        have FS2 := Lib.hid FS
        have gl : decide ((s[k].toNat : Int) < 48) = true := by simp only [bn] at h46; simp; omega
        clear FS h46
        go_wp2
        go_round
        case rel => exact ⟨k + 1, v', 3, by omega, by go_num, rfl, rfl, hv0, hv1, by omega, by omega, FS2⟩
        case measure => simp [intOf]; omega
      have g46 : ((s[k].toNat : Int) == 46) = false := by simpa using h46
      by_cases h48 : bn s[k] < 48
      · have gl : decide ((s[k].toNat : Int) < 48) = true := by simpa using h48
        rw [step_no v' l' _ h46 (Or.inl (by simp [digB]; omega))] at FS
        have FS2 := Lib.hid FS
        clear FS h46 h48
        go_wp2
        go_round
        case rel => exact ⟨k + 1, v', l', by omega, by go_num, rfl, rfl, hv0, hv1, by omega, by omega, FS2⟩
        case measure => simp [intOf]; omega
      have gl : decide ((s[k].toNat : Int) < 48) = false := by simpa using h48
      by_cases h57 : 57 < bn s[k]
      · have gr : decide ((57 : Int) < (s[k].toNat : Int)) = true := by simpa using h57
        rw [step_no v' l' _ h46 (Or.inl (by simp [digB]; omega))] at FS
        have FS2 := Lib.hid FS
        clear FS h46
        go_wp2
        go_round
        case rel => exact ⟨k + 1, v', l', by omega, by go_num, rfl, rfl, hv0, hv1, by omega, by omega, FS2⟩
        case measure => simp [intOf]; omega
      have gr : decide ((57 : Int) < (s[k].toNat : Int)) = false := by simpa using h57
      by_cases hl : l' = 0
      · have g0 : (l' == 0) = true := by simpa using hl
        rw [step_no v' l' _ h46 (Or.inr hl)] at FS
        have FS2 := Lib.hid FS
        clear FS h46 hl
        go_wp2
        go_round
        case rel => exact ⟨k + 1, v', l', by omega, by go_num, rfl, rfl, hv0, hv1, by omega, by omega, FS2⟩
        case measure => simp [intOf]; omega
      · have g0 : (l' == 0) = false := by simpa using hl
        rw [step_go v' l' _ h46 (by simp [digB]; omega) hl] at FS
        have FS2 := Lib.hid FS
        clear FS h46
        have h8 : s[k].toNat < 256 := s[k].toNat_lt
        have h48' : ¬ (s[k].toNat : Int) < 48 := h48
        have h57' : ¬ 57 < (s[k].toNat : Int) := h57
        go_wp2
        all_goals
          go_round
          case rel =>
            refine ⟨k + 1, _, _, by omega, by go_num, rfl, rfl, ?_, ?_, ?_, ?_, Lib.hid ?_⟩
            · omega
            · omega
            · omega
            · omega
            · rw [FS2.out, Prod.mk.injEq]
              simp only [bn]
              constructor <;> (split <;> omega)
          case measure => simp [intOf]; omega
    · have e : F = (v', l') := by rw [← HF.out, ← H.out, List.take_of_length_le (by simp; omega)]
      subst e
      clear AZ HF H
      have HH := Lib.hid (fun x => refHold_any x)
      go_wp2
      all_goals
        go_loop [3, 4] (fun v l => ∃ v2 l2 : Int, v = .int .i64 v2 ∧ l = .int .i64 l2 ∧ 0 ≤ v2 ∧ 0 ≤ l2 ∧ l2 ≤ 3 ∧ (l2 = 3 ∧ v2 ≤ 1125899906842624 ∨ l2 = 2 ∧ v2 ≤ 11258999068426240 ∨ l2 = 1 ∧ v2 ≤ 112589990684262400 ∨ l2 = 0 ∧ v2 ≤ 1125899906842624000) ∧ Hid (worthFin (v2, l2) = worthFin (v', l'))) (fun _ l => (intOf l).toNat)
        case atStart =>
          first
            | exact ⟨v', 3, rfl, rfl, by omega, by omega, by omega, by omega, Lib.hid (fin_less v' l' (by assumption))⟩
            | exact ⟨v', l', rfl, rfl, by omega, by omega, by omega, by omega, Lib.hid rfl⟩
        case round =>
          obtain ⟨v2, l2, rfl, rfl, hv2, hl2, hl3, hb, H2⟩ := hrel
          by_cases hlz : 0 < l2
          · have FS := Lib.hid (fin_step v2 l2 hlz hl3)
            go_wp2
            go_round
            case rel => exact ⟨v2 * 10, l2 - 1, rfl, rfl, by omega, by omega, by omega, by omega, Lib.hid (FS.out.trans H2.out)⟩
            case measure => simp [intOf]; omega
          · have e : l2 = 0 := by omega
            subst e
            have V : worthFin (v2, 0) = v2 := by simp [worthFin]
            rw [V] at H2
            clear V
            go_wp2_with (go_at_call 53; refine (HH.out _ _).mono ?_; rintro e w' ⟨rfl, rfl⟩)
            all_goals go_ret
            all_goals refine ⟨ret_in ?_, rfl⟩
            all_goals rw [H2.out]
            all_goals
              exfalso
              have q := (by assumption : decide (bn s[0] = 45) = true)
              have q2 := (by assumption : ((s[0].toNat : Int) == 45) = false)
              simp at q q2
              exact absurd q q2
end Go.Proofs.YthlkgkjkjpboiaaDoor
