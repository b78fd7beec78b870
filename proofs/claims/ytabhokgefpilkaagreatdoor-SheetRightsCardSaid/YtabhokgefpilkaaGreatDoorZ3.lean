/-
  The walks of layer 1's numbers: Hold, down, Part and the reference's Hold, Floor, Part, on all arguments.
  The walks of names: tree.begins, tree.goes, tree.Name and the reference's Begins, Goes, Starts, Run, Name.
-/
import Derived.Test.YtabhokgefpilkaaGreatDoorChecked
import Derived.WalkKit
import Derived.Lib.Hide
import Derived.Deep.QuietTactic
import Derived.BigQuiet
import Derived.WalkLawsBesides
import Derived.Outline
import Derived.Deep.Light
import Derived.WalkSmall
import Derived.Test.YtabhokgefpilkaaGreatDoorZ2
set_option linter.all false
namespace Go.Proofs.YtabhokgefpilkaaGreatDoor
open Go.RowKit Wsc
theorem ret_i {a b : Int} (h : a = b) : Ending.returned (.int .i64 a) = .returned (.int .i64 b) := by rw [h]
theorem hold_any (x : Int) (w : World) :
    Calls Tryz.prog 187 #[.int .i64 x] w fun e w' => e = .returned (.int .i64 (hold x)) ∧ w = w' := by
  go_enter Tryz.func187, Tryz.ntmps187
  go_wp2
  all_goals go_ret
  all_goals exact ⟨ret_i (by unfold hold; (repeat' split at *) <;> omega), rfl⟩
theorem refHold_any (x : Int) (w : World) :
    Calls Tryz.prog 193 #[.int .i64 x] w fun e w' => e = .returned (.int .i64 (hold x)) ∧ w = w' := by
  go_enter Tryz.func193, Tryz.ntmps193
  go_wp2
  all_goals go_ret
  all_goals exact ⟨ret_i (by unfold hold; (repeat' split) <;> omega), rfl⟩
theorem ret_bo {a b : Bool} (h : a = b) : Ending.returned (.bool a) = .returned (.bool b) := by rw [h]
theorem ret_in {a b : Int} (h : a = b) : Ending.returned (.int .i64 a) = .returned (.int .i64 b) := by rw [h]
theorem treeBegins_any (n : Int) (w : World) :
    Calls Tryz.prog 119 #[.int .u8 n] w fun e w' => e = .returned (.bool (beginsB n)) ∧ w = w' := by
  go_enter Tryz.func119, Tryz.ntmps119
  go_wp2
  all_goals go_ret
  all_goals exact ⟨ret_bo (by go_light; rw [Bool.eq_iff_iff]; simp [beginsB] <;> omega), rfl⟩
theorem refBegins_any (n : Int) (w : World) :
    Calls Tryz.prog 177 #[.int .u8 n] w fun e w' => e = .returned (.bool (beginsB n)) ∧ w = w' := by
  go_enter Tryz.func177, Tryz.ntmps177
  go_wp2
  all_goals go_ret
  all_goals exact ⟨ret_bo (by go_light; rw [Bool.eq_iff_iff]; simp [beginsB] <;> omega), rfl⟩
theorem goes_or (n : Int) : (beginsB n || (decide (48 ≤ n ∧ n ≤ 57) || decide (n = 45))) = goesB n := by
  rw [Bool.eq_iff_iff]; simp [beginsB, goesB]; omega
theorem goes_of (n : Int) (h : beginsB n = true) : goesB n = true := by rw [← goes_or, h]; rfl
theorem goes_not (n : Int) (h : beginsB n = false) : goesB n = decide (48 ≤ n ∧ n ≤ 57 ∨ n = 45) := by
  rw [← goes_or, h, Bool.eq_iff_iff]; simp
theorem treeGoes_any (n : Int) (w : World) :
    Calls Tryz.prog 120 #[.int .u8 n] w fun e w' => e = .returned (.bool (goesB n)) ∧ w = w' := by
  have G1 := Lib.hid (goes_of n)
  have G2 := Lib.hid (goes_not n)
  cases hb : beginsB n
  · have B := treeBegins_any n
    rw [hb] at B
    have B := Lib.hid B
    have hb := Lib.hid hb
    go_enter Tryz.func120, Tryz.ntmps120
    go_wp2_with (go_at_call 119; refine (B.out _).mono ?_; rintro e w' ⟨rfl, rfl⟩)
    all_goals go_ret
    all_goals exact ⟨ret_bo (by go_light; rw [G2.out hb.out, Bool.eq_iff_iff]; simp <;> omega), rfl⟩
  have B := treeBegins_any n
  rw [hb] at B
  have B := Lib.hid B
  have hb := Lib.hid hb
  go_enter Tryz.func120, Tryz.ntmps120
  go_wp2_with (go_at_call 119; refine (B.out _).mono ?_; rintro e w' ⟨rfl, rfl⟩)
  go_ret
  exact ⟨ret_bo (G1.out hb.out).symm, rfl⟩
theorem refGoes_any (n : Int) (w : World) :
    Calls Tryz.prog 176 #[.int .u8 n] w fun e w' => e = .returned (.bool (goesB n)) ∧ w = w' := by
  have G1 := Lib.hid (goes_of n)
  have G2 := Lib.hid (goes_not n)
  cases hb : beginsB n
  · have B := refBegins_any n
    rw [hb] at B
    have B := Lib.hid B
    have hb := Lib.hid hb
    go_enter Tryz.func176, Tryz.ntmps176
    go_wp2_with (go_at_call 177; refine (B.out _).mono ?_; rintro e w' ⟨rfl, rfl⟩)
    all_goals go_ret
    all_goals exact ⟨ret_bo (by go_light; rw [G2.out hb.out, Bool.eq_iff_iff]; simp <;> omega), rfl⟩
  have B := refBegins_any n
  rw [hb] at B
  have B := Lib.hid B
  have hb := Lib.hid hb
  go_enter Tryz.func176, Tryz.ntmps176
  go_wp2_with (go_at_call 177; refine (B.out _).mono ?_; rintro e w' ⟨rfl, rfl⟩)
  go_ret
  exact ⟨ret_bo (G1.out hb.out).symm, rfl⟩
theorem refRun_any (s : ByteArray) (a : Int) (w : World) (hs : s.size ≤ 9223372036854775807) (h0 : 0 ≤ a) (ha : a ≤ 9223372036854775807) :
    Calls Tryz.prog 110 #[.string s, .int .i64 a] w fun e w' => e = .returned (.int .i64 (runL (s.data.toList.drop a.toNat)).length) ∧ w = w' := by
  obtain ⟨n, rfl⟩ := Int.eq_ofNat_of_zero_le h0
  rw [Int.toNat_natCast]
  go_enter Tryz.func110, Tryz.ntmps110
  go_wp2
  go_loop [1, 5] (fun i r => ∃ j k : Nat, j ≤ n + s.size ∧ i = .int .i64 j ∧ r = .int .i64 k ∧ k ≤ s.size ∧ (j ≤ s.size ∨ j = n) ∧ n + k = j ∧ Hid ((runL (s.data.toList.drop n)).length = k + (runL (s.data.toList.drop j)).length)) (fun i _ => n + s.size - (intOf i).toNat)
  case atStart => exact ⟨n, 0, by omega, rfl, rfl, Nat.zero_le _, Or.inr rfl, by omega, Lib.hid (by simp)⟩
  case round =>
    obtain ⟨j, k, hj, rfl, rfl, hk, hjs, hnk, H⟩ := hrel
    by_cases hjl : j < s.size
    · cases hg : goesB (bn s[j])
      · have R := runL_stop s j hjl hg
        have R := Lib.hid R
        have B := refGoes_any (bn s[j])
        rw [hg] at B
        have B := Lib.hid B
        clear hg
        have hnk := Lib.hid hnk
        clear hjs
        go_wp2_with (go_at_call 176; refine (B.out _).mono ?_; rintro e w' ⟨rfl, rfl⟩)
        go_ret
        exact ⟨ret_in (by rw [H.out, R.out]; simp), rfl⟩
      · have R := runL_go s j hjl hg
        have R := Lib.hid R
        have B := refGoes_any (bn s[j])
        rw [hg] at B
        have B := Lib.hid B
        clear hg
        have hk' : k + 1 ≤ s.size := by omega
        have hnk := Lib.hid hnk
        clear hjs
        go_wp2_with (go_at_call 176; refine (B.out _).mono ?_; rintro e w' ⟨rfl, rfl⟩)
        go_round
        case rel => exact ⟨j + 1, k + 1, by omega, by go_num, by go_num, hk', Or.inl (by omega), by have := hnk.out; omega, by have := H.out; rw [R.out] at this; rw [Hid, this]; omega⟩
        case measure => simp [intOf]; omega
    have R := Lib.hid (runL_end s j hjl)
    have hnk := Lib.hid hnk
    clear hjs
    go_wp2
    go_ret
    exact ⟨ret_in (by rw [H.out, R.out]; simp), rfl⟩
theorem refStarts_any (s : ByteArray) (a : Int) (w : World) (hs : s.size ≤ 9223372036854775807) (h0 : 0 ≤ a) (ha : a ≤ 9223372036854775807) :
    Calls Tryz.prog 111 #[.string s, .int .i64 a] w fun e w' => e = .returned (.bool (startsL (s.data.toList.drop a.toNat))) ∧ w = w' := by
  obtain ⟨n, rfl⟩ := Int.eq_ofNat_of_zero_le h0
  rw [Int.toNat_natCast]
  by_cases h : n < s.size
  · by_cases hd : bn s[n] = 45
    · have hd2 : ((s[n].toNat : Int) == 45) = true := by simpa using hd
      by_cases h1 : n + 1 < s.size
      · have R := Lib.hid (startsL_dash s n h h1 hd)
        cases hb : beginsB (bn s[n + 1])
        · have B := refBegins_any (bn s[n + 1])
          rw [hb] at B R
          have B := Lib.hid B
          clear hb hd
          go_enter Tryz.func111, Tryz.ntmps111
          go_wp2_with (go_at_call 177; refine (B.out _).mono ?_; rintro e w' ⟨rfl, rfl⟩)
          all_goals go_ret
          all_goals exact ⟨ret_bo (by go_light; rw [R.out, Bool.eq_iff_iff]; simp <;> omega), rfl⟩
        · have B := refBegins_any (bn s[n + 1])
          rw [hb] at B R
          have B := Lib.hid B
          clear hb hd
          go_enter Tryz.func111, Tryz.ntmps111
          go_wp2_with (go_at_call 177; refine (B.out _).mono ?_; rintro e w' ⟨rfl, rfl⟩)
          go_ret
          exact ⟨ret_bo (by rw [R.out]; simp), rfl⟩
      · have R := Lib.hid (startsL_dash_end s n h h1 hd)
        clear hd
        go_enter Tryz.func111, Tryz.ntmps111
        go_wp2
        go_ret
        exact ⟨ret_bo (by rw [R.out]), rfl⟩
    · have hd2 : ((s[n].toNat : Int) == 45) = false := by simpa using hd
      have R := Lib.hid (startsL_other s n h hd)
      have B := Lib.hid (refBegins_any (bn s[n]))
      clear hd
      go_enter Tryz.func111, Tryz.ntmps111
      go_wp2_with (go_at_call 177; refine (B.out _).mono ?_; rintro e w' ⟨rfl, rfl⟩)
      go_ret
      exact ⟨ret_bo (by rw [R.out]), rfl⟩
  have R := Lib.hid (startsL_end s n h)
  go_enter Tryz.func111, Tryz.ntmps111
  go_wp2
  go_ret
  exact ⟨ret_bo R.out.symm, rfl⟩
theorem refName_any (s : ByteArray) (w : World) (hs : s.size ≤ 9223372036854775807) :
    Calls Tryz.prog 66 #[.string s] w fun e w' => e = .returned (.bool (nameB s.data.toList)) ∧ w = w' := by
  have S := refStarts_any s 0
  have U := refRun_any s 0
  rw [show (0 : Int).toNat = 0 from rfl, List.drop_zero] at S U
  have hU := runL_all s.data.toList
  have hl := runL_le s.data.toList
  have hsz : s.data.toList.length = s.size := by simp
  rw [hsz] at hl
  have E : nameB s.data.toList = (startsL s.data.toList && (decide ((runL s.data.toList).length = s.size) && decide (s.size ≤ 32))) := by
    unfold nameB; rw [← hU, hsz, Bool.and_assoc]
  have E := Lib.hid E
  clear hU hsz
  cases hst : startsL s.data.toList
  · rw [hst] at S E
    have S := Lib.hid S
    clear hst
    go_enter Tryz.func66, Tryz.ntmps66
    go_wp2_with (go_at_call 111; refine (S.out _ hs (by omega) (by omega)).mono ?_; rintro e w' ⟨rfl, rfl⟩)
    go_ret
    exact ⟨ret_bo (by rw [E.out]; simp), rfl⟩
  rw [hst] at S E
  have S := Lib.hid S
  have U := Lib.hid U
  clear hst
  generalize (runL s.data.toList).length = r at *
  go_enter Tryz.func66, Tryz.ntmps66
  go_wp2_with (first
    | (go_at_call 111; refine (S.out _ hs (by omega) (by omega)).mono ?_; rintro e w' ⟨rfl, rfl⟩)
    | (go_at_call 110; refine (U.out _ hs (by omega) (by omega)).mono ?_; rintro e w' ⟨rfl, rfl⟩))
  all_goals go_ret
  all_goals exact ⟨ret_bo (by go_light; rw [E.out, Bool.eq_iff_iff]; simp <;> omega), rfl⟩
theorem all_snoc (s : ByteArray) (k : Nat) (h : k < s.size) (p : UInt8 → Bool) : (s.data.toList.take (k + 1)).all p = ((s.data.toList.take k).all p && p s[k]) := by
  rw [List.take_succ_eq_append_getElem (by simpa using h), List.all_append]
  simp; rfl
theorem all_not (s : ByteArray) (k : Nat) (h : k < s.size) (p : UInt8 → Bool) (hp : p s[k] = false) : s.data.toList.all p = false := by
  rw [List.all_eq_false]
  exact ⟨s[k], by rw [show s[k] = s.data.toList[k]'(by simpa using h) from rfl]; exact List.getElem_mem _, by simp [hp]⟩
theorem nameB_eq (s : ByteArray) (h : startsL s.data.toList = true) (h2 : s.size ≤ 32) : nameB s.data.toList = s.data.toList.all (fun c => goesB (bn c)) := by
  unfold nameB; rw [h]; simp; intro _; exact h2
theorem nameB_no (s : ByteArray) (h : startsL s.data.toList = false) : nameB s.data.toList = false := by
  unfold nameB; rw [h]; rfl
set_option maxHeartbeats 400000 in
theorem treeName_any (s : ByteArray) (w : World) :
    Calls Tryz.prog 49 #[.string s] w fun e w' => e = .returned (.bool (nameB s.data.toList)) ∧ w = w' := by
  have hsz : s.data.toList.length = s.size := by simp
  by_cases h0 : s.size = 0
  · have e0 : s.data.toList = [] := List.eq_nil_of_length_eq_zero (by omega)
    have e1 : s.toList = [] := by rw [Lib.toList_data]; exact e0
    rw [e0]
    have E := Lib.hid e0
    clear e0
    go_enter Tryz.func49, Tryz.ntmps49
    go_wp2
    go_ret
    exact ⟨rfl, rfl⟩
  have e1 : s.toList.isEmpty = false := by
    rw [Lib.toList_data, List.isEmpty_eq_false_iff]; intro e; rw [e] at hsz; simp at hsz; omega
  have e2 : ¬ s.toList = [] := by intro e; rw [e] at e1; simp at e1
  by_cases h32 : 32 < s.size
  · have R := Lib.hid (show nameB s.data.toList = false by unfold nameB; rw [hsz]; simp; intros; omega)
    clear hsz
    go_enter Tryz.func49, Tryz.ntmps49
    go_wp2
    go_ret
    exact ⟨ret_bo R.out.symm, rfl⟩
  have hp : 0 < s.size := by omega
  have d0 : s.data.toList.drop 0 = s.data.toList := rfl
  by_cases hd : bn s[0] = 45
  · have hd2 : ((s[0].toNat : Int) == 45) = true := by simpa using hd
    by_cases h1 : 0 + 1 < s.size
    · have R := startsL_dash s 0 hp h1 hd
      rw [d0] at R
      have B := treeBegins_any (bn s[1])
      have hne : ((s.size : Int) == 1) = false := by simp; omega
      cases hb : beginsB (bn s[1]) <;> cases hm : ((s[1].toNat : Int) == 45)
      · rw [show decide (bn s[0 + 1] = 45) = false by simpa using hm, show beginsB (bn s[0 + 1]) = false from hb] at R
        rw [hb] at B
        have hm2 : ((s[1].toNat : Int) != 45) = true := by rw [bne, hm]; rfl
        have B := Lib.hid B
        have R := Lib.hid (nameB_no s R)
        clear hb hd hsz d0 h0
        go_enter Tryz.func49, Tryz.ntmps49
        go_wp2_with (go_at_call 119; refine (B.out _).mono ?_; rintro e w' ⟨rfl, rfl⟩)
        go_ret
        exact ⟨ret_bo R.out.symm, rfl⟩
      all_goals
        have hm2 : ((s[1].toNat : Int) != 45) = !((s[1].toNat : Int) == 45) := rfl
        rw [hm] at hm2
        simp only [Bool.not_true, Bool.not_false] at hm2
        have R2 : startsL s.data.toList = true := by
          rw [R, show beginsB (bn s[0 + 1]) = beginsB (bn s[1]) from rfl, hb, show decide (bn s[0 + 1] = 45) = ((s[1].toNat : Int) == 45) from rfl, hm]; rfl
        rw [hb] at B
        have B := Lib.hid B
        have R := Lib.hid (nameB_eq s R2 (by omega))
        clear hb hd hsz d0 h0 R2
        go_enter Tryz.func49, Tryz.ntmps49
        go_wp2_with (go_at_call 119; refine (B.out _).mono ?_; rintro e w' ⟨rfl, rfl⟩)
        go_loop [34] (fun i => ∃ k : Nat, k ≤ s.size ∧ i = .int .i64 k ∧ Hid ((s.data.toList.take k).all (fun c => goesB (bn c)) = true)) (fun i => s.size - (intOf i).toNat)
        case atStart => exact ⟨0, Nat.zero_le _, rfl, Lib.hid rfl⟩
        case round =>
          obtain ⟨k, hk, rfl, H⟩ := hrel
          by_cases hlt : k < s.size
          · have G := treeGoes_any (bn s[k])
            cases hg : goesB (bn s[k])
            · rw [hg] at G
              have G := Lib.hid G
              have N := Lib.hid (all_not s k hlt (fun c => goesB (bn c)) hg)
              clear hg
              go_wp2_with (go_at_call 120; refine (G.out _).mono ?_; rintro e w' ⟨rfl, rfl⟩)
              go_ret
              exact ⟨ret_bo (by rw [R.out, N.out]), rfl⟩
            · rw [hg] at G
              have G := Lib.hid G
              have N := Lib.hid (show (s.data.toList.take (k + 1)).all (fun c => goesB (bn c)) = true by rw [all_snoc s k hlt, H.out, hg]; rfl)
              clear hg
              go_wp2_with (go_at_call 120; refine (G.out _).mono ?_; rintro e w' ⟨rfl, rfl⟩)
              go_round
              case rel => exact ⟨k + 1, by omega, by go_num, N⟩
              case measure => simp [intOf]; omega
          · have N := Lib.hid (show s.data.toList.all (fun c => goesB (bn c)) = true by have := H.out; rwa [List.take_of_length_le (by simp; omega)] at this)
            go_wp2
            go_ret
            exact ⟨ret_bo (by rw [R.out, N.out]), rfl⟩
    · have R := startsL_dash_end s 0 hp h1 hd
      rw [d0] at R
      have R := Lib.hid (nameB_no s R)
      have hne : ((s.size : Int) == 1) = true := by simp; omega
      clear hd hsz d0 h0
      go_enter Tryz.func49, Tryz.ntmps49
      go_wp2
      go_ret
      exact ⟨ret_bo R.out.symm, rfl⟩
  have hd2 : ((s[0].toNat : Int) == 45) = false := by simpa using hd
  have R := startsL_other s 0 hp hd
  rw [d0] at R
  have B := treeBegins_any (bn s[0])
  cases hb : beginsB (bn s[0])
  · rw [hb] at B R
    have B := Lib.hid B
    have R := Lib.hid (nameB_no s R)
    clear hb hd hsz d0 h0
    go_enter Tryz.func49, Tryz.ntmps49
    go_wp2_with (go_at_call 119; refine (B.out _).mono ?_; rintro e w' ⟨rfl, rfl⟩)
    go_ret
    exact ⟨ret_bo R.out.symm, rfl⟩
  rw [hb] at B R
  have B := Lib.hid B
  have R := Lib.hid (nameB_eq s R (by omega))
  clear hb hd hsz d0 h0
  go_enter Tryz.func49, Tryz.ntmps49
  go_wp2_with (go_at_call 119; refine (B.out _).mono ?_; rintro e w' ⟨rfl, rfl⟩)
  go_loop [34] (fun i => ∃ k : Nat, k ≤ s.size ∧ i = .int .i64 k ∧ Hid ((s.data.toList.take k).all (fun c => goesB (bn c)) = true)) (fun i => s.size - (intOf i).toNat)
  case atStart => exact ⟨0, Nat.zero_le _, rfl, Lib.hid rfl⟩
  case round =>
    obtain ⟨k, hk, rfl, H⟩ := hrel
    by_cases hlt : k < s.size
    · have G := treeGoes_any (bn s[k])
      cases hg : goesB (bn s[k])
      · rw [hg] at G
        have G := Lib.hid G
        have N := Lib.hid (all_not s k hlt (fun c => goesB (bn c)) hg)
        clear hg
        go_wp2_with (go_at_call 120; refine (G.out _).mono ?_; rintro e w' ⟨rfl, rfl⟩)
        go_ret
        exact ⟨ret_bo (by rw [R.out, N.out]), rfl⟩
      · rw [hg] at G
        have G := Lib.hid G
        have N := Lib.hid (show (s.data.toList.take (k + 1)).all (fun c => goesB (bn c)) = true by rw [all_snoc s k hlt, H.out, hg]; rfl)
        clear hg
        go_wp2_with (go_at_call 120; refine (G.out _).mono ?_; rintro e w' ⟨rfl, rfl⟩)
        go_round
        case rel => exact ⟨k + 1, by omega, by go_num, N⟩
        case measure => simp [intOf]; omega
    have N := Lib.hid (show s.data.toList.all (fun c => goesB (bn c)) = true by have := H.out; rwa [List.take_of_length_le (by simp; omega)] at this)
    go_wp2
    go_ret
    exact ⟨ret_bo (by rw [R.out, N.out]), rfl⟩
end Go.Proofs.YtabhokgefpilkaaGreatDoor
