/-
  The walk of ref29.Value: a number of a text.
-/
import Derived.Test.YtcoaidpiignheaaDoorRefCut
namespace Go.Proofs.YtcoaidpiignheaaDoor
open Go.RowKit Wsc
def refVal (x : List UInt8) : Int × Bool :=
  if digL x = [] ∨ 10 < (digL x).length then (0, false)
  else if allDigB (digL x) = true then (signL x, decide (numN (signL x) = x))
  else (0, false)
theorem digL_cons (x : List UInt8) : digL (45 :: x) = x ∧ negB (45 :: x) = true := by
  unfold digL negB Lib.trimPrefix Lib.hasPrefix; simp [List.isPrefixOf]
theorem digL_other (c : UInt8) (x : List UInt8) (h : c ≠ 45) : digL (c :: x) = c :: x ∧ negB (c :: x) = false := by
  unfold digL negB Lib.trimPrefix Lib.hasPrefix; simp [List.isPrefixOf, Ne.symm h]
theorem decL_10 (l : List UInt8) (h : l.length ≤ 10) (ha : allDigB l = true) : 0 ≤ decL l ∧ decL l < 10000000000 := by
  have h1 := decL_bd l.length l rfl ha
  have h2 : (10 : Int) ^ l.length ≤ 10 ^ 10 := by
    have : (10 : Nat) ^ l.length ≤ 10 ^ 10 := Nat.pow_le_pow_right (by decide) h
    exact_mod_cast this
  have h3 : (10 : Int) ^ 10 = 10000000000 := by decide
  omega
theorem refVal_nil (w : World) : Calls Tryd.prog 48 #[.string ⟨#[]⟩] w fun e w' => e = .returned (.tuple #[.int .i64 0, .bool false]) ∧ Below w.heap.size w w' := by
  go_enter Tryd.func48, Tryd.ntmps48
  go_wp2
  go_ret2
  exact ⟨rfl, Below.refl _ _⟩
theorem refVal_len0 (S : ByteArray) (w : World) (hB : S.size ≤ 1000000000) (h0 : 0 < S.size) (hc : bn S[0] ≠ 45) (hl : S.size - 0 < 1 ∨ 10 < S.size - 0) : Calls Tryd.prog 48 #[.string S] w fun e w' => e = .returned (.tuple #[.int .i64 0, .bool false]) ∧ Below w.heap.size w w' := by
  unfold bn at hc
  have h0' : (0 : Int) < (S.size : Int) := by omega
  have hB' : (S.size : Int) ≤ 1000000000 := by omega
  by_cases h1 : S.size - 0 < 1
  · exfalso; omega
  · have q1 : ¬ ((S.size : Int) - 0 < 1) := by omega
    have q2 : (10 : Int) < (S.size : Int) - 0 := by omega
    clear hl h1
    go_enter Tryd.func48, Tryd.ntmps48
    go_wp2
    go_ret2
    exact ⟨rfl, Below.refl _ _⟩
theorem refVal_len1 (S : ByteArray) (w : World) (hB : S.size ≤ 1000000000) (h0 : 0 < S.size) (hc : bn S[0] = 45) (hl : S.size - 1 < 1 ∨ 10 < S.size - 1) : Calls Tryd.prog 48 #[.string S] w fun e w' => e = .returned (.tuple #[.int .i64 0, .bool false]) ∧ Below w.heap.size w w' := by
  unfold bn at hc
  have h0' : (0 : Int) < (S.size : Int) := by omega
  have hB' : (S.size : Int) ≤ 1000000000 := by omega
  by_cases h1 : S.size - 1 < 1
  · have q1 : ((S.size : Int) - 1 < 1) := by omega
    clear hl h1
    go_enter Tryd.func48, Tryd.ntmps48
    go_wp2
    go_ret2
    exact ⟨rfl, Below.refl _ _⟩
  · have q1 : ¬ ((S.size : Int) - 1 < 1) := by omega
    have q2 : (10 : Int) < (S.size : Int) - 1 := by omega
    clear hl h1
    go_enter Tryd.func48, Tryd.ntmps48
    go_wp2
    go_ret2
    exact ⟨rfl, Below.refl _ _⟩
set_option maxHeartbeats 1000000 in
theorem refVal_dig0 (x : List UInt8) (S : ByteArray) (w : World) (hS : S.data.toList = x) (h0 : 0 < S.size) (hc : bn S[0] ≠ 45) (hl : 1 ≤ S.size - 0 ∧ S.size - 0 ≤ 10) (hd : digL x = x.drop 0) (hng : negB x = false) : Calls Tryd.prog 48 #[.string S] w fun e w' => e = .returned (.tuple #[.int .i64 (refVal x).1, .bool (refVal x).2]) ∧ Below w.heap.size w w' := by
  have hxl : x.length = S.size := by rw [← hS]; simp
  have SN : refVal x = if allDigB (digL x) = true then (signL x, decide (numN (signL x) = x)) else (0, false) := by
    unfold refVal; rw [if_neg]; rintro (h | h)
    · rw [hd] at h; have := congrArg List.length h; rw [List.length_drop, List.length_nil] at this; omega
    · rw [hd] at h; simp at h; omega
  unfold signL at SN
  rw [hng] at SN
  replace SN : refVal x = if allDigB (digL x) = true then (decL (digL x), decide (numN (decL (digL x)) = x)) else (0, false) := SN
  have hdl : (digL x).length = S.size - 0 := by rw [hd]; simp; omega
  have hget : ∀ (k : Nat) (hk : k < S.size), 0 ≤ k → (digL x)[k - 0]? = some S[k] := by
    intro k hk hF
    rw [hd, List.getElem?_drop, show 0 + (k - 0) = k by omega, ← hS, List.getElem?_eq_getElem (by simpa using hk)]; rfl
  generalize digL x = ds at *
  unfold bn at hc
  have h0' : (0 : Int) < (S.size : Int) := by omega
  have q1 : ¬ ((S.size : Int) - 0 < 1) := by omega
  have q2 : ¬ ((10 : Int) < (S.size : Int) - 0) := by omega
  have HSN := Lib.hid SN
  have HS := Lib.hid hS
  have HDL := Lib.hid hdl
  have HGT := Lib.hid hget
  have hS12 : S.size ≤ 11 := by omega
  have hFS : 0 < S.size := by omega
  clear SN hS hdl hget hd hng hl hxl
  go_enter Tryd.func48, Tryd.ntmps48
  go_wp2
  go_loopw [4, 6] (fun n i wr => ∃ k : Nat, 0 ≤ k ∧ k ≤ S.size ∧ i = .int .i64 k ∧ Hid (n = .int .i64 (decL (ds.take (k - 0)))) ∧ (∃ m : Int, n = .int .i64 m ∧ 0 ≤ m ∧ m < 10000000000) ∧ Hid (allDigB (ds.take (k - 0)) = true) ∧ wr = w) (fun _ i _ => S.size - (intOf i).toNat)
  case atStart => exact ⟨0, Nat.le_refl _, by omega, rfl, Lib.hid rfl, ⟨0, rfl, by omega, by omega⟩, Lib.hid rfl, rfl⟩
  case round =>
    obtain ⟨k, hFk, hk, rfl, HD, ⟨m, rfl, hm0, hm1⟩, HA, rfl⟩ := hrel
    have hmd : m = decL (ds.take (k - 0)) := by have := HD.out; simpa using this
    have HMD := Lib.hid hmd
    clear hmd HD
    by_cases hks : k < S.size
    · have hg := HGT.out k hks hFk
      have TK : ds.take (k + 1 - 0) = ds.take (k - 0) ++ [S[k]] := by
        rw [show k + 1 - 0 = (k - 0) + 1 by omega, List.take_add_one, hg]; rfl
      by_cases hdg : digB (bn S[k]) = true
      · have hd2 : 48 ≤ bn S[k] ∧ bn S[k] ≤ 57 := by unfold digB at hdg; simpa using hdg
        have A1 : allDigB (ds.take (k + 1 - 0)) = true := by
          rw [TK]; unfold allDigB; rw [List.all_append]; simp only [Bool.and_eq_true]
          exact ⟨HA.out, by simp; exact hdg⟩
        have D1 : m * 10 + (bn S[k] - 48) = decL (ds.take (k + 1 - 0)) := by rw [TK, decL_snoc, ← HMD.out]; omega
        have B1 := decL_10 (ds.take (k + 1 - 0)) (by rw [List.length_take]; omega) A1
        rw [← D1] at B1
        have HA1 := Lib.hid A1
        have HD1 := Lib.hid D1
        clear A1 D1 TK hg hdg
        unfold bn at *
        obtain ⟨h48, h57⟩ := hd2
        have q3 : decide ((S[k].toNat : Int) < 48) = false := decide_eq_false (by omega)
        have q4 : decide ((57 : Int) < (S[k].toNat : Int)) = false := decide_eq_false (by omega)
        generalize hcc : (S[k].toNat : Int) = cc at *
        go_wp2
        go_roundw
        case rel =>
          refine ⟨k + 1, by omega, by omega, by go_num, Lib.hid (by rw [← HD1.out]), ⟨_, rfl, B1.1, B1.2⟩, HA1, by first | rfl | trivial⟩
        case measure => simp [intOf]; omega
      · have hdf : digB (bn S[k]) = false := by simpa using hdg
        have hall : allDigB ds = false := by
          unfold allDigB
          rw [List.all_eq_false]
          exact ⟨S[k], List.mem_of_getElem? hg, by rw [hdf]; simp⟩
        have HF := Lib.hid (show refVal x = (0, false) by rw [HSN.out, hall]; rfl)
        have hd2 : ¬ (48 ≤ bn S[k] ∧ bn S[k] ≤ 57) := by unfold digB at hdf; simpa using hdf
        clear TK hg hdg hdf hall
        unfold bn at *
        by_cases hlt : (S[k].toNat : Int) < 48
        · have q3 : decide ((S[k].toNat : Int) < 48) = true := decide_eq_true hlt
          clear hd2
          generalize hcc : (S[k].toNat : Int) = cc at *
          go_wp2
          go_ret2
          rw [HF.out]; exact ⟨rfl, Below.refl _ _⟩
        · have hgt : 57 < (S[k].toNat : Int) := by omega
          have q3 : decide ((S[k].toNat : Int) < 48) = false := decide_eq_false hlt
          have q4 : decide ((57 : Int) < (S[k].toNat : Int)) = true := decide_eq_true hgt
          clear hd2
          generalize hcc : (S[k].toNat : Int) = cc at *
          go_wp2
          go_ret2
          rw [HF.out]; exact ⟨rfl, Below.refl _ _⟩
    · have e : ds.take (k - 0) = ds := List.take_of_length_le (by rw [HDL.out]; omega)
      have hall : allDigB ds = true := by rw [← e]; exact HA.out
      have hm : m = decL ds := by rw [HMD.out, e]
      have HF := Lib.hid (show refVal x = (m, decide (numN (m) = x)) by rw [HSN.out, hall, hm]; rfl)
      clear e hall hm
      have NU := fun ww => refNum_any (m) ww (by omega) (by omega)
      have QE := text_eq2 (numN (m)) x
      have hSx : S = bs x := by rw [← HS.out, bs_of]
      generalize decide (numN (m) = x) = q at *
      generalize numN (m) = T at *
      have NU2 := Lib.hid NU
      have HSX := Lib.hid hSx
      have QE2 : ((bs T).toList == S.toList) = q := by rw [hSx]; exact QE
      clear NU hSx QE
      go_wp2_with (go_at_call 47; refine (NU2.out _).mono ?_; rintro e w2 ⟨rfl, hb2⟩)
      go_ret2
      rw [HF.out]
      exact ⟨rfl, hb2⟩
set_option maxHeartbeats 1000000 in
theorem refVal_dig1 (x : List UInt8) (S : ByteArray) (w : World) (hS : S.data.toList = x) (h0 : 0 < S.size) (hc : bn S[0] = 45) (hl : 1 ≤ S.size - 1 ∧ S.size - 1 ≤ 10) (hd : digL x = x.drop 1) (hng : negB x = true) : Calls Tryd.prog 48 #[.string S] w fun e w' => e = .returned (.tuple #[.int .i64 (refVal x).1, .bool (refVal x).2]) ∧ Below w.heap.size w w' := by
  have hxl : x.length = S.size := by rw [← hS]; simp
  have SN : refVal x = if allDigB (digL x) = true then (signL x, decide (numN (signL x) = x)) else (0, false) := by
    unfold refVal; rw [if_neg]; rintro (h | h)
    · rw [hd] at h; have := congrArg List.length h; rw [List.length_drop, List.length_nil] at this; omega
    · rw [hd] at h; simp at h; omega
  unfold signL at SN
  rw [hng] at SN
  replace SN : refVal x = if allDigB (digL x) = true then (-decL (digL x), decide (numN (-decL (digL x)) = x)) else (0, false) := SN
  have hdl : (digL x).length = S.size - 1 := by rw [hd]; simp; omega
  have hget : ∀ (k : Nat) (hk : k < S.size), 1 ≤ k → (digL x)[k - 1]? = some S[k] := by
    intro k hk hF
    rw [hd, List.getElem?_drop, show 1 + (k - 1) = k by omega, ← hS, List.getElem?_eq_getElem (by simpa using hk)]; rfl
  generalize digL x = ds at *
  unfold bn at hc
  have h0' : (0 : Int) < (S.size : Int) := by omega
  have q1 : ¬ ((S.size : Int) - 1 < 1) := by omega
  have q2 : ¬ ((10 : Int) < (S.size : Int) - 1) := by omega
  have HSN := Lib.hid SN
  have HS := Lib.hid hS
  have HDL := Lib.hid hdl
  have HGT := Lib.hid hget
  have hS12 : S.size ≤ 11 := by omega
  have hFS : 1 < S.size := by omega
  clear SN hS hdl hget hd hng hl hxl
  go_enter Tryd.func48, Tryd.ntmps48
  go_wp2
  go_loopw [4, 6] (fun n i wr => ∃ k : Nat, 1 ≤ k ∧ k ≤ S.size ∧ i = .int .i64 k ∧ Hid (n = .int .i64 (decL (ds.take (k - 1)))) ∧ (∃ m : Int, n = .int .i64 m ∧ 0 ≤ m ∧ m < 10000000000) ∧ Hid (allDigB (ds.take (k - 1)) = true) ∧ wr = w) (fun _ i _ => S.size - (intOf i).toNat)
  case atStart => exact ⟨1, Nat.le_refl _, by omega, rfl, Lib.hid rfl, ⟨0, rfl, by omega, by omega⟩, Lib.hid rfl, rfl⟩
  case round =>
    obtain ⟨k, hFk, hk, rfl, HD, ⟨m, rfl, hm0, hm1⟩, HA, rfl⟩ := hrel
    have hmd : m = decL (ds.take (k - 1)) := by have := HD.out; simpa using this
    have HMD := Lib.hid hmd
    clear hmd HD
    by_cases hks : k < S.size
    · have hg := HGT.out k hks hFk
      have TK : ds.take (k + 1 - 1) = ds.take (k - 1) ++ [S[k]] := by
        rw [show k + 1 - 1 = (k - 1) + 1 by omega, List.take_add_one, hg]; rfl
      by_cases hdg : digB (bn S[k]) = true
      · have hd2 : 48 ≤ bn S[k] ∧ bn S[k] ≤ 57 := by unfold digB at hdg; simpa using hdg
        have A1 : allDigB (ds.take (k + 1 - 1)) = true := by
          rw [TK]; unfold allDigB; rw [List.all_append]; simp only [Bool.and_eq_true]
          exact ⟨HA.out, by simp; exact hdg⟩
        have D1 : m * 10 + (bn S[k] - 48) = decL (ds.take (k + 1 - 1)) := by rw [TK, decL_snoc, ← HMD.out]; omega
        have B1 := decL_10 (ds.take (k + 1 - 1)) (by rw [List.length_take]; omega) A1
        rw [← D1] at B1
        have HA1 := Lib.hid A1
        have HD1 := Lib.hid D1
        clear A1 D1 TK hg hdg
        unfold bn at *
        obtain ⟨h48, h57⟩ := hd2
        have q3 : decide ((S[k].toNat : Int) < 48) = false := decide_eq_false (by omega)
        have q4 : decide ((57 : Int) < (S[k].toNat : Int)) = false := decide_eq_false (by omega)
        generalize hcc : (S[k].toNat : Int) = cc at *
        go_wp2
        go_roundw
        case rel =>
          refine ⟨k + 1, by omega, by omega, by go_num, Lib.hid (by rw [← HD1.out]), ⟨_, rfl, B1.1, B1.2⟩, HA1, by first | rfl | trivial⟩
        case measure => simp [intOf]; omega
      · have hdf : digB (bn S[k]) = false := by simpa using hdg
        have hall : allDigB ds = false := by
          unfold allDigB
          rw [List.all_eq_false]
          exact ⟨S[k], List.mem_of_getElem? hg, by rw [hdf]; simp⟩
        have HF := Lib.hid (show refVal x = (0, false) by rw [HSN.out, hall]; rfl)
        have hd2 : ¬ (48 ≤ bn S[k] ∧ bn S[k] ≤ 57) := by unfold digB at hdf; simpa using hdf
        clear TK hg hdg hdf hall
        unfold bn at *
        by_cases hlt : (S[k].toNat : Int) < 48
        · have q3 : decide ((S[k].toNat : Int) < 48) = true := decide_eq_true hlt
          clear hd2
          generalize hcc : (S[k].toNat : Int) = cc at *
          go_wp2
          go_ret2
          rw [HF.out]; exact ⟨rfl, Below.refl _ _⟩
        · have hgt : 57 < (S[k].toNat : Int) := by omega
          have q3 : decide ((S[k].toNat : Int) < 48) = false := decide_eq_false hlt
          have q4 : decide ((57 : Int) < (S[k].toNat : Int)) = true := decide_eq_true hgt
          clear hd2
          generalize hcc : (S[k].toNat : Int) = cc at *
          go_wp2
          go_ret2
          rw [HF.out]; exact ⟨rfl, Below.refl _ _⟩
    · have e : ds.take (k - 1) = ds := List.take_of_length_le (by rw [HDL.out]; omega)
      have hall : allDigB ds = true := by rw [← e]; exact HA.out
      have hm : m = decL ds := by rw [HMD.out, e]
      have HF := Lib.hid (show refVal x = (-m, decide (numN (-m) = x)) by rw [HSN.out, hall, hm]; rfl)
      clear e hall hm
      have NU := fun ww => refNum_any (-m) ww (by omega) (by omega)
      have QE := text_eq2 (numN (-m)) x
      have hSx : S = bs x := by rw [← HS.out, bs_of]
      generalize decide (numN (-m) = x) = q at *
      generalize numN (-m) = T at *
      have NU2 := Lib.hid NU
      have HSX := Lib.hid hSx
      have QE2 : ((bs T).toList == S.toList) = q := by rw [hSx]; exact QE
      clear NU hSx QE
      go_wp2_with (go_at_call 47; refine (NU2.out _).mono ?_; rintro e w2 ⟨rfl, hb2⟩)
      go_ret2
      rw [HF.out]
      exact ⟨rfl, hb2⟩
theorem refVal_any (x : List UInt8) (w : World) (hB : x.length ≤ 1000000000) : Calls Tryd.prog 48 #[.string (bs x)] w fun e w' => e = .returned (.tuple #[.int .i64 (refVal x).1, .bool (refVal x).2]) ∧ Below w.heap.size w w' := by
  cases x with
  | nil => exact refVal_nil w
  | cons c r =>
    have h0 : 0 < (bs (c :: r)).size := by rw [bs_size]; simp
    have hg : (bs (c :: r))[0] = c := by simp [bs]; rfl
    by_cases h45 : c = 45
    · subst h45
      obtain ⟨d1, d2⟩ := digL_cons r
      by_cases hl : 1 ≤ r.length ∧ r.length ≤ 10
      · exact refVal_dig1 _ _ w (bs_data _) h0 (by rw [hg]; rfl) (by rw [bs_size]; simp; exact hl) (by rw [d1]; rfl) d2
      · have e : refVal (45 :: r) = (0, false) := by
          unfold refVal; rw [d1, if_pos]
          by_cases h : r.length = 0
          · left; exact List.eq_nil_of_length_eq_zero h
          · right; omega
        rw [e]
        exact refVal_len1 _ w (by rw [bs_size]; exact hB) h0 (by rw [hg]; rfl) (by rw [bs_size, List.length_cons]; omega)
    · obtain ⟨d1, d2⟩ := digL_other c r h45
      have hn : bn (bs (c :: r))[0] ≠ 45 := by rw [hg]; intro h; exact h45 (UInt8.toNat_inj.1 (by unfold bn at h; simp; omega))
      by_cases hl : r.length + 1 ≤ 10
      · exact refVal_dig0 _ _ w (bs_data _) h0 hn (by rw [bs_size]; simp; omega) (by rw [d1]; rfl) d2
      · have e : refVal (c :: r) = (0, false) := by
          unfold refVal; rw [d1, if_pos]; right; simp; omega
        rw [e]
        exact refVal_len0 _ w (by rw [bs_size]; exact hB) h0 hn (by rw [bs_size]; simp; omega)
end Go.Proofs.YtcoaidpiignheaaDoor
