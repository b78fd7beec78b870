/-
  The walk of ref05.One.
  The walk of ref05.One, joined; ref05.Cut.
  The walk of ref05.Cut.
-/
import Derived.Test.YtikhghmnclpigaaGreatDoorLexD
namespace Go.Proofs.YtikhghmnclpigaaGreatDoor
open Go.RowKit Wsc
theorem one_eq (s : ByteArray) (n : Nat) (h : n < s.size) : oneL (s.data.toList.drop n) =
    if hasL (s.data.toList.drop n) [47, 42] = true then (⟨0, [], 0⟩, 2 + behindL [42, 47] (s.data.toList.drop (n + 2)))
    else if blankB (bn s[n]) = true then (⟨20, [], 0⟩, (runOf blankB (s.data.toList.drop n)).length)
    else if bn s[n] = 34 ∨ bn s[n] = 39 then ((quotedL (bn s[n]) (s.data.toList.drop (n + 1))).1, (quotedL (bn s[n]) (s.data.toList.drop (n + 1))).2 + 1)
    else if 0 < numberL (s.data.toList.drop n) then measureL (s.data.toList.drop n) (numberL (s.data.toList.drop n))
    else if bn s[n] = 35 ∧ 0 < (runL (s.data.toList.drop (n + 1))).length then (⟨4, runL (s.data.toList.drop (n + 1)), 0⟩, 1 + (runL (s.data.toList.drop (n + 1))).length)
    else if bn s[n] = 64 ∧ startsL (s.data.toList.drop (n + 1)) = true then (⟨3, runL (s.data.toList.drop (n + 1)), 0⟩, 1 + (runL (s.data.toList.drop (n + 1))).length)
    else if startsL (s.data.toList.drop n) = true then
      (if hasL (s.data.toList.drop (n + (runL (s.data.toList.drop n)).length)) [40] = true then (⟨2, runL (s.data.toList.drop n), 0⟩, (runL (s.data.toList.drop n)).length + 1) else (⟨1, runL (s.data.toList.drop n), 0⟩, (runL (s.data.toList.drop n)).length))
    else if 0 < signsK (bn s[n]) then (⟨signsK (bn s[n]), [], 0⟩, 1)
    else (⟨19, [s[n]], 0⟩, 1) := by
  have e := drop_at s n h
  have e2 : (s.data.toList.drop n).drop 2 = s.data.toList.drop (n + 2) := by rw [List.drop_drop]
  have e3 : (s.data.toList.drop n).drop (runL (s.data.toList.drop n)).length = s.data.toList.drop (n + (runL (s.data.toList.drop n)).length) := by rw [List.drop_drop]
  rw [← e2, ← e3]
  generalize s.data.toList.drop n = l at *
  subst e
  rfl
/-- what One gives back. -/
def OneRes (w : World) (x : Tok × Nat) (n : Nat) (e : Ending) (w' : World) : Prop := e = .returned (.tuple #[tokV x.1, .int .i64 ((n + x.2 : Nat) : Nat)]) ∧ Below w.heap.size w w'
theorem has1 (s : ByteArray) (n : Nat) (w : World) (hs : s.size ≤ 4611686018427387903) (hn : n ≤ s.size) :
    Calls Tryz.prog 99 #[.string s, .int .i64 n, .string ⟨#[47, 42]⟩] w fun e w' => e = .returned (.bool (hasL (s.data.toList.drop n) [47, 42])) ∧ w = w' := by
  have := refHas_any s ⟨#[47, 42]⟩ n w (by omega) (by decide) (by omega) (by omega)
  rwa [Int.toNat_natCast] at this
theorem has2 (s : ByteArray) (n : Nat) (w : World) (hs : s.size ≤ 4611686018427387903) (hn : n ≤ s.size) :
    Calls Tryz.prog 99 #[.string s, .int .i64 n, .string ⟨#[40]⟩] w fun e w' => e = .returned (.bool (hasL (s.data.toList.drop n) [40])) ∧ w = w' := by
  have := refHas_any s ⟨#[40]⟩ n w (by omega) (by decide) (by omega) (by omega)
  rwa [Int.toNat_natCast] at this
theorem beh1 (s : ByteArray) (n : Nat) (w : World) (hs : s.size ≤ 4611686018427387903) (hn : n ≤ s.size) :
    Calls Tryz.prog 100 #[.string s, .int .i64 n, .string ⟨#[42, 47]⟩] w fun e w' => e = .returned (.int .i64 ((n + behindL [42, 47] (s.data.toList.drop n) : Nat) : Nat)) ∧ w = w' := by
  have := refBehind_any s ⟨#[42, 47]⟩ n w (by omega) (by decide) (by omega) (by omega)
  rwa [Int.toNat_natCast] at this
theorem refSigns (s : ByteArray) (n : Nat) (hn : n < s.size) (ww : World) :
    Calls Tryz.prog 106 #[.int .u8 (bn s[n])] ww fun e w' => e = .returned (.int .i64 (signsK (bn s[n]))) ∧ ww = w' := lexSign_any _ _
theorem tup_eq {t : Tok} {v0 v1 v2 : Value} {i j : Int} (h : tokV t = .agg #[v0, v1, v2]) (hij : i = j) : Ending.returned (.tuple #[.agg #[v0, v1, v2], .int .i64 i]) = .returned (.tuple #[tokV t, .int .i64 j]) := by rw [h, hij]
theorem below_one (w : World) (o : Obj) : Below w.heap.size w (w.alloc o) := (Below.refl _ _).alloc (Nat.le_refl _) _
theorem one_cmt (s : ByteArray) (n : Nat) (w : World) (hs : s.size ≤ 4611686018427387903) (hn : n < s.size) (h1 : hasL (s.data.toList.drop n) [47, 42] = true) :
    Calls Tryz.prog 83 #[.string s, .int .i64 n] w (OneRes w (oneL (s.data.toList.drop n)) n) := by
  rw [one_eq s n hn, if_pos h1]
  have hl : n + 2 ≤ s.size := by rw [hasL_take] at h1; simp at h1; omega
  obtain ⟨m, hm⟩ : ∃ m, m = n + 2 := ⟨_, rfl⟩
  rw [← hm]
  have hm2 : (n : Int) + 2 = (m : Int) := by omega
  have A := fun ww => has1 s n ww hs (by omega)
  rw [h1] at A
  have B := fun ww => beh1 s m ww hs (by omega)
  have HM := Lib.hid hm
  clear hm h1
  generalize behindL [42, 47] (s.data.toList.drop m) = b at *
  have A2 := Lib.hid A
  have B2 := Lib.hid B
  clear A B
  go_enter Tryz.func83, Tryz.ntmps83
  go_wp2_with (first | (go_at_call 99; refine (A2.out _).mono ?_; rintro e w' ⟨rfl, rfl⟩) | (go_at_call 100; refine (B2.out _).mono ?_; rintro e w' ⟨rfl, rfl⟩))
  exact ret_tok rfl rfl (Blk3.new w 32 _ _ _) rfl ⟨tup_eq rfl (by have := HM.out; omega), below_one w _⟩
theorem one_blank (s : ByteArray) (n : Nat) (w : World) (hs : s.size ≤ 4611686018427387903) (hn : n < s.size) (h1 : hasL (s.data.toList.drop n) [47, 42] = false) (h2 : blankB (bn s[n]) = true) :
    Calls Tryz.prog 83 #[.string s, .int .i64 n] w (OneRes w (oneL (s.data.toList.drop n)) n) := by
  rw [one_eq s n hn, if_neg (by rw [h1]; simp), if_pos h2]
  have A := fun ww => has1 s n ww hs (by omega)
  rw [h1] at A
  have A2 := Lib.hid A
  clear A
  have B := refBlank_any (bn s[n])
  rw [h2] at B
  have B2 := Lib.hid B
  clear B
  have C := fun ww => refBlanks_any s n ww (by omega) (by omega) (by omega)
  rw [Int.toNat_natCast] at C
  have hle := runOf_le blankB (s.data.toList.drop n)
  rw [List.length_drop, Array.length_toList] at hle
  have hle2 : (runOf blankB (s.data.toList.drop n)).length ≤ s.size - n := hle
  clear hle
  generalize (runOf blankB (s.data.toList.drop n)).length = b at *
  have C2 := Lib.hid C
  clear C h1 h2
  go_enter Tryz.func83, Tryz.ntmps83
  go_wp2_with (first | (go_at_call 99; refine (A2.out _).mono ?_; rintro e w' ⟨rfl, rfl⟩) | (go_at_call 101; refine (B2.out _).mono ?_; rintro e w' ⟨rfl, rfl⟩) | (go_at_call 102; refine (C2.out _).mono ?_; rintro e w' ⟨rfl, rfl⟩))
  exact ret_tok rfl rfl (Blk3.new w 32 _ _ _) rfl ⟨tup_eq rfl (by omega), below_one w _⟩
theorem one_num (s : ByteArray) (n : Nat) (w : World) (hs : s.size ≤ 4611686018427387903) (hn : n < s.size) (h1 : hasL (s.data.toList.drop n) [47, 42] = false) (h2 : blankB (bn s[n]) = false) (h3 : ¬ (bn s[n] = 34 ∨ bn s[n] = 39)) (h4 : 0 < numberL (s.data.toList.drop n)) (hk : n + numberL (s.data.toList.drop n) ≤ s.size) :
    Calls Tryz.prog 83 #[.string s, .int .i64 n] w (OneRes w (oneL (s.data.toList.drop n)) n) := by
  rw [one_eq s n hn, if_neg (by rw [h1]; simp), if_neg (by rw [h2]; simp), if_neg h3, if_pos h4]
  have A := fun ww => has1 s n ww hs (by omega)
  rw [h1] at A
  have A2 := Lib.hid A
  clear A
  have B := refBlank_any (bn s[n])
  rw [h2] at B
  have B2 := Lib.hid B
  clear B
  have g34 : ((s[n].toNat : Int) == 34) = false := by have : ¬ bn s[n] = 34 := fun e => h3 (Or.inl e); simpa using this
  have g39 : ((s[n].toNat : Int) == 39) = false := by have : ¬ bn s[n] = 39 := fun e => h3 (Or.inr e); simpa using this
  have NU := fun ww => refNumber_any s n ww hs (by omega) (by omega)
  rw [Int.toNat_natCast] at NU
  have ME := fun ww => refMeasure_any s n (numberL (s.data.toList.drop n)) ww hs h4 hk
  generalize measureL (s.data.toList.drop n) (numberL (s.data.toList.drop n)) = R at *
  obtain ⟨t, c⟩ := R
  simp only at ME ⊢
  generalize numberL (s.data.toList.drop n) = k at *
  have NU2 := Lib.hid NU
  have ME2 := Lib.hid ME
  clear NU ME h1 h2 h3
  have hZ : Below w.heap.size w (ztw w) := below_one w _
  have HZ := Lib.hid hZ
  clear hZ
  go_enter Tryz.func83, Tryz.ntmps83
  go_wp2_with (first | (go_at_call 99; refine (A2.out _).mono ?_; rintro e w' ⟨rfl, rfl⟩) | (go_at_call 101; refine (B2.out _).mono ?_; rintro e w' ⟨rfl, rfl⟩) | (go_at_call 104; refine (NU2.out _).mono ?_; rintro e w' ⟨rfl, rfl⟩))
  refine (ME2.out _).mono ?_
  rintro e w1 ⟨rfl, hb⟩
  have hb1 : Below (w.heap.size + 1) (ztw w) w1 := by rw [← ztw_size]; exact hb
  obtain ⟨r0, r1, r2, f0, f1, f2⟩ := (ztok w).below hb1 (by omega)
  have hb2 := Lib.hid hb1
  clear hb hb1
  unfold tokV
  have Q := (Blk3.mk r0 r1 r2 f0 f1 f2).put (.int .i64 t.kind) (.string (bs t.text)) (.int .i64 t.n)
  have hB := below_put3 (HZ.out.trans (hb2.out.mono (by omega))) (Nat.le_refl _) (.int .i64 t.kind) (.string (bs t.text)) (.int .i64 t.n)
  go_wp2
  exact ret_tok rfl rfl Q rfl ⟨rfl, hB⟩
theorem one_dq (s : ByteArray) (n : Nat) (w : World) (hs : s.size ≤ 4611686018427387903) (hn : n < s.size) (h1 : hasL (s.data.toList.drop n) [47, 42] = false) (h2 : blankB (bn s[n]) = false) (h3 : bn s[n] = 34) :
    Calls Tryz.prog 83 #[.string s, .int .i64 n] w (OneRes w (oneL (s.data.toList.drop n)) n) := by
  rw [one_eq s n hn, if_neg (by rw [h1]; simp), if_neg (by rw [h2]; simp), if_pos (Or.inl h3)]
  have A := fun ww => has1 s n ww hs (by omega)
  rw [h1] at A
  have A2 := Lib.hid A
  clear A
  have B := refBlank_any (bn s[n])
  rw [h2] at B
  have B2 := Lib.hid B
  clear B
  have g34 : ((s[n].toNat : Int) == 34) = true := by simpa using h3
  have ME := fun ww => refQuoted_any s n ww hs hn
  generalize quotedL (bn s[n]) (s.data.toList.drop (n + 1)) = R at *
  obtain ⟨t, c⟩ := R
  simp only at ME ⊢
  rw [show n + 1 + c = n + (c + 1) by omega] at ME
  have ME2 := Lib.hid ME
  clear ME h1 h2 h3
  have hZ : Below w.heap.size w (ztw w) := below_one w _
  have HZ := Lib.hid hZ
  clear hZ
  go_enter Tryz.func83, Tryz.ntmps83
  go_wp2_with (first | (go_at_call 99; refine (A2.out _).mono ?_; rintro e w' ⟨rfl, rfl⟩) | (go_at_call 101; refine (B2.out _).mono ?_; rintro e w' ⟨rfl, rfl⟩))
  refine (ME2.out _).mono ?_
  rintro e w1 ⟨rfl, hb⟩
  have hb1 : Below (w.heap.size + 1) (ztw w) w1 := by rw [← ztw_size]; exact hb
  obtain ⟨r0, r1, r2, f0, f1, f2⟩ := (ztok w).below hb1 (by omega)
  have hb2 := Lib.hid hb1
  clear hb hb1
  unfold tokV
  have Q := (Blk3.mk r0 r1 r2 f0 f1 f2).put (.int .i64 t.kind) (.string (bs t.text)) (.int .i64 t.n)
  have hB := below_put3 (HZ.out.trans (hb2.out.mono (by omega))) (Nat.le_refl _) (.int .i64 t.kind) (.string (bs t.text)) (.int .i64 t.n)
  go_wp2
  exact ret_tok rfl rfl Q rfl ⟨rfl, hB⟩
theorem one_sq (s : ByteArray) (n : Nat) (w : World) (hs : s.size ≤ 4611686018427387903) (hn : n < s.size) (h1 : hasL (s.data.toList.drop n) [47, 42] = false) (h2 : blankB (bn s[n]) = false) (h3 : bn s[n] = 39) :
    Calls Tryz.prog 83 #[.string s, .int .i64 n] w (OneRes w (oneL (s.data.toList.drop n)) n) := by
  rw [one_eq s n hn, if_neg (by rw [h1]; simp), if_neg (by rw [h2]; simp), if_pos (Or.inr h3)]
  have A := fun ww => has1 s n ww hs (by omega)
  rw [h1] at A
  have A2 := Lib.hid A
  clear A
  have B := refBlank_any (bn s[n])
  rw [h2] at B
  have B2 := Lib.hid B
  clear B
  have g34 : ((s[n].toNat : Int) == 34) = false := by have : ¬ bn s[n] = 34 := by omega
                                                      simpa using this
  have g39 : ((s[n].toNat : Int) == 39) = true := by simpa using h3
  have ME := fun ww => refQuoted_any s n ww hs hn
  generalize quotedL (bn s[n]) (s.data.toList.drop (n + 1)) = R at *
  obtain ⟨t, c⟩ := R
  simp only at ME ⊢
  rw [show n + 1 + c = n + (c + 1) by omega] at ME
  have ME2 := Lib.hid ME
  clear ME h1 h2 h3
  have hZ : Below w.heap.size w (ztw w) := below_one w _
  have HZ := Lib.hid hZ
  clear hZ
  go_enter Tryz.func83, Tryz.ntmps83
  go_wp2_with (first | (go_at_call 99; refine (A2.out _).mono ?_; rintro e w' ⟨rfl, rfl⟩) | (go_at_call 101; refine (B2.out _).mono ?_; rintro e w' ⟨rfl, rfl⟩))
  refine (ME2.out _).mono ?_
  rintro e w1 ⟨rfl, hb⟩
  have hb1 : Below (w.heap.size + 1) (ztw w) w1 := by rw [← ztw_size]; exact hb
  obtain ⟨r0, r1, r2, f0, f1, f2⟩ := (ztok w).below hb1 (by omega)
  have hb2 := Lib.hid hb1
  clear hb hb1
  unfold tokV
  have Q := (Blk3.mk r0 r1 r2 f0 f1 f2).put (.int .i64 t.kind) (.string (bs t.text)) (.int .i64 t.n)
  have hB := below_put3 (HZ.out.trans (hb2.out.mono (by omega))) (Nat.le_refl _) (.int .i64 t.kind) (.string (bs t.text)) (.int .i64 t.n)
  go_wp2
  exact ret_tok rfl rfl Q rfl ⟨rfl, hB⟩
theorem one_hash (s : ByteArray) (n : Nat) (w : World) (hs : s.size ≤ 4611686018427387903) (hn : n < s.size) (h1 : hasL (s.data.toList.drop n) [47, 42] = false) (h2 : blankB (bn s[n]) = false) (h3 : ¬ (bn s[n] = 34 ∨ bn s[n] = 39)) (h4 : ¬ 0 < numberL (s.data.toList.drop n)) (h5 : bn s[n] = 35) (h6 : 0 < (runL (s.data.toList.drop (n + 1))).length) :
    Calls Tryz.prog 83 #[.string s, .int .i64 n] w (OneRes w (oneL (s.data.toList.drop n)) n) := by
  rw [one_eq s n hn, if_neg (by rw [h1]; simp), if_neg (by rw [h2]; simp), if_neg h3, if_neg h4, if_pos ⟨h5, h6⟩]
  have A := fun ww => has1 s n ww hs (by omega)
  rw [h1] at A
  have A2 := Lib.hid A
  clear A
  have B := refBlank_any (bn s[n])
  rw [h2] at B
  have B2 := Lib.hid B
  clear B
  have g34 : ((s[n].toNat : Int) == 34) = false := by have : ¬ bn s[n] = 34 := fun e => h3 (Or.inl e); simpa using this
  have g39 : ((s[n].toNat : Int) == 39) = false := by have : ¬ bn s[n] = 39 := fun e => h3 (Or.inr e); simpa using this
  have NU := fun ww => refNumber_any s n ww hs (by omega) (by omega)
  rw [Int.toNat_natCast] at NU
  rw [show numberL (s.data.toList.drop n) = 0 by omega, show (((0 : Nat)) : Int) = 0 from rfl] at NU
  have NU2 := Lib.hid NU
  clear NU
  obtain ⟨m, hm⟩ : ∃ m, m = n + 1 := ⟨_, rfl⟩
  have hm2 : (n : Int) + 1 = (m : Int) := by omega
  have hm3 : m ≤ s.size := by omega
  have hm4 : n ≤ m := by omega
  rw [← hm] at h6 ⊢
  have RU := fun ww => refRun_any s (m : Int) ww (by omega) (by omega) (by omega)
  rw [Int.toNat_natCast] at RU
  have rle := runL_le (s.data.toList.drop m)
  rw [List.length_drop, Array.length_toList] at rle
  have rle2 : (runL (s.data.toList.drop m)).length ≤ s.size - m := rle
  clear rle
  have ST := fun ww => refStarts_any s (m : Int) ww (by omega) (by omega) (by omega)
  rw [Int.toNat_natCast] at ST
  have HM := Lib.hid hm
  obtain ⟨q, hq⟩ : ∃ q, (runL (s.data.toList.drop m)).length = q := ⟨_, rfl⟩
  rw [hq] at RU rle2
  have g35 : ((s[n].toNat : Int) == 35) = true := by simpa using h5
  obtain ⟨j, hj⟩ : ∃ j, j = m + q := ⟨_, rfl⟩
  have hj2 : (m : Int) + (q : Int) = (j : Int) := by omega
  have hj3 : j ≤ s.size := by omega
  have hj4 : m ≤ j := by omega
  have X := runL_ext s m j (by omega)
  rw [hq] at h6 ⊢
  have h62 : 0 < q := h6
  have RU2 := Lib.hid RU
  have ST2 := Lib.hid ST
  clear RU ST hm
  have TV : tokV ⟨4, runL (s.data.toList.drop m), 0⟩ = .agg #[.int .i64 4, .string (s.extract m j), .int .i64 0] := by rw [tokV, X]
  have TV2 := Lib.hid TV
  have HJ := Lib.hid hj
  clear h1 h2 h3 h4 h5 h6 X hj hq TV
  go_enter Tryz.func83, Tryz.ntmps83
  go_wp2_with (first | (go_at_call 99; refine (A2.out _).mono ?_; rintro e w' ⟨rfl, rfl⟩) | (go_at_call 101; refine (B2.out _).mono ?_; rintro e w' ⟨rfl, rfl⟩) | (go_at_call 104; refine (NU2.out _).mono ?_; rintro e w' ⟨rfl, rfl⟩) | (go_at_call 68; refine (RU2.out _).mono ?_; rintro e w' ⟨rfl, rfl⟩) | (go_at_call 67; refine (ST2.out _).mono ?_; rintro e w' ⟨rfl, rfl⟩))
  exact ret_tok rfl rfl (Blk3.new w 32 _ _ _) rfl ⟨tup_eq TV2.out (by have := HJ.out; have := HM.out; omega), below_one w _⟩
theorem one_at (s : ByteArray) (n : Nat) (w : World) (hs : s.size ≤ 4611686018427387903) (hn : n < s.size) (h1 : hasL (s.data.toList.drop n) [47, 42] = false) (h2 : blankB (bn s[n]) = false) (h3 : ¬ (bn s[n] = 34 ∨ bn s[n] = 39)) (h4 : ¬ 0 < numberL (s.data.toList.drop n)) (h5 : bn s[n] = 64) (h6 : startsL (s.data.toList.drop (n + 1)) = true) :
    Calls Tryz.prog 83 #[.string s, .int .i64 n] w (OneRes w (oneL (s.data.toList.drop n)) n) := by
  rw [one_eq s n hn, if_neg (by rw [h1]; simp), if_neg (by rw [h2]; simp), if_neg h3, if_neg h4, if_neg (by omega), if_pos ⟨h5, h6⟩]
  have A := fun ww => has1 s n ww hs (by omega)
  rw [h1] at A
  have A2 := Lib.hid A
  clear A
  have B := refBlank_any (bn s[n])
  rw [h2] at B
  have B2 := Lib.hid B
  clear B
  have g34 : ((s[n].toNat : Int) == 34) = false := by have : ¬ bn s[n] = 34 := fun e => h3 (Or.inl e); simpa using this
  have g39 : ((s[n].toNat : Int) == 39) = false := by have : ¬ bn s[n] = 39 := fun e => h3 (Or.inr e); simpa using this
  have NU := fun ww => refNumber_any s n ww hs (by omega) (by omega)
  rw [Int.toNat_natCast] at NU
  rw [show numberL (s.data.toList.drop n) = 0 by omega, show (((0 : Nat)) : Int) = 0 from rfl] at NU
  have NU2 := Lib.hid NU
  clear NU
  obtain ⟨m, hm⟩ : ∃ m, m = n + 1 := ⟨_, rfl⟩
  have hm2 : (n : Int) + 1 = (m : Int) := by omega
  have hm3 : m ≤ s.size := by omega
  have hm4 : n ≤ m := by omega
  rw [← hm] at h6 ⊢
  have RU := fun ww => refRun_any s (m : Int) ww (by omega) (by omega) (by omega)
  rw [Int.toNat_natCast] at RU
  have rle := runL_le (s.data.toList.drop m)
  rw [List.length_drop, Array.length_toList] at rle
  have rle2 : (runL (s.data.toList.drop m)).length ≤ s.size - m := rle
  clear rle
  have ST := fun ww => refStarts_any s (m : Int) ww (by omega) (by omega) (by omega)
  rw [Int.toNat_natCast] at ST
  have HM := Lib.hid hm
  obtain ⟨q, hq⟩ : ∃ q, (runL (s.data.toList.drop m)).length = q := ⟨_, rfl⟩
  rw [hq] at RU rle2
  have h35 : ¬ bn s[n] = 35 := by omega
  have g35 : ((s[n].toNat : Int) == 35) = false := by simpa using h35
  have g64 : ((s[n].toNat : Int) == 64) = true := by simpa using h5
  obtain ⟨j, hj⟩ : ∃ j, j = m + q := ⟨_, rfl⟩
  have hj2 : (m : Int) + (q : Int) = (j : Int) := by omega
  have hj3 : j ≤ s.size := by omega
  have hj4 : m ≤ j := by omega
  have X := runL_ext s m j (by omega)
  rw [hq]
  rw [h6] at ST
  have RU2 := Lib.hid RU
  have ST2 := Lib.hid ST
  clear RU ST hm
  have TV : tokV ⟨3, runL (s.data.toList.drop m), 0⟩ = .agg #[.int .i64 3, .string (s.extract m j), .int .i64 0] := by rw [tokV, X]
  have TV2 := Lib.hid TV
  have HJ := Lib.hid hj
  clear h1 h2 h3 h4 h5 h6 X hj hq TV h35
  go_enter Tryz.func83, Tryz.ntmps83
  go_wp2_with (first | (go_at_call 99; refine (A2.out _).mono ?_; rintro e w' ⟨rfl, rfl⟩) | (go_at_call 101; refine (B2.out _).mono ?_; rintro e w' ⟨rfl, rfl⟩) | (go_at_call 104; refine (NU2.out _).mono ?_; rintro e w' ⟨rfl, rfl⟩) | (go_at_call 68; refine (RU2.out _).mono ?_; rintro e w' ⟨rfl, rfl⟩) | (go_at_call 67; refine (ST2.out _).mono ?_; rintro e w' ⟨rfl, rfl⟩))
  exact ret_tok rfl rfl (Blk3.new w 32 _ _ _) rfl ⟨tup_eq TV2.out (by have := HJ.out; have := HM.out; omega), below_one w _⟩
set_option maxHeartbeats 1000000 in
theorem one_func (s : ByteArray) (n : Nat) (w : World) (hs : s.size ≤ 4611686018427387903) (hn : n < s.size) (h1 : hasL (s.data.toList.drop n) [47, 42] = false) (h2 : blankB (bn s[n]) = false) (h3 : ¬ (bn s[n] = 34 ∨ bn s[n] = 39)) (h4 : ¬ 0 < numberL (s.data.toList.drop n)) (h35 : ¬ bn s[n] = 35) (h64 : ¬ bn s[n] = 64) (st : startsL (s.data.toList.drop n) = true) (hp : hasL (s.data.toList.drop (n + (runL (s.data.toList.drop n)).length)) [40] = true) :
    Calls Tryz.prog 83 #[.string s, .int .i64 n] w (OneRes w (oneL (s.data.toList.drop n)) n) := by
  rw [one_eq s n hn, if_neg (by rw [h1]; simp), if_neg (by rw [h2]; simp), if_neg h3, if_neg h4, if_neg (by rintro ⟨h, _⟩; exact h35 h), if_neg (by rintro ⟨h, _⟩; exact h64 h), if_pos st, if_pos hp]
  have A := fun ww => has1 s n ww hs (by omega)
  rw [h1] at A
  have A2 := Lib.hid A
  clear A
  have B := refBlank_any (bn s[n])
  rw [h2] at B
  have B2 := Lib.hid B
  clear B
  have g34 : ((s[n].toNat : Int) == 34) = false := by have : ¬ bn s[n] = 34 := fun e => h3 (Or.inl e); simpa using this
  have g39 : ((s[n].toNat : Int) == 39) = false := by have : ¬ bn s[n] = 39 := fun e => h3 (Or.inr e); simpa using this
  have NU := fun ww => refNumber_any s n ww hs (by omega) (by omega)
  rw [Int.toNat_natCast] at NU
  rw [show numberL (s.data.toList.drop n) = 0 by omega, show (((0 : Nat)) : Int) = 0 from rfl] at NU
  have NU2 := Lib.hid NU
  clear NU
  obtain ⟨m, hm⟩ : ∃ m, m = n + 1 := ⟨_, rfl⟩
  have hm2 : (n : Int) + 1 = (m : Int) := by omega
  have hm3 : m ≤ s.size := by omega
  have hm4 : n ≤ m := by omega
  have RU := fun ww => refRun_any s (m : Int) ww (by omega) (by omega) (by omega)
  rw [Int.toNat_natCast] at RU
  have rle := runL_le (s.data.toList.drop m)
  rw [List.length_drop, Array.length_toList] at rle
  have rle2 : (runL (s.data.toList.drop m)).length ≤ s.size - m := rle
  clear rle
  have ST := fun ww => refStarts_any s (m : Int) ww (by omega) (by omega) (by omega)
  rw [Int.toNat_natCast] at ST
  have HM := Lib.hid hm
  obtain ⟨q, hq⟩ : ∃ q, (runL (s.data.toList.drop m)).length = q := ⟨_, rfl⟩
  rw [hq] at RU rle2
  have RO := fun ww => refRun_any s (n : Int) ww (by omega) (by omega) (by omega)
  rw [Int.toNat_natCast] at RO
  have ole := runL_le (s.data.toList.drop n)
  rw [List.length_drop, Array.length_toList] at ole
  have ole2 : (runL (s.data.toList.drop n)).length ≤ s.size - n := ole
  clear ole
  have SO := fun ww => refStarts_any s (n : Int) ww (by omega) (by omega) (by omega)
  rw [Int.toNat_natCast] at SO
  have SI := refSigns s n hn
  have X0 := runL_ext s n
  generalize hq0 : (runL (s.data.toList.drop n)).length = q0 at *
  obtain ⟨j, hj⟩ : ∃ j, j = n + q0 := ⟨_, rfl⟩
  have hj2 : (n : Int) + (q0 : Int) = (j : Int) := by omega
  have hj3 : j ≤ s.size := by omega
  have hj4 : n ≤ j := by omega
  have X := X0 j (by omega)
  rw [← hj] at hp
  have A3 := fun ww => has2 s j ww hs (by omega)
  rw [hp] at A3
  rw [st] at SO
  have g35 : ((s[n].toNat : Int) == 35) = false := by simpa using h35
  have g64 : ((s[n].toNat : Int) == 64) = false := by simpa using h64
  have RU2 := Lib.hid RU
  have ST2 := Lib.hid ST
  clear RU ST hm
  have TV : tokV ⟨2, runL (s.data.toList.drop n), 0⟩ = .agg #[.int .i64 2, .string (s.extract n j), .int .i64 0] := by rw [tokV, X]
  have TV2 := Lib.hid TV
  have HJ := Lib.hid hj
  have A32 := Lib.hid A3
  have RO2 := Lib.hid RO
  have SO2 := Lib.hid SO
  have SI2 := Lib.hid SI
  clear h2 h3 h4 h35 h64 X X0 hj TV A3 RO SO SI RU2 ST2 RO2 SO2 A2 A32
  go_enter Tryz.func83, Tryz.ntmps83
  go_wp2_with (first | (go_at_call 99; (refine (refHas_any s _ _ _ (by omega) (by decide) (by omega) (by omega)).mono ?_; rintro e w' ⟨rfl, rfl⟩)) | (go_at_call 101; refine (B2.out _).mono ?_; rintro e w' ⟨rfl, rfl⟩) | (go_at_call 104; refine (NU2.out _).mono ?_; rintro e w' ⟨rfl, rfl⟩) | (go_at_call 68; refine (refRun_any s _ _ (by omega) (by omega) (by omega)).mono ?_; rintro e w' ⟨rfl, rfl⟩) | (go_at_call 67; refine (refStarts_any s _ _ (by omega) (by omega) (by omega)).mono ?_; rintro e w' ⟨rfl, rfl⟩) | (go_at_call 106; refine (SI2.out _).mono ?_; rintro e w' ⟨rfl, rfl⟩))
  exact ret_tok rfl rfl (Blk3.new w 32 _ _ _) rfl ⟨tup_eq TV2.out (by have := HJ.out; have := HM.out; omega), below_one w _⟩
set_option maxHeartbeats 1000000 in
theorem one_ident (s : ByteArray) (n : Nat) (w : World) (hs : s.size ≤ 4611686018427387903) (hn : n < s.size) (h1 : hasL (s.data.toList.drop n) [47, 42] = false) (h2 : blankB (bn s[n]) = false) (h3 : ¬ (bn s[n] = 34 ∨ bn s[n] = 39)) (h4 : ¬ 0 < numberL (s.data.toList.drop n)) (h35 : ¬ bn s[n] = 35) (h64 : ¬ bn s[n] = 64) (st : startsL (s.data.toList.drop n) = true) (hp : hasL (s.data.toList.drop (n + (runL (s.data.toList.drop n)).length)) [40] = false) :
    Calls Tryz.prog 83 #[.string s, .int .i64 n] w (OneRes w (oneL (s.data.toList.drop n)) n) := by
  rw [one_eq s n hn, if_neg (by rw [h1]; simp), if_neg (by rw [h2]; simp), if_neg h3, if_neg h4, if_neg (by rintro ⟨h, _⟩; exact h35 h), if_neg (by rintro ⟨h, _⟩; exact h64 h), if_pos st, if_neg (by rw [hp]; simp)]
  have A := fun ww => has1 s n ww hs (by omega)
  rw [h1] at A
  have A2 := Lib.hid A
  clear A
  have B := refBlank_any (bn s[n])
  rw [h2] at B
  have B2 := Lib.hid B
  clear B
  have g34 : ((s[n].toNat : Int) == 34) = false := by have : ¬ bn s[n] = 34 := fun e => h3 (Or.inl e); simpa using this
  have g39 : ((s[n].toNat : Int) == 39) = false := by have : ¬ bn s[n] = 39 := fun e => h3 (Or.inr e); simpa using this
  have NU := fun ww => refNumber_any s n ww hs (by omega) (by omega)
  rw [Int.toNat_natCast] at NU
  rw [show numberL (s.data.toList.drop n) = 0 by omega, show (((0 : Nat)) : Int) = 0 from rfl] at NU
  have NU2 := Lib.hid NU
  clear NU
  obtain ⟨m, hm⟩ : ∃ m, m = n + 1 := ⟨_, rfl⟩
  have hm2 : (n : Int) + 1 = (m : Int) := by omega
  have hm3 : m ≤ s.size := by omega
  have hm4 : n ≤ m := by omega
  have RU := fun ww => refRun_any s (m : Int) ww (by omega) (by omega) (by omega)
  rw [Int.toNat_natCast] at RU
  have rle := runL_le (s.data.toList.drop m)
  rw [List.length_drop, Array.length_toList] at rle
  have rle2 : (runL (s.data.toList.drop m)).length ≤ s.size - m := rle
  clear rle
  have ST := fun ww => refStarts_any s (m : Int) ww (by omega) (by omega) (by omega)
  rw [Int.toNat_natCast] at ST
  have HM := Lib.hid hm
  obtain ⟨q, hq⟩ : ∃ q, (runL (s.data.toList.drop m)).length = q := ⟨_, rfl⟩
  rw [hq] at RU rle2
  have RO := fun ww => refRun_any s (n : Int) ww (by omega) (by omega) (by omega)
  rw [Int.toNat_natCast] at RO
  have ole := runL_le (s.data.toList.drop n)
  rw [List.length_drop, Array.length_toList] at ole
  have ole2 : (runL (s.data.toList.drop n)).length ≤ s.size - n := ole
  clear ole
  have SO := fun ww => refStarts_any s (n : Int) ww (by omega) (by omega) (by omega)
  rw [Int.toNat_natCast] at SO
  have SI := refSigns s n hn
  have X0 := runL_ext s n
  generalize hq0 : (runL (s.data.toList.drop n)).length = q0 at *
  obtain ⟨j, hj⟩ : ∃ j, j = n + q0 := ⟨_, rfl⟩
  have hj2 : (n : Int) + (q0 : Int) = (j : Int) := by omega
  have hj3 : j ≤ s.size := by omega
  have hj4 : n ≤ j := by omega
  have X := X0 j (by omega)
  rw [← hj] at hp
  have A3 := fun ww => has2 s j ww hs (by omega)
  rw [hp] at A3
  rw [st] at SO
  have g35 : ((s[n].toNat : Int) == 35) = false := by simpa using h35
  have g64 : ((s[n].toNat : Int) == 64) = false := by simpa using h64
  have RU2 := Lib.hid RU
  have ST2 := Lib.hid ST
  clear RU ST hm
  have TV : tokV ⟨1, runL (s.data.toList.drop n), 0⟩ = .agg #[.int .i64 1, .string (s.extract n j), .int .i64 0] := by rw [tokV, X]
  have TV2 := Lib.hid TV
  have HJ := Lib.hid hj
  have A32 := Lib.hid A3
  have RO2 := Lib.hid RO
  have SO2 := Lib.hid SO
  have SI2 := Lib.hid SI
  clear h2 h3 h4 h35 h64 X X0 hj TV A3 RO SO SI RU2 ST2 RO2 SO2 A2 A32
  go_enter Tryz.func83, Tryz.ntmps83
  go_wp2_with (first | (go_at_call 99; (refine (refHas_any s _ _ _ (by omega) (by decide) (by omega) (by omega)).mono ?_; rintro e w' ⟨rfl, rfl⟩)) | (go_at_call 101; refine (B2.out _).mono ?_; rintro e w' ⟨rfl, rfl⟩) | (go_at_call 104; refine (NU2.out _).mono ?_; rintro e w' ⟨rfl, rfl⟩) | (go_at_call 68; refine (refRun_any s _ _ (by omega) (by omega) (by omega)).mono ?_; rintro e w' ⟨rfl, rfl⟩) | (go_at_call 67; refine (refStarts_any s _ _ (by omega) (by omega) (by omega)).mono ?_; rintro e w' ⟨rfl, rfl⟩) | (go_at_call 106; refine (SI2.out _).mono ?_; rintro e w' ⟨rfl, rfl⟩))
  exact ret_tok rfl rfl (Blk3.new w 32 _ _ _) rfl ⟨tup_eq TV2.out (by have := HJ.out; have := HM.out; omega), below_one w _⟩
set_option maxHeartbeats 1000000 in
theorem one_sign (s : ByteArray) (n : Nat) (w : World) (hs : s.size ≤ 4611686018427387903) (hn : n < s.size) (h1 : hasL (s.data.toList.drop n) [47, 42] = false) (h2 : blankB (bn s[n]) = false) (h3 : ¬ (bn s[n] = 34 ∨ bn s[n] = 39)) (h4 : ¬ 0 < numberL (s.data.toList.drop n)) (h35 : ¬ bn s[n] = 35) (h64 : ¬ bn s[n] = 64) (st : startsL (s.data.toList.drop n) = false) (hk : 0 < signsK (bn s[n])) :
    Calls Tryz.prog 83 #[.string s, .int .i64 n] w (OneRes w (oneL (s.data.toList.drop n)) n) := by
  rw [one_eq s n hn, if_neg (by rw [h1]; simp), if_neg (by rw [h2]; simp), if_neg h3, if_neg h4, if_neg (by rintro ⟨h, _⟩; exact h35 h), if_neg (by rintro ⟨h, _⟩; exact h64 h), if_neg (by rw [st]; simp), if_pos hk]
  have A := fun ww => has1 s n ww hs (by omega)
  rw [h1] at A
  have A2 := Lib.hid A
  clear A
  have B := refBlank_any (bn s[n])
  rw [h2] at B
  have B2 := Lib.hid B
  clear B
  have g34 : ((s[n].toNat : Int) == 34) = false := by have : ¬ bn s[n] = 34 := fun e => h3 (Or.inl e); simpa using this
  have g39 : ((s[n].toNat : Int) == 39) = false := by have : ¬ bn s[n] = 39 := fun e => h3 (Or.inr e); simpa using this
  have NU := fun ww => refNumber_any s n ww hs (by omega) (by omega)
  rw [Int.toNat_natCast] at NU
  rw [show numberL (s.data.toList.drop n) = 0 by omega, show (((0 : Nat)) : Int) = 0 from rfl] at NU
  have NU2 := Lib.hid NU
  clear NU
  obtain ⟨m, hm⟩ : ∃ m, m = n + 1 := ⟨_, rfl⟩
  have hm2 : (n : Int) + 1 = (m : Int) := by omega
  have hm3 : m ≤ s.size := by omega
  have hm4 : n ≤ m := by omega
  have RU := fun ww => refRun_any s (m : Int) ww (by omega) (by omega) (by omega)
  rw [Int.toNat_natCast] at RU
  have rle := runL_le (s.data.toList.drop m)
  rw [List.length_drop, Array.length_toList] at rle
  have rle2 : (runL (s.data.toList.drop m)).length ≤ s.size - m := rle
  clear rle
  have ST := fun ww => refStarts_any s (m : Int) ww (by omega) (by omega) (by omega)
  rw [Int.toNat_natCast] at ST
  have HM := Lib.hid hm
  obtain ⟨q, hq⟩ : ∃ q, (runL (s.data.toList.drop m)).length = q := ⟨_, rfl⟩
  rw [hq] at RU rle2
  have RO := fun ww => refRun_any s (n : Int) ww (by omega) (by omega) (by omega)
  rw [Int.toNat_natCast] at RO
  have ole := runL_le (s.data.toList.drop n)
  rw [List.length_drop, Array.length_toList] at ole
  have ole2 : (runL (s.data.toList.drop n)).length ≤ s.size - n := ole
  clear ole
  have SO := fun ww => refStarts_any s (n : Int) ww (by omega) (by omega) (by omega)
  rw [Int.toNat_natCast] at SO
  have SI := refSigns s n hn
  have g35 : ((s[n].toNat : Int) == 35) = false := by simpa using h35
  have g64 : ((s[n].toNat : Int) == 64) = false := by simpa using h64
  rw [st] at SO
  generalize signsK (bn s[n]) = k at *
  have TV : tokV ⟨k, [], 0⟩ = .agg #[.int .i64 k, .string ⟨#[]⟩, .int .i64 0] := rfl
  have RU2 := Lib.hid RU
  have ST2 := Lib.hid ST
  clear RU ST hm
  have TV2 := Lib.hid TV
  have RO2 := Lib.hid RO
  have SO2 := Lib.hid SO
  have SI2 := Lib.hid SI
  clear h2 h3 h4 h35 h64  TV RO SO SI RU2 ST2 RO2 SO2 A2
  go_enter Tryz.func83, Tryz.ntmps83
  go_wp2_with (first | (go_at_call 99; (refine (refHas_any s _ _ _ (by omega) (by decide) (by omega) (by omega)).mono ?_; rintro e w' ⟨rfl, rfl⟩)) | (go_at_call 101; refine (B2.out _).mono ?_; rintro e w' ⟨rfl, rfl⟩) | (go_at_call 104; refine (NU2.out _).mono ?_; rintro e w' ⟨rfl, rfl⟩) | (go_at_call 68; refine (refRun_any s _ _ (by omega) (by omega) (by omega)).mono ?_; rintro e w' ⟨rfl, rfl⟩) | (go_at_call 67; refine (refStarts_any s _ _ (by omega) (by omega) (by omega)).mono ?_; rintro e w' ⟨rfl, rfl⟩) | (go_at_call 106; refine (SI2.out _).mono ?_; rintro e w' ⟨rfl, rfl⟩))
  exact ret_tok rfl rfl (Blk3.new w 32 _ _ _) rfl ⟨tup_eq TV2.out (by have := HM.out; omega), below_one w _⟩
set_option maxHeartbeats 1000000 in
theorem one_delim (s : ByteArray) (n : Nat) (w : World) (hs : s.size ≤ 4611686018427387903) (hn : n < s.size) (h1 : hasL (s.data.toList.drop n) [47, 42] = false) (h2 : blankB (bn s[n]) = false) (h3 : ¬ (bn s[n] = 34 ∨ bn s[n] = 39)) (h4 : ¬ 0 < numberL (s.data.toList.drop n)) (h35 : ¬ bn s[n] = 35) (h64 : ¬ bn s[n] = 64) (st : startsL (s.data.toList.drop n) = false) (hk : signsK (bn s[n]) = 0) :
    Calls Tryz.prog 83 #[.string s, .int .i64 n] w (OneRes w (oneL (s.data.toList.drop n)) n) := by
  rw [one_eq s n hn, if_neg (by rw [h1]; simp), if_neg (by rw [h2]; simp), if_neg h3, if_neg h4, if_neg (by rintro ⟨h, _⟩; exact h35 h), if_neg (by rintro ⟨h, _⟩; exact h64 h), if_neg (by rw [st]; simp), if_neg (by omega)]
  have A := fun ww => has1 s n ww hs (by omega)
  rw [h1] at A
  have A2 := Lib.hid A
  clear A
  have B := refBlank_any (bn s[n])
  rw [h2] at B
  have B2 := Lib.hid B
  clear B
  have g34 : ((s[n].toNat : Int) == 34) = false := by have : ¬ bn s[n] = 34 := fun e => h3 (Or.inl e); simpa using this
  have g39 : ((s[n].toNat : Int) == 39) = false := by have : ¬ bn s[n] = 39 := fun e => h3 (Or.inr e); simpa using this
  have NU := fun ww => refNumber_any s n ww hs (by omega) (by omega)
  rw [Int.toNat_natCast] at NU
  rw [show numberL (s.data.toList.drop n) = 0 by omega, show (((0 : Nat)) : Int) = 0 from rfl] at NU
  have NU2 := Lib.hid NU
  clear NU
  obtain ⟨m, hm⟩ : ∃ m, m = n + 1 := ⟨_, rfl⟩
  have hm2 : (n : Int) + 1 = (m : Int) := by omega
  have hm3 : m ≤ s.size := by omega
  have hm4 : n ≤ m := by omega
  have RU := fun ww => refRun_any s (m : Int) ww (by omega) (by omega) (by omega)
  rw [Int.toNat_natCast] at RU
  have rle := runL_le (s.data.toList.drop m)
  rw [List.length_drop, Array.length_toList] at rle
  have rle2 : (runL (s.data.toList.drop m)).length ≤ s.size - m := rle
  clear rle
  have ST := fun ww => refStarts_any s (m : Int) ww (by omega) (by omega) (by omega)
  rw [Int.toNat_natCast] at ST
  have HM := Lib.hid hm
  obtain ⟨q, hq⟩ : ∃ q, (runL (s.data.toList.drop m)).length = q := ⟨_, rfl⟩
  rw [hq] at RU rle2
  have RO := fun ww => refRun_any s (n : Int) ww (by omega) (by omega) (by omega)
  rw [Int.toNat_natCast] at RO
  have ole := runL_le (s.data.toList.drop n)
  rw [List.length_drop, Array.length_toList] at ole
  have ole2 : (runL (s.data.toList.drop n)).length ≤ s.size - n := ole
  clear ole
  have SO := fun ww => refStarts_any s (n : Int) ww (by omega) (by omega) (by omega)
  rw [Int.toNat_natCast] at SO
  have SI := refSigns s n hn
  have g35 : ((s[n].toNat : Int) == 35) = false := by simpa using h35
  have g64 : ((s[n].toNat : Int) == 64) = false := by simpa using h64
  rw [st] at SO
  rw [hk] at SI
  have X : bs [s[n]] = s.extract n m := by
    rw [← bs_of (s.extract n m), Lib.extract_data, show m - n = 1 by omega, drop_at s n hn]; rfl
  have TV : tokV ⟨19, [s[n]], 0⟩ = .agg #[.int .i64 19, .string (s.extract n m), .int .i64 0] := by rw [tokV, X]
  clear X
  have RU2 := Lib.hid RU
  have ST2 := Lib.hid ST
  clear RU ST hm
  have TV2 := Lib.hid TV
  have RO2 := Lib.hid RO
  have SO2 := Lib.hid SO
  have SI2 := Lib.hid SI
  clear h2 h3 h4 h35 h64 hk TV RO SO SI RU2 ST2 RO2 SO2 A2
  go_enter Tryz.func83, Tryz.ntmps83
  go_wp2_with (first | (go_at_call 99; (refine (refHas_any s _ _ _ (by omega) (by decide) (by omega) (by omega)).mono ?_; rintro e w' ⟨rfl, rfl⟩)) | (go_at_call 101; refine (B2.out _).mono ?_; rintro e w' ⟨rfl, rfl⟩) | (go_at_call 104; refine (NU2.out _).mono ?_; rintro e w' ⟨rfl, rfl⟩) | (go_at_call 68; refine (refRun_any s _ _ (by omega) (by omega) (by omega)).mono ?_; rintro e w' ⟨rfl, rfl⟩) | (go_at_call 67; refine (refStarts_any s _ _ (by omega) (by omega) (by omega)).mono ?_; rintro e w' ⟨rfl, rfl⟩) | (go_at_call 106; refine (SI2.out _).mono ?_; rintro e w' ⟨rfl, rfl⟩))
  exact ret_tok rfl rfl (Blk3.new w 32 _ _ _) rfl ⟨tup_eq TV2.out (by have := HM.out; omega), below_one w _⟩
set_option maxHeartbeats 1000000 in
theorem one_delim35 (s : ByteArray) (n : Nat) (w : World) (hs : s.size ≤ 4611686018427387903) (hn : n < s.size) (h1 : hasL (s.data.toList.drop n) [47, 42] = false) (h2 : blankB (bn s[n]) = false) (h3 : ¬ (bn s[n] = 34 ∨ bn s[n] = 39)) (h4 : ¬ 0 < numberL (s.data.toList.drop n)) (h35 : bn s[n] = 35) (h6 : (runL (s.data.toList.drop (n + 1))).length = 0) (st : startsL (s.data.toList.drop n) = false) (hk : signsK (bn s[n]) = 0) :
    Calls Tryz.prog 83 #[.string s, .int .i64 n] w (OneRes w (oneL (s.data.toList.drop n)) n) := by
  rw [one_eq s n hn, if_neg (by rw [h1]; simp), if_neg (by rw [h2]; simp), if_neg h3, if_neg h4, if_neg (by rintro ⟨_, h⟩; omega), if_neg (by omega), if_neg (by rw [st]; simp), if_neg (by omega)]
  have A := fun ww => has1 s n ww hs (by omega)
  rw [h1] at A
  have A2 := Lib.hid A
  clear A
  have B := refBlank_any (bn s[n])
  rw [h2] at B
  have B2 := Lib.hid B
  clear B
  have g34 : ((s[n].toNat : Int) == 34) = false := by have : ¬ bn s[n] = 34 := fun e => h3 (Or.inl e); simpa using this
  have g39 : ((s[n].toNat : Int) == 39) = false := by have : ¬ bn s[n] = 39 := fun e => h3 (Or.inr e); simpa using this
  have NU := fun ww => refNumber_any s n ww hs (by omega) (by omega)
  rw [Int.toNat_natCast] at NU
  rw [show numberL (s.data.toList.drop n) = 0 by omega, show (((0 : Nat)) : Int) = 0 from rfl] at NU
  have NU2 := Lib.hid NU
  clear NU
  obtain ⟨m, hm⟩ : ∃ m, m = n + 1 := ⟨_, rfl⟩
  have hm2 : (n : Int) + 1 = (m : Int) := by omega
  have hm3 : m ≤ s.size := by omega
  have hm4 : n ≤ m := by omega
  have RU := fun ww => refRun_any s (m : Int) ww (by omega) (by omega) (by omega)
  rw [Int.toNat_natCast] at RU
  have rle := runL_le (s.data.toList.drop m)
  rw [List.length_drop, Array.length_toList] at rle
  have rle2 : (runL (s.data.toList.drop m)).length ≤ s.size - m := rle
  clear rle
  have ST := fun ww => refStarts_any s (m : Int) ww (by omega) (by omega) (by omega)
  rw [Int.toNat_natCast] at ST
  have HM := Lib.hid hm
  obtain ⟨q, hq⟩ : ∃ q, (runL (s.data.toList.drop m)).length = q := ⟨_, rfl⟩
  rw [hq] at RU rle2
  have RO := fun ww => refRun_any s (n : Int) ww (by omega) (by omega) (by omega)
  rw [Int.toNat_natCast] at RO
  have ole := runL_le (s.data.toList.drop n)
  rw [List.length_drop, Array.length_toList] at ole
  have ole2 : (runL (s.data.toList.drop n)).length ≤ s.size - n := ole
  clear ole
  have SO := fun ww => refStarts_any s (n : Int) ww (by omega) (by omega) (by omega)
  rw [Int.toNat_natCast] at SO
  have SI := refSigns s n hn
  have h64 : ¬ bn s[n] = 64 := by omega
  have g35 : ((s[n].toNat : Int) == 35) = true := by simpa using h35
  have g64 : ((s[n].toNat : Int) == 64) = false := by simpa using h64
  rw [← hm] at h6
  have hq00 : q = 0 := by rw [← hq]; exact h6
  subst hq00
  rw [show (((0 : Nat)) : Int) = 0 from rfl] at RU
  rw [st] at SO
  rw [hk] at SI
  have X : bs [s[n]] = s.extract n m := by
    rw [← bs_of (s.extract n m), Lib.extract_data, show m - n = 1 by omega, drop_at s n hn]; rfl
  have TV : tokV ⟨19, [s[n]], 0⟩ = .agg #[.int .i64 19, .string (s.extract n m), .int .i64 0] := by rw [tokV, X]
  clear X
  have RU2 := Lib.hid RU
  have ST2 := Lib.hid ST
  clear RU ST hm
  have TV2 := Lib.hid TV
  have RO2 := Lib.hid RO
  have SO2 := Lib.hid SO
  have SI2 := Lib.hid SI
  clear h2 h3 h4 h35 h64 h6 hk TV RO SO SI RU2 ST2 RO2 SO2 A2
  go_enter Tryz.func83, Tryz.ntmps83
  go_wp2_with (first | (go_at_call 99; (refine (refHas_any s _ _ _ (by omega) (by decide) (by omega) (by omega)).mono ?_; rintro e w' ⟨rfl, rfl⟩)) | (go_at_call 101; refine (B2.out _).mono ?_; rintro e w' ⟨rfl, rfl⟩) | (go_at_call 104; refine (NU2.out _).mono ?_; rintro e w' ⟨rfl, rfl⟩) | (go_at_call 68; refine (refRun_any s _ _ (by omega) (by omega) (by omega)).mono ?_; rintro e w' ⟨rfl, rfl⟩) | (go_at_call 67; refine (refStarts_any s _ _ (by omega) (by omega) (by omega)).mono ?_; rintro e w' ⟨rfl, rfl⟩) | (go_at_call 106; refine (SI2.out _).mono ?_; rintro e w' ⟨rfl, rfl⟩))
  exact ret_tok rfl rfl (Blk3.new w 32 _ _ _) rfl ⟨tup_eq TV2.out (by have := HM.out; omega), below_one w _⟩
set_option maxHeartbeats 1000000 in
theorem one_delim64 (s : ByteArray) (n : Nat) (w : World) (hs : s.size ≤ 4611686018427387903) (hn : n < s.size) (h1 : hasL (s.data.toList.drop n) [47, 42] = false) (h2 : blankB (bn s[n]) = false) (h3 : ¬ (bn s[n] = 34 ∨ bn s[n] = 39)) (h4 : ¬ 0 < numberL (s.data.toList.drop n)) (h64 : bn s[n] = 64) (h6 : startsL (s.data.toList.drop (n + 1)) = false) (st : startsL (s.data.toList.drop n) = false) (hk : signsK (bn s[n]) = 0) :
    Calls Tryz.prog 83 #[.string s, .int .i64 n] w (OneRes w (oneL (s.data.toList.drop n)) n) := by
  rw [one_eq s n hn, if_neg (by rw [h1]; simp), if_neg (by rw [h2]; simp), if_neg h3, if_neg h4, if_neg (by omega), if_neg (by rintro ⟨_, h⟩; rw [h6] at h; cases h), if_neg (by rw [st]; simp), if_neg (by omega)]
  have A := fun ww => has1 s n ww hs (by omega)
  rw [h1] at A
  have A2 := Lib.hid A
  clear A
  have B := refBlank_any (bn s[n])
  rw [h2] at B
  have B2 := Lib.hid B
  clear B
  have g34 : ((s[n].toNat : Int) == 34) = false := by have : ¬ bn s[n] = 34 := fun e => h3 (Or.inl e); simpa using this
  have g39 : ((s[n].toNat : Int) == 39) = false := by have : ¬ bn s[n] = 39 := fun e => h3 (Or.inr e); simpa using this
  have NU := fun ww => refNumber_any s n ww hs (by omega) (by omega)
  rw [Int.toNat_natCast] at NU
  rw [show numberL (s.data.toList.drop n) = 0 by omega, show (((0 : Nat)) : Int) = 0 from rfl] at NU
  have NU2 := Lib.hid NU
  clear NU
  obtain ⟨m, hm⟩ : ∃ m, m = n + 1 := ⟨_, rfl⟩
  have hm2 : (n : Int) + 1 = (m : Int) := by omega
  have hm3 : m ≤ s.size := by omega
  have hm4 : n ≤ m := by omega
  have RU := fun ww => refRun_any s (m : Int) ww (by omega) (by omega) (by omega)
  rw [Int.toNat_natCast] at RU
  have rle := runL_le (s.data.toList.drop m)
  rw [List.length_drop, Array.length_toList] at rle
  have rle2 : (runL (s.data.toList.drop m)).length ≤ s.size - m := rle
  clear rle
  have ST := fun ww => refStarts_any s (m : Int) ww (by omega) (by omega) (by omega)
  rw [Int.toNat_natCast] at ST
  have HM := Lib.hid hm
  obtain ⟨q, hq⟩ : ∃ q, (runL (s.data.toList.drop m)).length = q := ⟨_, rfl⟩
  rw [hq] at RU rle2
  have RO := fun ww => refRun_any s (n : Int) ww (by omega) (by omega) (by omega)
  rw [Int.toNat_natCast] at RO
  have ole := runL_le (s.data.toList.drop n)
  rw [List.length_drop, Array.length_toList] at ole
  have ole2 : (runL (s.data.toList.drop n)).length ≤ s.size - n := ole
  clear ole
  have SO := fun ww => refStarts_any s (n : Int) ww (by omega) (by omega) (by omega)
  rw [Int.toNat_natCast] at SO
  have SI := refSigns s n hn
  have h35 : ¬ bn s[n] = 35 := by omega
  have g35 : ((s[n].toNat : Int) == 35) = false := by simpa using h35
  have g64 : ((s[n].toNat : Int) == 64) = true := by simpa using h64
  rw [← hm] at h6
  rw [h6] at ST
  rw [st] at SO
  rw [hk] at SI
  have X : bs [s[n]] = s.extract n m := by
    rw [← bs_of (s.extract n m), Lib.extract_data, show m - n = 1 by omega, drop_at s n hn]; rfl
  have TV : tokV ⟨19, [s[n]], 0⟩ = .agg #[.int .i64 19, .string (s.extract n m), .int .i64 0] := by rw [tokV, X]
  clear X
  have RU2 := Lib.hid RU
  have ST2 := Lib.hid ST
  clear RU ST hm
  have TV2 := Lib.hid TV
  have RO2 := Lib.hid RO
  have SO2 := Lib.hid SO
  have SI2 := Lib.hid SI
  clear h2 h3 h4 h35 h64 hk TV RO SO SI RU2 ST2 RO2 SO2 A2
  go_enter Tryz.func83, Tryz.ntmps83
  go_wp2_with (first | (go_at_call 99; (refine (refHas_any s _ _ _ (by omega) (by decide) (by omega) (by omega)).mono ?_; rintro e w' ⟨rfl, rfl⟩)) | (go_at_call 101; refine (B2.out _).mono ?_; rintro e w' ⟨rfl, rfl⟩) | (go_at_call 104; refine (NU2.out _).mono ?_; rintro e w' ⟨rfl, rfl⟩) | (go_at_call 68; refine (refRun_any s _ _ (by omega) (by omega) (by omega)).mono ?_; rintro e w' ⟨rfl, rfl⟩) | (go_at_call 67; refine (refStarts_any s _ _ (by omega) (by omega) (by omega)).mono ?_; rintro e w' ⟨rfl, rfl⟩) | (go_at_call 106; refine (SI2.out _).mono ?_; rintro e w' ⟨rfl, rfl⟩))
  exact ret_tok rfl rfl (Blk3.new w 32 _ _ _) rfl ⟨tup_eq TV2.out (by have := HM.out; omega), below_one w _⟩
end Go.Proofs.YtikhghmnclpigaaGreatDoor
namespace Go.Proofs.YtikhghmnclpigaaGreatDoor
open Go.RowKit Wsc
theorem signW_le (l : List UInt8) : signW l ≤ 1 ∧ signW l ≤ l.length := by
  cases l with
  | nil => simp [signW]
  | cons c r => simp only [signW, List.length_cons]; split <;> omega
theorem atB_lt {l : List UInt8} {i : Nat} {k : Int} (h : atB l i k = true) : i < l.length := by
  unfold atB at h
  cases e : l[i]? with
  | none => rw [e] at h; cases h
  | some c => exact (List.getElem?_eq_some_iff.1 e).1
theorem numberL_le (l : List UInt8) : numberL l ≤ l.length := by
  unfold numberL
  have h1 := signW_le l
  have h2 := digitsL_le (l.drop (signW l))
  have h3 := digitsL_le (l.drop (signW l + digitsL (l.drop (signW l)) + 1))
  rw [List.length_drop] at h2 h3
  split
  · rename_i h; have := atB_lt h.1; omega
  · split <;> omega
theorem signFrom_nonneg (c : Int) : ∀ (l : List UInt8) (i : Int), 0 ≤ i → 0 ≤ signFrom c l i
  | [], i, h => Int.le_refl _
  | x :: r, i, h => by unfold signFrom; split; exact h; exact signFrom_nonneg c r (i + 1) (by omega)
theorem signsK_nonneg (c : Int) : 0 ≤ signsK c := signFrom_nonneg c _ 10 (by decide)
theorem starts35 (s : ByteArray) (n : Nat) (h : n < s.size) (e : bn s[n] = 35 ∨ bn s[n] = 64) : startsL (s.data.toList.drop n) = false := by
  rw [startsL_other s n h (by omega)]
  rcases e with e | e <;> rw [e] <;> decide
theorem oneTok_any (s : ByteArray) (n : Nat) (w : World) (hs : s.size ≤ 4611686018427387903) (hn : n < s.size) :
    Calls Tryz.prog 83 #[.string s, .int .i64 n] w (OneRes w (oneL (s.data.toList.drop n)) n) := by
  cases h1 : hasL (s.data.toList.drop n) [47, 42]
  case true => exact one_cmt s n w hs hn h1
  cases h2 : blankB (bn s[n])
  case true => exact one_blank s n w hs hn h1 h2
  by_cases ha : bn s[n] = 34
  · exact one_dq s n w hs hn h1 h2 ha
  by_cases hb : bn s[n] = 39
  · exact one_sq s n w hs hn h1 h2 hb
  have h3 : ¬ (bn s[n] = 34 ∨ bn s[n] = 39) := by omega
  by_cases h4 : 0 < numberL (s.data.toList.drop n)
  · refine one_num s n w hs hn h1 h2 h3 h4 ?_
    have := numberL_le (s.data.toList.drop n)
    rw [List.length_drop, Array.length_toList] at this
    have : numberL (s.data.toList.drop n) ≤ s.size - n := this
    omega
  have hsg := signsK_nonneg (bn s[n])
  by_cases h35 : bn s[n] = 35
  · by_cases hq : 0 < (runL (s.data.toList.drop (n + 1))).length
    · exact one_hash s n w hs hn h1 h2 h3 h4 h35 hq
    · exact one_delim35 s n w hs hn h1 h2 h3 h4 h35 (by omega) (starts35 s n hn (Or.inl h35)) (by rw [h35]; decide)
  by_cases h64 : bn s[n] = 64
  · cases hq : startsL (s.data.toList.drop (n + 1))
    case true => exact one_at s n w hs hn h1 h2 h3 h4 h64 hq
    exact one_delim64 s n w hs hn h1 h2 h3 h4 h64 hq (starts35 s n hn (Or.inr h64)) (by rw [h64]; decide)
  cases st : startsL (s.data.toList.drop n)
  case true =>
    cases hp : hasL (s.data.toList.drop (n + (runL (s.data.toList.drop n)).length)) [40]
    case true => exact one_func s n w hs hn h1 h2 h3 h4 h35 h64 st hp
    exact one_ident s n w hs hn h1 h2 h3 h4 h35 h64 st hp
  by_cases hk : 0 < signsK (bn s[n])
  · exact one_sign s n w hs hn h1 h2 h3 h4 h35 h64 st hk
  · exact one_delim s n w hs hn h1 h2 h3 h4 h35 h64 st (by omega)
end Go.Proofs.YtikhghmnclpigaaGreatDoor
namespace Go.Proofs.YtikhghmnclpigaaGreatDoor
open Go.RowKit Wsc
theorem infoT : (Tryz.prog.info? 32).map (fun i => (i.zero, i.size, i.bytes)) = some (some (.agg #[.int .i64 0, .string ⟨#[]⟩, .int .i64 0]), 3, 32) := by kernel_rfl
theorem toks_snoc (d : List Tok) (t : Tok) : toks (d ++ [t]) = toks d ++ tokc t := by simp [toks]
theorem cut_step (f : Nat) (l : List UInt8) (h : 0 < l.length) : cutF (f + 1) l = (if 0 < (oneL l).1.kind then [(oneL l).1] else []) ++ cutF f (l.drop (oneL l).2) := by
  cases l with
  | nil => simp at h
  | cons c r => rfl
theorem cut_nil (f : Nat) : cutF f [] = [] := by cases f <;> rfl
theorem quotedL_le (q : Int) (l : List UInt8) : (quotedL q l).2 ≤ l.length := by
  have h := runOf_le (fun n => decide (n ≠ q ∧ n ≠ 10)) l
  unfold quotedL
  simp only
  split
  · exact h
  · split
    · exact h
    · simp only; omega
theorem measureL_le (l : List UInt8) (n : Nat) (h : n ≤ l.length) : n ≤ (measureL l n).2 ∧ (measureL l n).2 ≤ l.length := by
  unfold measureL
  split
  · rename_i h1; have := atB_lt h1; simp only; omega
  · split
    · have := runL_le (l.drop n); rw [List.length_drop] at this; simp only; omega
    · simp only; omega
theorem starts_run (l : List UInt8) (h : startsL l = true) : 0 < (runL l).length := by
  cases l with
  | nil => cases h
  | cons c r =>
    have hg : goesB (bn c) = true := by
      simp only [startsL] at h
      by_cases e : bn c = 45
      · rw [e]; decide
      · rw [if_neg e] at h; exact goes_of _ h
    simp [runL, hg]
theorem oneL_bd (l : List UInt8) (h : 0 < l.length) : 0 < (oneL l).2 ∧ (oneL l).2 ≤ l.length := by
  cases l with
  | nil => simp at h
  | cons c r =>
    unfold oneL
    split
    · rename_i e; cases e
    rename_i heq
    cases heq
    split
    · rename_i h1
      rw [hasL_take] at h1; simp at h1
      have := behindL_le [42, 47] ((c :: r).drop 2)
      rw [List.length_drop] at this
      simp at this ⊢; omega
    · split
      · rename_i h2
        have := runOf_le blankB (c :: r)
        refine ⟨?_, this⟩
        simp [runOf, h2]
      · split
        · have := quotedL_le (bn c) r; simp; omega
        · split
          · have h5 := measureL_le (c :: r) (numberL (c :: r)) (numberL_le _); omega
          · have hr := runL_le r
            split
            · simp; omega
            · split
              · simp; omega
              · split
                · rename_i h8
                  have h9 := starts_run _ h8
                  have h10 := runL_le (c :: r)
                  split
                  · rename_i h11
                    rw [hasL_take] at h11; simp at h11
                    simp at h10 ⊢; omega
                  · exact ⟨h9, h10⟩
                · split <;> simp
theorem cut_own (s : ByteArray) (w : World) (hs : s.size ≤ 68719476735) :
    Calls Tryz.prog 66 #[.string s] w fun e w' => (∃ v, e = .returned v ∧ w'.ownsRow w.heap.size 32 3 v (cutL s.data.toList).length (toks (cutL s.data.toList))) ∧ Below w.heap.size w w' := by
  have ONE := Lib.hid (fun n ww h => oneTok_any s n ww (by omega) h)
  generalize hC : cutL s.data.toList = C
  have HC := Lib.hid hC
  clear hC
  go_enter Tryz.func66, Tryz.ntmps66
  go_wp2
  go_loopw [3, 4] (fun v a wr => ∃ (k f : Nat) (d : List Tok), a = .int .i64 k ∧ k ≤ s.size ∧ s.size - k ≤ f ∧ d.length ≤ k ∧ wr.ownsRow w.heap.size 32 3 v d.length (toks d) ∧ Hid (d ++ cutF f (s.data.toList.drop k) = C) ∧ Below w.heap.size w wr) (fun _ a _ => s.size - (intOf a).toNat)
  case atStart => exact ⟨0, s.size, [], rfl, by omega, by omega, by simp, World.ownsRow_nil _ _ _ _, Lib.hid (by rw [← HC.out]; rfl), Below.refl _ _⟩
  case round =>
    obtain ⟨k, f, d, rfl, hk, hf, hd, hown, H, hbl⟩ := hrel
    by_cases hks : k < s.size
    · have hl : 0 < (s.data.toList.drop k).length := by rw [List.length_drop, Array.length_toList]; show 0 < s.size - k; omega
      have B := oneL_bd _ hl
      rw [List.length_drop, Array.length_toList] at B
      have B : 0 < (oneL (s.data.toList.drop k)).2 ∧ (oneL (s.data.toList.drop k)).2 ≤ s.size - k := B
      obtain ⟨f, rfl⟩ : ∃ g, f = g + 1 := ⟨f - 1, by omega⟩
      have CS := cut_step f _ hl
      have O := fun ww => ONE.out k ww hks
      rw [List.drop_drop] at CS
      generalize oneL (s.data.toList.drop k) = R at *
      obtain ⟨t, c⟩ := R
      simp only at B CS O
      unfold OneRes tokV at O
      have O2 := Lib.hid O
      have H2 := Lib.hid (H.out)
      have CS2 := Lib.hid CS
      clear O CS hl
      by_cases ht : 0 < t.kind
      · have gt : decide ((0 : Int) < t.kind) = true := decide_eq_true ht
        go_wp2_with fail
        refine (O2.out _).mono ?_
        rintro e w2 ⟨rfl, hb2⟩
        have hw2 : w.heap.size ≤ w2.heap.size := by have := hb2.size; have := hbl.size; omega
        have hA := Lib.hid ((hbl.trans (hb2.mono hbl.size)).alloc hw2 (.cells #[.int .i64 t.kind, .string (bs t.text), .int .i64 t.n] 32))
        have hown2 := (ownsRow_below hown hb2).alloc (.cells #[.int .i64 t.kind, .string (bs t.text), .int .i64 t.n] 32)
        have hown3 := Lib.hid hown2
        clear hown2
        go_wp2_with (first
          | (at_builtin; refine wpList_append_at rfl _ _ 28 rfl w.heap.size 32 _ 3 32 Tryz.underlying28 infoT rfl (by decide) (by decide) _ _ _ rfl hown3.out [.int .i64 t.kind, .string (bs t.text), .int .i64 t.n] (w2.heap.size + 1) (by simp) rfl rfl (fun u hu => by simp at hu; rcases hu with rfl | rfl | rfl <;> rfl) (by omega) (by simp; omega) ?_; intro v' w3 hown' hb'))
        have AS : d ++ cutF (f + 1) (s.data.toList.drop k) = C := H2.out
        rw [CS2.out, if_pos ht, ← List.append_assoc] at AS
        have AS2 := Lib.hid AS
        clear AS
        go_roundw
        case rel => exact ⟨k + c, f, d ++ [t], by go_num, by omega, by omega, by rw [List.length_append, List.length_singleton]; omega, by rw [List.length_append, toks_snoc]; exact hown', AS2, hA.out.trans hb'⟩
        case measure => simp [intOf]; omega
      · have gt : decide ((0 : Int) < t.kind) = false := decide_eq_false ht
        go_wp2_with fail
        refine (O2.out _).mono ?_
        rintro e w2 ⟨rfl, hb2⟩
        go_wp2
        go_roundw
        case rel =>
          refine ⟨k + c, f, d, by go_num, by omega, by omega, by omega, ?_, Lib.hid ?_, ?_⟩
          · exact (ownsRow_below hown hb2).alloc _
          · rw [← H2.out, CS2.out, if_neg (by omega)]; rfl
          · exact (hbl.trans (hb2.mono hbl.size)).alloc (by have := hb2.size; have := hbl.size; omega) _
        case measure => simp [intOf]; omega
    · have e : s.data.toList.drop k = [] := drop_end s k hks
      have E := Lib.hid e
      clear e
      have HH := Lib.hid (show d = C by rw [← H.out, E.out, cut_nil, List.append_nil])
      go_wp2
      go_ret
      refine ⟨⟨_, rfl, ?_⟩, hbl⟩
      rw [← HH.out]
      exact hown
theorem cut_any (s : ByteArray) (w : World) (hs : s.size ≤ 68719476735) :
    Calls Tryz.prog 66 #[.string s] w fun e w' => (∃ v, e = .returned v ∧ SlAt w' v (cutL s.data.toList).length (toks (cutL s.data.toList))) ∧ Below w.heap.size w w' :=
  (cut_own s w hs).mono fun _ _ ⟨⟨v, h1, h2⟩, h3⟩ => ⟨⟨v, h1, SlAt.owns h2⟩, h3⟩
end Go.Proofs.YtikhghmnclpigaaGreatDoor
