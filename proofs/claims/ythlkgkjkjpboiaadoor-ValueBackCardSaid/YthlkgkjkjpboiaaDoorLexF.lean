/-
  The walk of ref05.One.
-/
import Derived.Test.YthlkgkjkjpboiaaDoorLexE
namespace Go.Proofs.YthlkgkjkjpboiaaDoor
open Go.RowKit Wsc
theorem one_eq (s : ByteArray) (n : Nat) (h : n < s.size) : oneL (s.data.toList.drop n) =
    if hasL (s.data.toList.drop n) [47, 42] = true then (⟨0, [], 0⟩, 2 + behindL [42, 47] (s.data.toList.drop (n + 2)))
    else if blankB (bn s[n]) = true then (⟨20, [], 0⟩, (runOf blankB (s.data.toList.drop n)).length)
    else if bn s[n] = 34 ∨ bn s[n] = 39 then ((quotedL (bn s[n]) (s.data.toList.drop (n + 1))).1, (quotedL (bn s[n]) (s.data.toList.drop (n + 1))).2 + 1)
    else if 0 < numberL (s.data.toList.drop n) then measureL (s.data.toList.drop n) (numberL (s.data.toList.drop n))
    else if bn s[n] = 35 ∧ 0 < (runL (s.data.toList.drop (n + 1))).length then (⟨4, runL (s.data.toList.drop (n + 1)), 0⟩, 1 + (runL (s.data.toList.drop (n + 1))).length)
    else if bn s[n] = 64 ∧ startsL (s.data.toList.drop (n + 1)) = true then (⟨3, runL (s.data.toList.drop (n + 1)), 0⟩, 1 + (runL (s.data.toList.drop (n + 1))).length)
    else if startsL (s.data.toList.drop n) = true then
      (if hasL (s.data.toList.drop (n + (runL (s.data.toList.drop n)).length)) [40] = true then (⟨2, runL (s.data.toList.drop n), 0⟩, (runL (s.data.toList.drop n)).length + 1) else (⟨1, runL (s.data.toList.drop n), 0⟩, (runL (s.data.toList.drop n)).length))
    else if 0 < signsK (bn s[n]) then (⟨signsK (bn s[n]), [], 0⟩, 1)
    else (⟨19, [s[n]], 0⟩, 1) := by
  have e := drop_at s n h
  have e2 : (s.data.toList.drop n).drop 2 = s.data.toList.drop (n + 2) := by rw [List.drop_drop]
  have e3 : (s.data.toList.drop n).drop (runL (s.data.toList.drop n)).length = s.data.toList.drop (n + (runL (s.data.toList.drop n)).length) := by rw [List.drop_drop]
  rw [← e2, ← e3]
  generalize s.data.toList.drop n = l at *
  subst e
  rfl
/-- what One gives back. -/
def OneRes (w : World) (x : Tok × Nat) (n : Nat) (e : Ending) (w' : World) : Prop := e = .returned (.tuple #[tokV x.1, .int .i64 ((n + x.2 : Nat) : Nat)]) ∧ Below w.heap.size w w'
theorem has1 (s : ByteArray) (n : Nat) (w : World) (hs : s.size ≤ 4611686018427387903) (hn : n ≤ s.size) :
    Calls Tryd.prog 54 #[.string s, .int .i64 n, .string ⟨#[47, 42]⟩] w fun e w' => e = .returned (.bool (hasL (s.data.toList.drop n) [47, 42])) ∧ w = w' := by
  have := refHas_any s ⟨#[47, 42]⟩ n w (by omega) (by decide) (by omega) (by omega)
  rwa [Int.toNat_natCast] at this
theorem has2 (s : ByteArray) (n : Nat) (w : World) (hs : s.size ≤ 4611686018427387903) (hn : n ≤ s.size) :
    Calls Tryd.prog 54 #[.string s, .int .i64 n, .string ⟨#[40]⟩] w fun e w' => e = .returned (.bool (hasL (s.data.toList.drop n) [40])) ∧ w = w' := by
  have := refHas_any s ⟨#[40]⟩ n w (by omega) (by decide) (by omega) (by omega)
  rwa [Int.toNat_natCast] at this
theorem beh1 (s : ByteArray) (n : Nat) (w : World) (hs : s.size ≤ 4611686018427387903) (hn : n ≤ s.size) :
    Calls Tryd.prog 55 #[.string s, .int .i64 n, .string ⟨#[42, 47]⟩] w fun e w' => e = .returned (.int .i64 ((n + behindL [42, 47] (s.data.toList.drop n) : Nat) : Nat)) ∧ w = w' := by
  have := refBehind_any s ⟨#[42, 47]⟩ n w (by omega) (by decide) (by omega) (by omega)
  rwa [Int.toNat_natCast] at this
theorem refSigns (s : ByteArray) (n : Nat) (hn : n < s.size) (ww : World) :
    Calls Tryd.prog 61 #[.int .u8 (bn s[n])] ww fun e w' => e = .returned (.int .i64 (signsK (bn s[n]))) ∧ ww = w' := lexSign_any _ _
theorem tup_eq {t : Tok} {v0 v1 v2 : Value} {i j : Int} (h : tokV t = .agg #[v0, v1, v2]) (hij : i = j) : Ending.returned (.tuple #[.agg #[v0, v1, v2], .int .i64 i]) = .returned (.tuple #[tokV t, .int .i64 j]) := by rw [h, hij]
theorem below_one (w : World) (o : Obj) : Below w.heap.size w (w.alloc o) := (Below.refl _ _).alloc (Nat.le_refl _) _
theorem one_cmt (s : ByteArray) (n : Nat) (w : World) (hs : s.size ≤ 4611686018427387903) (hn : n < s.size) (h1 : hasL (s.data.toList.drop n) [47, 42] = true) :
    Calls Tryd.prog 41 #[.string s, .int .i64 n] w (OneRes w (oneL (s.data.toList.drop n)) n) := by
  rw [one_eq s n hn, if_pos h1]
  have hl : n + 2 ≤ s.size := by rw [hasL_take] at h1; simp at h1; omega
  obtain ⟨m, hm⟩ : ∃ m, m = n + 2 := ⟨_, rfl⟩
  rw [← hm]
  have hm2 : (n : Int) + 2 = (m : Int) := by omega
  have A := fun ww => has1 s n ww hs (by omega)
  rw [h1] at A
  have B := fun ww => beh1 s m ww hs (by omega)
  have HM := Lib.hid hm
  clear hm h1
  generalize behindL [42, 47] (s.data.toList.drop m) = b at *
  have A2 := Lib.hid A
  have B2 := Lib.hid B
  clear A B
  go_enter Tryd.func41, Tryd.ntmps41
  go_wp2_with (first | (go_at_call 54; refine (A2.out _).mono ?_; rintro e w' ⟨rfl, rfl⟩) | (go_at_call 55; refine (B2.out _).mono ?_; rintro e w' ⟨rfl, rfl⟩))
  exact ret_tok rfl rfl (Blk3.new w 44 _ _ _) rfl ⟨tup_eq rfl (by have := HM.out; omega), below_one w _⟩
theorem one_blank (s : ByteArray) (n : Nat) (w : World) (hs : s.size ≤ 4611686018427387903) (hn : n < s.size) (h1 : hasL (s.data.toList.drop n) [47, 42] = false) (h2 : blankB (bn s[n]) = true) :
    Calls Tryd.prog 41 #[.string s, .int .i64 n] w (OneRes w (oneL (s.data.toList.drop n)) n) := by
  rw [one_eq s n hn, if_neg (by rw [h1]; simp), if_pos h2]
  have A := fun ww => has1 s n ww hs (by omega)
  rw [h1] at A
  have A2 := Lib.hid A
  clear A
  have B := refBlank_any (bn s[n])
  rw [h2] at B
  have B2 := Lib.hid B
  clear B
  have C := fun ww => refBlanks_any s n ww (by omega) (by omega) (by omega)
  rw [Int.toNat_natCast] at C
  have hle := runOf_le blankB (s.data.toList.drop n)
  rw [List.length_drop, Array.length_toList] at hle
  have hle2 : (runOf blankB (s.data.toList.drop n)).length ≤ s.size - n := hle
  clear hle
  generalize (runOf blankB (s.data.toList.drop n)).length = b at *
  have C2 := Lib.hid C
  clear C h1 h2
  go_enter Tryd.func41, Tryd.ntmps41
  go_wp2_with (first | (go_at_call 54; refine (A2.out _).mono ?_; rintro e w' ⟨rfl, rfl⟩) | (go_at_call 56; refine (B2.out _).mono ?_; rintro e w' ⟨rfl, rfl⟩) | (go_at_call 57; refine (C2.out _).mono ?_; rintro e w' ⟨rfl, rfl⟩))
  exact ret_tok rfl rfl (Blk3.new w 44 _ _ _) rfl ⟨tup_eq rfl (by omega), below_one w _⟩
theorem one_num (s : ByteArray) (n : Nat) (w : World) (hs : s.size ≤ 4611686018427387903) (hn : n < s.size) (h1 : hasL (s.data.toList.drop n) [47, 42] = false) (h2 : blankB (bn s[n]) = false) (h3 : ¬ (bn s[n] = 34 ∨ bn s[n] = 39)) (h4 : 0 < numberL (s.data.toList.drop n)) (hk : n + numberL (s.data.toList.drop n) ≤ s.size) :
    Calls Tryd.prog 41 #[.string s, .int .i64 n] w (OneRes w (oneL (s.data.toList.drop n)) n) := by
  rw [one_eq s n hn, if_neg (by rw [h1]; simp), if_neg (by rw [h2]; simp), if_neg h3, if_pos h4]
  have A := fun ww => has1 s n ww hs (by omega)
  rw [h1] at A
  have A2 := Lib.hid A
  clear A
  have B := refBlank_any (bn s[n])
  rw [h2] at B
  have B2 := Lib.hid B
  clear B
  have g34 : ((s[n].toNat : Int) == 34) = false := by have : ¬ bn s[n] = 34 := fun e => h3 (Or.inl e); simpa using this
  have g39 : ((s[n].toNat : Int) == 39) = false := by have : ¬ bn s[n] = 39 := fun e => h3 (Or.inr e); simpa using this
  have NU := fun ww => refNumber_any s n ww hs (by omega) (by omega)
  rw [Int.toNat_natCast] at NU
  have ME := fun ww => refMeasure_any s n (numberL (s.data.toList.drop n)) ww hs h4 hk
  generalize measureL (s.data.toList.drop n) (numberL (s.data.toList.drop n)) = R at *
  obtain ⟨t, c⟩ := R
  simp only at ME ⊢
  generalize numberL (s.data.toList.drop n) = k at *
  have NU2 := Lib.hid NU
  have ME2 := Lib.hid ME
  clear NU ME h1 h2 h3
  have hZ : Below w.heap.size w (ztw w) := below_one w _
  have HZ := Lib.hid hZ
  clear hZ
  go_enter Tryd.func41, Tryd.ntmps41
  go_wp2_with (first | (go_at_call 54; refine (A2.out _).mono ?_; rintro e w' ⟨rfl, rfl⟩) | (go_at_call 56; refine (B2.out _).mono ?_; rintro e w' ⟨rfl, rfl⟩) | (go_at_call 59; refine (NU2.out _).mono ?_; rintro e w' ⟨rfl, rfl⟩))
  refine (ME2.out _).mono ?_
  rintro e w1 ⟨rfl, hb⟩
  have hb1 : Below (w.heap.size + 1) (ztw w) w1 := by rw [← ztw_size]; exact hb
  obtain ⟨r0, r1, r2, f0, f1, f2⟩ := (ztok w).below hb1 (by omega)
  have hb2 := Lib.hid hb1
  clear hb hb1
  unfold tokV
  have Q := (Blk3.mk r0 r1 r2 f0 f1 f2).put (.int .i64 t.kind) (.string (bs t.text)) (.int .i64 t.n)
  have hB := below_put3 (HZ.out.trans (hb2.out.mono (by omega))) (Nat.le_refl _) (.int .i64 t.kind) (.string (bs t.text)) (.int .i64 t.n)
  go_wp2
  exact ret_tok rfl rfl Q rfl ⟨rfl, hB⟩
theorem one_dq (s : ByteArray) (n : Nat) (w : World) (hs : s.size ≤ 4611686018427387903) (hn : n < s.size) (h1 : hasL (s.data.toList.drop n) [47, 42] = false) (h2 : blankB (bn s[n]) = false) (h3 : bn s[n] = 34) :
    Calls Tryd.prog 41 #[.string s, .int .i64 n] w (OneRes w (oneL (s.data.toList.drop n)) n) := by
  rw [one_eq s n hn, if_neg (by rw [h1]; simp), if_neg (by rw [h2]; simp), if_pos (Or.inl h3)]
  have A := fun ww => has1 s n ww hs (by omega)
  rw [h1] at A
  have A2 := Lib.hid A
  clear A
  have B := refBlank_any (bn s[n])
  rw [h2] at B
  have B2 := Lib.hid B
  clear B
  have g34 : ((s[n].toNat : Int) == 34) = true := by simpa using h3
  have ME := fun ww => refQuoted_any s n ww hs hn
  generalize quotedL (bn s[n]) (s.data.toList.drop (n + 1)) = R at *
  obtain ⟨t, c⟩ := R
  simp only at ME ⊢
  rw [show n + 1 + c = n + (c + 1) by omega] at ME
  have ME2 := Lib.hid ME
  clear ME h1 h2 h3
  have hZ : Below w.heap.size w (ztw w) := below_one w _
  have HZ := Lib.hid hZ
  clear hZ
  go_enter Tryd.func41, Tryd.ntmps41
  go_wp2_with (first | (go_at_call 54; refine (A2.out _).mono ?_; rintro e w' ⟨rfl, rfl⟩) | (go_at_call 56; refine (B2.out _).mono ?_; rintro e w' ⟨rfl, rfl⟩))
  refine (ME2.out _).mono ?_
  rintro e w1 ⟨rfl, hb⟩
  have hb1 : Below (w.heap.size + 1) (ztw w) w1 := by rw [← ztw_size]; exact hb
  obtain ⟨r0, r1, r2, f0, f1, f2⟩ := (ztok w).below hb1 (by omega)
  have hb2 := Lib.hid hb1
  clear hb hb1
  unfold tokV
  have Q := (Blk3.mk r0 r1 r2 f0 f1 f2).put (.int .i64 t.kind) (.string (bs t.text)) (.int .i64 t.n)
  have hB := below_put3 (HZ.out.trans (hb2.out.mono (by omega))) (Nat.le_refl _) (.int .i64 t.kind) (.string (bs t.text)) (.int .i64 t.n)
  go_wp2
  exact ret_tok rfl rfl Q rfl ⟨rfl, hB⟩
theorem one_sq (s : ByteArray) (n : Nat) (w : World) (hs : s.size ≤ 4611686018427387903) (hn : n < s.size) (h1 : hasL (s.data.toList.drop n) [47, 42] = false) (h2 : blankB (bn s[n]) = false) (h3 : bn s[n] = 39) :
    Calls Tryd.prog 41 #[.string s, .int .i64 n] w (OneRes w (oneL (s.data.toList.drop n)) n) := by
  rw [one_eq s n hn, if_neg (by rw [h1]; simp), if_neg (by rw [h2]; simp), if_pos (Or.inr h3)]
  have A := fun ww => has1 s n ww hs (by omega)
  rw [h1] at A
  have A2 := Lib.hid A
  clear A
  have B := refBlank_any (bn s[n])
  rw [h2] at B
  have B2 := Lib.hid B
  clear B
  have g34 : ((s[n].toNat : Int) == 34) = false := by have : ¬ bn s[n] = 34 := by omega
                                                      simpa using this
  have g39 : ((s[n].toNat : Int) == 39) = true := by simpa using h3
  have ME := fun ww => refQuoted_any s n ww hs hn
  generalize quotedL (bn s[n]) (s.data.toList.drop (n + 1)) = R at *
  obtain ⟨t, c⟩ := R
  simp only at ME ⊢
  rw [show n + 1 + c = n + (c + 1) by omega] at ME
  have ME2 := Lib.hid ME
  clear ME h1 h2 h3
  have hZ : Below w.heap.size w (ztw w) := below_one w _
  have HZ := Lib.hid hZ
  clear hZ
  go_enter Tryd.func41, Tryd.ntmps41
  go_wp2_with (first | (go_at_call 54; refine (A2.out _).mono ?_; rintro e w' ⟨rfl, rfl⟩) | (go_at_call 56; refine (B2.out _).mono ?_; rintro e w' ⟨rfl, rfl⟩))
  refine (ME2.out _).mono ?_
  rintro e w1 ⟨rfl, hb⟩
  have hb1 : Below (w.heap.size + 1) (ztw w) w1 := by rw [← ztw_size]; exact hb
  obtain ⟨r0, r1, r2, f0, f1, f2⟩ := (ztok w).below hb1 (by omega)
  have hb2 := Lib.hid hb1
  clear hb hb1
  unfold tokV
  have Q := (Blk3.mk r0 r1 r2 f0 f1 f2).put (.int .i64 t.kind) (.string (bs t.text)) (.int .i64 t.n)
  have hB := below_put3 (HZ.out.trans (hb2.out.mono (by omega))) (Nat.le_refl _) (.int .i64 t.kind) (.string (bs t.text)) (.int .i64 t.n)
  go_wp2
  exact ret_tok rfl rfl Q rfl ⟨rfl, hB⟩
theorem one_hash (s : ByteArray) (n : Nat) (w : World) (hs : s.size ≤ 4611686018427387903) (hn : n < s.size) (h1 : hasL (s.data.toList.drop n) [47, 42] = false) (h2 : blankB (bn s[n]) = false) (h3 : ¬ (bn s[n] = 34 ∨ bn s[n] = 39)) (h4 : ¬ 0 < numberL (s.data.toList.drop n)) (h5 : bn s[n] = 35) (h6 : 0 < (runL (s.data.toList.drop (n + 1))).length) :
    Calls Tryd.prog 41 #[.string s, .int .i64 n] w (OneRes w (oneL (s.data.toList.drop n)) n) := by
  rw [one_eq s n hn, if_neg (by rw [h1]; simp), if_neg (by rw [h2]; simp), if_neg h3, if_neg h4, if_pos ⟨h5, h6⟩]
  have A := fun ww => has1 s n ww hs (by omega)
  rw [h1] at A
  have A2 := Lib.hid A
  clear A
  have B := refBlank_any (bn s[n])
  rw [h2] at B
  have B2 := Lib.hid B
  clear B
  have g34 : ((s[n].toNat : Int) == 34) = false := by have : ¬ bn s[n] = 34 := fun e => h3 (Or.inl e); simpa using this
  have g39 : ((s[n].toNat : Int) == 39) = false := by have : ¬ bn s[n] = 39 := fun e => h3 (Or.inr e); simpa using this
  have NU := fun ww => refNumber_any s n ww hs (by omega) (by omega)
  rw [Int.toNat_natCast] at NU
  rw [show numberL (s.data.toList.drop n) = 0 by omega, show (((0 : Nat)) : Int) = 0 from rfl] at NU
  have NU2 := Lib.hid NU
  clear NU
  obtain ⟨m, hm⟩ : ∃ m, m = n + 1 := ⟨_, rfl⟩
  have hm2 : (n : Int) + 1 = (m : Int) := by omega
  have hm3 : m ≤ s.size := by omega
  have hm4 : n ≤ m := by omega
  rw [← hm] at h6 ⊢
  have RU := fun ww => refRun_any s (m : Int) ww (by omega) (by omega) (by omega)
  rw [Int.toNat_natCast] at RU
  have rle := runL_le (s.data.toList.drop m)
  rw [List.length_drop, Array.length_toList] at rle
  have rle2 : (runL (s.data.toList.drop m)).length ≤ s.size - m := rle
  clear rle
  have ST := fun ww => refStarts_any s (m : Int) ww (by omega) (by omega) (by omega)
  rw [Int.toNat_natCast] at ST
  have HM := Lib.hid hm
  obtain ⟨q, hq⟩ : ∃ q, (runL (s.data.toList.drop m)).length = q := ⟨_, rfl⟩
  rw [hq] at RU rle2
  have g35 : ((s[n].toNat : Int) == 35) = true := by simpa using h5
  obtain ⟨j, hj⟩ : ∃ j, j = m + q := ⟨_, rfl⟩
  have hj2 : (m : Int) + (q : Int) = (j : Int) := by omega
  have hj3 : j ≤ s.size := by omega
  have hj4 : m ≤ j := by omega
  have X := runL_ext s m j (by omega)
  rw [hq] at h6 ⊢
  have h62 : 0 < q := h6
  have RU2 := Lib.hid RU
  have ST2 := Lib.hid ST
  clear RU ST hm
  have TV : tokV ⟨4, runL (s.data.toList.drop m), 0⟩ = .agg #[.int .i64 4, .string (s.extract m j), .int .i64 0] := by rw [tokV, X]
  have TV2 := Lib.hid TV
  have HJ := Lib.hid hj
  clear h1 h2 h3 h4 h5 h6 X hj hq TV
  go_enter Tryd.func41, Tryd.ntmps41
  go_wp2_with (first | (go_at_call 54; refine (A2.out _).mono ?_; rintro e w' ⟨rfl, rfl⟩) | (go_at_call 56; refine (B2.out _).mono ?_; rintro e w' ⟨rfl, rfl⟩) | (go_at_call 59; refine (NU2.out _).mono ?_; rintro e w' ⟨rfl, rfl⟩) | (go_at_call 52; refine (RU2.out _).mono ?_; rintro e w' ⟨rfl, rfl⟩) | (go_at_call 51; refine (ST2.out _).mono ?_; rintro e w' ⟨rfl, rfl⟩))
  exact ret_tok rfl rfl (Blk3.new w 44 _ _ _) rfl ⟨tup_eq TV2.out (by have := HJ.out; have := HM.out; omega), below_one w _⟩
theorem one_at (s : ByteArray) (n : Nat) (w : World) (hs : s.size ≤ 4611686018427387903) (hn : n < s.size) (h1 : hasL (s.data.toList.drop n) [47, 42] = false) (h2 : blankB (bn s[n]) = false) (h3 : ¬ (bn s[n] = 34 ∨ bn s[n] = 39)) (h4 : ¬ 0 < numberL (s.data.toList.drop n)) (h5 : bn s[n] = 64) (h6 : startsL (s.data.toList.drop (n + 1)) = true) :
    Calls Tryd.prog 41 #[.string s, .int .i64 n] w (OneRes w (oneL (s.data.toList.drop n)) n) := by
  rw [one_eq s n hn, if_neg (by rw [h1]; simp), if_neg (by rw [h2]; simp), if_neg h3, if_neg h4, if_neg (by omega), if_pos ⟨h5, h6⟩]
  have A := fun ww => has1 s n ww hs (by omega)
  rw [h1] at A
  have A2 := Lib.hid A
  clear A
  have B := refBlank_any (bn s[n])
  rw [h2] at B
  have B2 := Lib.hid B
  clear B
  have g34 : ((s[n].toNat : Int) == 34) = false := by have : ¬ bn s[n] = 34 := fun e => h3 (Or.inl e); simpa using this
  have g39 : ((s[n].toNat : Int) == 39) = false := by have : ¬ bn s[n] = 39 := fun e => h3 (Or.inr e); simpa using this
  have NU := fun ww => refNumber_any s n ww hs (by omega) (by omega)
  rw [Int.toNat_natCast] at NU
  rw [show numberL (s.data.toList.drop n) = 0 by omega, show (((0 : Nat)) : Int) = 0 from rfl] at NU
  have NU2 := Lib.hid NU
  clear NU
  obtain ⟨m, hm⟩ : ∃ m, m = n + 1 := ⟨_, rfl⟩
  have hm2 : (n : Int) + 1 = (m : Int) := by omega
  have hm3 : m ≤ s.size := by omega
  have hm4 : n ≤ m := by omega
  rw [← hm] at h6 ⊢
  have RU := fun ww => refRun_any s (m : Int) ww (by omega) (by omega) (by omega)
  rw [Int.toNat_natCast] at RU
  have rle := runL_le (s.data.toList.drop m)
  rw [List.length_drop, Array.length_toList] at rle
  have rle2 : (runL (s.data.toList.drop m)).length ≤ s.size - m := rle
  clear rle
  have ST := fun ww => refStarts_any s (m : Int) ww (by omega) (by omega) (by omega)
  rw [Int.toNat_natCast] at ST
  have HM := Lib.hid hm
  obtain ⟨q, hq⟩ : ∃ q, (runL (s.data.toList.drop m)).length = q := ⟨_, rfl⟩
  rw [hq] at RU rle2
  have h35 : ¬ bn s[n] = 35 := by omega
  have g35 : ((s[n].toNat : Int) == 35) = false := by simpa using h35
  have g64 : ((s[n].toNat : Int) == 64) = true := by simpa using h5
  obtain ⟨j, hj⟩ : ∃ j, j = m + q := ⟨_, rfl⟩
  have hj2 : (m : Int) + (q : Int) = (j : Int) := by omega
  have hj3 : j ≤ s.size := by omega
  have hj4 : m ≤ j := by omega
  have X := runL_ext s m j (by omega)
  rw [hq]
  rw [h6] at ST
  have RU2 := Lib.hid RU
  have ST2 := Lib.hid ST
  clear RU ST hm
  have TV : tokV ⟨3, runL (s.data.toList.drop m), 0⟩ = .agg #[.int .i64 3, .string (s.extract m j), .int .i64 0] := by rw [tokV, X]
  have TV2 := Lib.hid TV
  have HJ := Lib.hid hj
  clear h1 h2 h3 h4 h5 h6 X hj hq TV h35
  go_enter Tryd.func41, Tryd.ntmps41
  go_wp2_with (first | (go_at_call 54; refine (A2.out _).mono ?_; rintro e w' ⟨rfl, rfl⟩) | (go_at_call 56; refine (B2.out _).mono ?_; rintro e w' ⟨rfl, rfl⟩) | (go_at_call 59; refine (NU2.out _).mono ?_; rintro e w' ⟨rfl, rfl⟩) | (go_at_call 52; refine (RU2.out _).mono ?_; rintro e w' ⟨rfl, rfl⟩) | (go_at_call 51; refine (ST2.out _).mono ?_; rintro e w' ⟨rfl, rfl⟩))
  exact ret_tok rfl rfl (Blk3.new w 44 _ _ _) rfl ⟨tup_eq TV2.out (by have := HJ.out; have := HM.out; omega), below_one w _⟩
set_option maxHeartbeats 1000000 in
theorem one_func (s : ByteArray) (n : Nat) (w : World) (hs : s.size ≤ 4611686018427387903) (hn : n < s.size) (h1 : hasL (s.data.toList.drop n) [47, 42] = false) (h2 : blankB (bn s[n]) = false) (h3 : ¬ (bn s[n] = 34 ∨ bn s[n] = 39)) (h4 : ¬ 0 < numberL (s.data.toList.drop n)) (h35 : ¬ bn s[n] = 35) (h64 : ¬ bn s[n] = 64) (st : startsL (s.data.toList.drop n) = true) (hp : hasL (s.data.toList.drop (n + (runL (s.data.toList.drop n)).length)) [40] = true) :
    Calls Tryd.prog 41 #[.string s, .int .i64 n] w (OneRes w (oneL (s.data.toList.drop n)) n) := by
  rw [one_eq s n hn, if_neg (by rw [h1]; simp), if_neg (by rw [h2]; simp), if_neg h3, if_neg h4, if_neg (by rintro ⟨h, _⟩; exact h35 h), if_neg (by rintro ⟨h, _⟩; exact h64 h), if_pos st, if_pos hp]
  have A := fun ww => has1 s n ww hs (by omega)
  rw [h1] at A
  have A2 := Lib.hid A
  clear A
  have B := refBlank_any (bn s[n])
  rw [h2] at B
  have B2 := Lib.hid B
  clear B
  have g34 : ((s[n].toNat : Int) == 34) = false := by have : ¬ bn s[n] = 34 := fun e => h3 (Or.inl e); simpa using this
  have g39 : ((s[n].toNat : Int) == 39) = false := by have : ¬ bn s[n] = 39 := fun e => h3 (Or.inr e); simpa using this
  have NU := fun ww => refNumber_any s n ww hs (by omega) (by omega)
  rw [Int.toNat_natCast] at NU
  rw [show numberL (s.data.toList.drop n) = 0 by omega, show (((0 : Nat)) : Int) = 0 from rfl] at NU
  have NU2 := Lib.hid NU
  clear NU
  obtain ⟨m, hm⟩ : ∃ m, m = n + 1 := ⟨_, rfl⟩
  have hm2 : (n : Int) + 1 = (m : Int) := by omega
  have hm3 : m ≤ s.size := by omega
  have hm4 : n ≤ m := by omega
  have RU := fun ww => refRun_any s (m : Int) ww (by omega) (by omega) (by omega)
  rw [Int.toNat_natCast] at RU
  have rle := runL_le (s.data.toList.drop m)
  rw [List.length_drop, Array.length_toList] at rle
  have rle2 : (runL (s.data.toList.drop m)).length ≤ s.size - m := rle
  clear rle
  have ST := fun ww => refStarts_any s (m : Int) ww (by omega) (by omega) (by omega)
  rw [Int.toNat_natCast] at ST
  have HM := Lib.hid hm
  obtain ⟨q, hq⟩ : ∃ q, (runL (s.data.toList.drop m)).length = q := ⟨_, rfl⟩
  rw [hq] at RU rle2
  have RO := fun ww => refRun_any s (n : Int) ww (by omega) (by omega) (by omega)
  rw [Int.toNat_natCast] at RO
  have ole := runL_le (s.data.toList.drop n)
  rw [List.length_drop, Array.length_toList] at ole
  have ole2 : (runL (s.data.toList.drop n)).length ≤ s.size - n := ole
  clear ole
  have SO := fun ww => refStarts_any s (n : Int) ww (by omega) (by omega) (by omega)
  rw [Int.toNat_natCast] at SO
  have SI := refSigns s n hn
  have X0 := runL_ext s n
  generalize hq0 : (runL (s.data.toList.drop n)).length = q0 at *
  obtain ⟨j, hj⟩ : ∃ j, j = n + q0 := ⟨_, rfl⟩
  have hj2 : (n : Int) + (q0 : Int) = (j : Int) := by omega
  have hj3 : j ≤ s.size := by omega
  have hj4 : n ≤ j := by omega
  have X := X0 j (by omega)
  rw [← hj] at hp
  have A3 := fun ww => has2 s j ww hs (by omega)
  rw [hp] at A3
  rw [st] at SO
  have g35 : ((s[n].toNat : Int) == 35) = false := by simpa using h35
  have g64 : ((s[n].toNat : Int) == 64) = false := by simpa using h64
  have RU2 := Lib.hid RU
  have ST2 := Lib.hid ST
  clear RU ST hm
  have TV : tokV ⟨2, runL (s.data.toList.drop n), 0⟩ = .agg #[.int .i64 2, .string (s.extract n j), .int .i64 0] := by rw [tokV, X]
  have TV2 := Lib.hid TV
  have HJ := Lib.hid hj
  have A32 := Lib.hid A3
  have RO2 := Lib.hid RO
  have SO2 := Lib.hid SO
  have SI2 := Lib.hid SI
  clear h2 h3 h4 h35 h64 X X0 hj TV A3 RO SO SI RU2 ST2 RO2 SO2 A2 A32
  go_enter Tryd.func41, Tryd.ntmps41
  go_wp2_with (first | (go_at_call 54; (refine (refHas_any s _ _ _ (by omega) (by decide) (by omega) (by omega)).mono ?_; rintro e w' ⟨rfl, rfl⟩)) | (go_at_call 56; refine (B2.out _).mono ?_; rintro e w' ⟨rfl, rfl⟩) | (go_at_call 59; refine (NU2.out _).mono ?_; rintro e w' ⟨rfl, rfl⟩) | (go_at_call 52; refine (refRun_any s _ _ (by omega) (by omega) (by omega)).mono ?_; rintro e w' ⟨rfl, rfl⟩) | (go_at_call 51; refine (refStarts_any s _ _ (by omega) (by omega) (by omega)).mono ?_; rintro e w' ⟨rfl, rfl⟩) | (go_at_call 61; refine (SI2.out _).mono ?_; rintro e w' ⟨rfl, rfl⟩))
  exact ret_tok rfl rfl (Blk3.new w 44 _ _ _) rfl ⟨tup_eq TV2.out (by have := HJ.out; have := HM.out; omega), below_one w _⟩
set_option maxHeartbeats 1000000 in
theorem one_ident (s : ByteArray) (n : Nat) (w : World) (hs : s.size ≤ 4611686018427387903) (hn : n < s.size) (h1 : hasL (s.data.toList.drop n) [47, 42] = false) (h2 : blankB (bn s[n]) = false) (h3 : ¬ (bn s[n] = 34 ∨ bn s[n] = 39)) (h4 : ¬ 0 < numberL (s.data.toList.drop n)) (h35 : ¬ bn s[n] = 35) (h64 : ¬ bn s[n] = 64) (st : startsL (s.data.toList.drop n) = true) (hp : hasL (s.data.toList.drop (n + (runL (s.data.toList.drop n)).length)) [40] = false) :
    Calls Tryd.prog 41 #[.string s, .int .i64 n] w (OneRes w (oneL (s.data.toList.drop n)) n) := by
  rw [one_eq s n hn, if_neg (by rw [h1]; simp), if_neg (by rw [h2]; simp), if_neg h3, if_neg h4, if_neg (by rintro ⟨h, _⟩; exact h35 h), if_neg (by rintro ⟨h, _⟩; exact h64 h), if_pos st, if_neg (by rw [hp]; simp)]
  have A := fun ww => has1 s n ww hs (by omega)
  rw [h1] at A
  have A2 := Lib.hid A
  clear A
  have B := refBlank_any (bn s[n])
  rw [h2] at B
  have B2 := Lib.hid B
  clear B
  have g34 : ((s[n].toNat : Int) == 34) = false := by have : ¬ bn s[n] = 34 := fun e => h3 (Or.inl e); simpa using this
  have g39 : ((s[n].toNat : Int) == 39) = false := by have : ¬ bn s[n] = 39 := fun e => h3 (Or.inr e); simpa using this
  have NU := fun ww => refNumber_any s n ww hs (by omega) (by omega)
  rw [Int.toNat_natCast] at NU
  rw [show numberL (s.data.toList.drop n) = 0 by omega, show (((0 : Nat)) : Int) = 0 from rfl] at NU
  have NU2 := Lib.hid NU
  clear NU
  obtain ⟨m, hm⟩ : ∃ m, m = n + 1 := ⟨_, rfl⟩
  have hm2 : (n : Int) + 1 = (m : Int) := by omega
  have hm3 : m ≤ s.size := by omega
  have hm4 : n ≤ m := by omega
  have RU := fun ww => refRun_any s (m : Int) ww (by omega) (by omega) (by omega)
  rw [Int.toNat_natCast] at RU
  have rle := runL_le (s.data.toList.drop m)
  rw [List.length_drop, Array.length_toList] at rle
  have rle2 : (runL (s.data.toList.drop m)).length ≤ s.size - m := rle
  clear rle
  have ST := fun ww => refStarts_any s (m : Int) ww (by omega) (by omega) (by omega)
  rw [Int.toNat_natCast] at ST
  have HM := Lib.hid hm
  obtain ⟨q, hq⟩ : ∃ q, (runL (s.data.toList.drop m)).length = q := ⟨_, rfl⟩
  rw [hq] at RU rle2
  have RO := fun ww => refRun_any s (n : Int) ww (by omega) (by omega) (by omega)
  rw [Int.toNat_natCast] at RO
  have ole := runL_le (s.data.toList.drop n)
  rw [List.length_drop, Array.length_toList] at ole
  have ole2 : (runL (s.data.toList.drop n)).length ≤ s.size - n := ole
  clear ole
  have SO := fun ww => refStarts_any s (n : Int) ww (by omega) (by omega) (by omega)
  rw [Int.toNat_natCast] at SO
  have SI := refSigns s n hn
  have X0 := runL_ext s n
  generalize hq0 : (runL (s.data.toList.drop n)).length = q0 at *
  obtain ⟨j, hj⟩ : ∃ j, j = n + q0 := ⟨_, rfl⟩
  have hj2 : (n : Int) + (q0 : Int) = (j : Int) := by omega
  have hj3 : j ≤ s.size := by omega
  have hj4 : n ≤ j := by omega
  have X := X0 j (by omega)
  rw [← hj] at hp
  have A3 := fun ww => has2 s j ww hs (by omega)
  rw [hp] at A3
  rw [st] at SO
  have g35 : ((s[n].toNat : Int) == 35) = false := by simpa using h35
  have g64 : ((s[n].toNat : Int) == 64) = false := by simpa using h64
  have RU2 := Lib.hid RU
  have ST2 := Lib.hid ST
  clear RU ST hm
  have TV : tokV ⟨1, runL (s.data.toList.drop n), 0⟩ = .agg #[.int .i64 1, .string (s.extract n j), .int .i64 0] := by rw [tokV, X]
  have TV2 := Lib.hid TV
  have HJ := Lib.hid hj
  have A32 := Lib.hid A3
  have RO2 := Lib.hid RO
  have SO2 := Lib.hid SO
  have SI2 := Lib.hid SI
  clear h2 h3 h4 h35 h64 X X0 hj TV A3 RO SO SI RU2 ST2 RO2 SO2 A2 A32
  go_enter Tryd.func41, Tryd.ntmps41
  go_wp2_with (first | (go_at_call 54; (refine (refHas_any s _ _ _ (by omega) (by decide) (by omega) (by omega)).mono ?_; rintro e w' ⟨rfl, rfl⟩)) | (go_at_call 56; refine (B2.out _).mono ?_; rintro e w' ⟨rfl, rfl⟩) | (go_at_call 59; refine (NU2.out _).mono ?_; rintro e w' ⟨rfl, rfl⟩) | (go_at_call 52; refine (refRun_any s _ _ (by omega) (by omega) (by omega)).mono ?_; rintro e w' ⟨rfl, rfl⟩) | (go_at_call 51; refine (refStarts_any s _ _ (by omega) (by omega) (by omega)).mono ?_; rintro e w' ⟨rfl, rfl⟩) | (go_at_call 61; refine (SI2.out _).mono ?_; rintro e w' ⟨rfl, rfl⟩))
  exact ret_tok rfl rfl (Blk3.new w 44 _ _ _) rfl ⟨tup_eq TV2.out (by have := HJ.out; have := HM.out; omega), below_one w _⟩
set_option maxHeartbeats 1000000 in
theorem one_sign (s : ByteArray) (n : Nat) (w : World) (hs : s.size ≤ 4611686018427387903) (hn : n < s.size) (h1 : hasL (s.data.toList.drop n) [47, 42] = false) (h2 : blankB (bn s[n]) = false) (h3 : ¬ (bn s[n] = 34 ∨ bn s[n] = 39)) (h4 : ¬ 0 < numberL (s.data.toList.drop n)) (h35 : ¬ bn s[n] = 35) (h64 : ¬ bn s[n] = 64) (st : startsL (s.data.toList.drop n) = false) (hk : 0 < signsK (bn s[n])) :
    Calls Tryd.prog 41 #[.string s, .int .i64 n] w (OneRes w (oneL (s.data.toList.drop n)) n) := by
  rw [one_eq s n hn, if_neg (by rw [h1]; simp), if_neg (by rw [h2]; simp), if_neg h3, if_neg h4, if_neg (by rintro ⟨h, _⟩; exact h35 h), if_neg (by rintro ⟨h, _⟩; exact h64 h), if_neg (by rw [st]; simp), if_pos hk]
  have A := fun ww => has1 s n ww hs (by omega)
  rw [h1] at A
  have A2 := Lib.hid A
  clear A
  have B := refBlank_any (bn s[n])
  rw [h2] at B
  have B2 := Lib.hid B
  clear B
  have g34 : ((s[n].toNat : Int) == 34) = false := by have : ¬ bn s[n] = 34 := fun e => h3 (Or.inl e); simpa using this
  have g39 : ((s[n].toNat : Int) == 39) = false := by have : ¬ bn s[n] = 39 := fun e => h3 (Or.inr e); simpa using this
  have NU := fun ww => refNumber_any s n ww hs (by omega) (by omega)
  rw [Int.toNat_natCast] at NU
  rw [show numberL (s.data.toList.drop n) = 0 by omega, show (((0 : Nat)) : Int) = 0 from rfl] at NU
  have NU2 := Lib.hid NU
  clear NU
  obtain ⟨m, hm⟩ : ∃ m, m = n + 1 := ⟨_, rfl⟩
  have hm2 : (n : Int) + 1 = (m : Int) := by omega
  have hm3 : m ≤ s.size := by omega
  have hm4 : n ≤ m := by omega
  have RU := fun ww => refRun_any s (m : Int) ww (by omega) (by omega) (by omega)
  rw [Int.toNat_natCast] at RU
  have rle := runL_le (s.data.toList.drop m)
  rw [List.length_drop, Array.length_toList] at rle
  have rle2 : (runL (s.data.toList.drop m)).length ≤ s.size - m := rle
  clear rle
  have ST := fun ww => refStarts_any s (m : Int) ww (by omega) (by omega) (by omega)
  rw [Int.toNat_natCast] at ST
  have HM := Lib.hid hm
  obtain ⟨q, hq⟩ : ∃ q, (runL (s.data.toList.drop m)).length = q := ⟨_, rfl⟩
  rw [hq] at RU rle2
  have RO := fun ww => refRun_any s (n : Int) ww (by omega) (by omega) (by omega)
  rw [Int.toNat_natCast] at RO
  have ole := runL_le (s.data.toList.drop n)
  rw [List.length_drop, Array.length_toList] at ole
  have ole2 : (runL (s.data.toList.drop n)).length ≤ s.size - n := ole
  clear ole
  have SO := fun ww => refStarts_any s (n : Int) ww (by omega) (by omega) (by omega)
  rw [Int.toNat_natCast] at SO
  have SI := refSigns s n hn
  have g35 : ((s[n].toNat : Int) == 35) = false := by simpa using h35
  have g64 : ((s[n].toNat : Int) == 64) = false := by simpa using h64
  rw [st] at SO
  generalize signsK (bn s[n]) = k at *
  have TV : tokV ⟨k, [], 0⟩ = .agg #[.int .i64 k, .string ⟨#[]⟩, .int .i64 0] := rfl
  have RU2 := Lib.hid RU
  have ST2 := Lib.hid ST
  clear RU ST hm
  have TV2 := Lib.hid TV
  have RO2 := Lib.hid RO
  have SO2 := Lib.hid SO
  have SI2 := Lib.hid SI
  clear h2 h3 h4 h35 h64  TV RO SO SI RU2 ST2 RO2 SO2 A2
  go_enter Tryd.func41, Tryd.ntmps41
  go_wp2_with (first | (go_at_call 54; (refine (refHas_any s _ _ _ (by omega) (by decide) (by omega) (by omega)).mono ?_; rintro e w' ⟨rfl, rfl⟩)) | (go_at_call 56; refine (B2.out _).mono ?_; rintro e w' ⟨rfl, rfl⟩) | (go_at_call 59; refine (NU2.out _).mono ?_; rintro e w' ⟨rfl, rfl⟩) | (go_at_call 52; refine (refRun_any s _ _ (by omega) (by omega) (by omega)).mono ?_; rintro e w' ⟨rfl, rfl⟩) | (go_at_call 51; refine (refStarts_any s _ _ (by omega) (by omega) (by omega)).mono ?_; rintro e w' ⟨rfl, rfl⟩) | (go_at_call 61; refine (SI2.out _).mono ?_; rintro e w' ⟨rfl, rfl⟩))
  exact ret_tok rfl rfl (Blk3.new w 44 _ _ _) rfl ⟨tup_eq TV2.out (by have := HM.out; omega), below_one w _⟩
set_option maxHeartbeats 1000000 in
theorem one_delim (s : ByteArray) (n : Nat) (w : World) (hs : s.size ≤ 4611686018427387903) (hn : n < s.size) (h1 : hasL (s.data.toList.drop n) [47, 42] = false) (h2 : blankB (bn s[n]) = false) (h3 : ¬ (bn s[n] = 34 ∨ bn s[n] = 39)) (h4 : ¬ 0 < numberL (s.data.toList.drop n)) (h35 : ¬ bn s[n] = 35) (h64 : ¬ bn s[n] = 64) (st : startsL (s.data.toList.drop n) = false) (hk : signsK (bn s[n]) = 0) :
    Calls Tryd.prog 41 #[.string s, .int .i64 n] w (OneRes w (oneL (s.data.toList.drop n)) n) := by
  rw [one_eq s n hn, if_neg (by rw [h1]; simp), if_neg (by rw [h2]; simp), if_neg h3, if_neg h4, if_neg (by rintro ⟨h, _⟩; exact h35 h), if_neg (by rintro ⟨h, _⟩; exact h64 h), if_neg (by rw [st]; simp), if_neg (by omega)]
  have A := fun ww => has1 s n ww hs (by omega)
  rw [h1] at A
  have A2 := Lib.hid A
  clear A
  have B := refBlank_any (bn s[n])
  rw [h2] at B
  have B2 := Lib.hid B
  clear B
  have g34 : ((s[n].toNat : Int) == 34) = false := by have : ¬ bn s[n] = 34 := fun e => h3 (Or.inl e); simpa using this
  have g39 : ((s[n].toNat : Int) == 39) = false := by have : ¬ bn s[n] = 39 := fun e => h3 (Or.inr e); simpa using this
  have NU := fun ww => refNumber_any s n ww hs (by omega) (by omega)
  rw [Int.toNat_natCast] at NU
  rw [show numberL (s.data.toList.drop n) = 0 by omega, show (((0 : Nat)) : Int) = 0 from rfl] at NU
  have NU2 := Lib.hid NU
  clear NU
  obtain ⟨m, hm⟩ : ∃ m, m = n + 1 := ⟨_, rfl⟩
  have hm2 : (n : Int) + 1 = (m : Int) := by omega
  have hm3 : m ≤ s.size := by omega
  have hm4 : n ≤ m := by omega
  have RU := fun ww => refRun_any s (m : Int) ww (by omega) (by omega) (by omega)
  rw [Int.toNat_natCast] at RU
  have rle := runL_le (s.data.toList.drop m)
  rw [List.length_drop, Array.length_toList] at rle
  have rle2 : (runL (s.data.toList.drop m)).length ≤ s.size - m := rle
  clear rle
  have ST := fun ww => refStarts_any s (m : Int) ww (by omega) (by omega) (by omega)
  rw [Int.toNat_natCast] at ST
  have HM := Lib.hid hm
  obtain ⟨q, hq⟩ : ∃ q, (runL (s.data.toList.drop m)).length = q := ⟨_, rfl⟩
  rw [hq] at RU rle2
  have RO := fun ww => refRun_any s (n : Int) ww (by omega) (by omega) (by omega)
  rw [Int.toNat_natCast] at RO
  have ole := runL_le (s.data.toList.drop n)
  rw [List.length_drop, Array.length_toList] at ole
  have ole2 : (runL (s.data.toList.drop n)).length ≤ s.size - n := ole
  clear ole
  have SO := fun ww => refStarts_any s (n : Int) ww (by omega) (by omega) (by omega)
  rw [Int.toNat_natCast] at SO
  have SI := refSigns s n hn
  have g35 : ((s[n].toNat : Int) == 35) = false := by simpa using h35
  have g64 : ((s[n].toNat : Int) == 64) = false := by simpa using h64
  rw [st] at SO
  rw [hk] at SI
  have X : bs [s[n]] = s.extract n m := by
    rw [← bs_of (s.extract n m), Lib.extract_data, show m - n = 1 by omega, drop_at s n hn]; rfl
  have TV : tokV ⟨19, [s[n]], 0⟩ = .agg #[.int .i64 19, .string (s.extract n m), .int .i64 0] := by rw [tokV, X]
  clear X
  have RU2 := Lib.hid RU
  have ST2 := Lib.hid ST
  clear RU ST hm
  have TV2 := Lib.hid TV
  have RO2 := Lib.hid RO
  have SO2 := Lib.hid SO
  have SI2 := Lib.hid SI
  clear h2 h3 h4 h35 h64 hk TV RO SO SI RU2 ST2 RO2 SO2 A2
  go_enter Tryd.func41, Tryd.ntmps41
  go_wp2_with (first | (go_at_call 54; (refine (refHas_any s _ _ _ (by omega) (by decide) (by omega) (by omega)).mono ?_; rintro e w' ⟨rfl, rfl⟩)) | (go_at_call 56; refine (B2.out _).mono ?_; rintro e w' ⟨rfl, rfl⟩) | (go_at_call 59; refine (NU2.out _).mono ?_; rintro e w' ⟨rfl, rfl⟩) | (go_at_call 52; refine (refRun_any s _ _ (by omega) (by omega) (by omega)).mono ?_; rintro e w' ⟨rfl, rfl⟩) | (go_at_call 51; refine (refStarts_any s _ _ (by omega) (by omega) (by omega)).mono ?_; rintro e w' ⟨rfl, rfl⟩) | (go_at_call 61; refine (SI2.out _).mono ?_; rintro e w' ⟨rfl, rfl⟩))
  exact ret_tok rfl rfl (Blk3.new w 44 _ _ _) rfl ⟨tup_eq TV2.out (by have := HM.out; omega), below_one w _⟩
set_option maxHeartbeats 1000000 in
theorem one_delim35 (s : ByteArray) (n : Nat) (w : World) (hs : s.size ≤ 4611686018427387903) (hn : n < s.size) (h1 : hasL (s.data.toList.drop n) [47, 42] = false) (h2 : blankB (bn s[n]) = false) (h3 : ¬ (bn s[n] = 34 ∨ bn s[n] = 39)) (h4 : ¬ 0 < numberL (s.data.toList.drop n)) (h35 : bn s[n] = 35) (h6 : (runL (s.data.toList.drop (n + 1))).length = 0) (st : startsL (s.data.toList.drop n) = false) (hk : signsK (bn s[n]) = 0) :
    Calls Tryd.prog 41 #[.string s, .int .i64 n] w (OneRes w (oneL (s.data.toList.drop n)) n) := by
  rw [one_eq s n hn, if_neg (by rw [h1]; simp), if_neg (by rw [h2]; simp), if_neg h3, if_neg h4, if_neg (by rintro ⟨_, h⟩; omega), if_neg (by omega), if_neg (by rw [st]; simp), if_neg (by omega)]
  have A := fun ww => has1 s n ww hs (by omega)
  rw [h1] at A
  have A2 := Lib.hid A
  clear A
  have B := refBlank_any (bn s[n])
  rw [h2] at B
  have B2 := Lib.hid B
  clear B
  have g34 : ((s[n].toNat : Int) == 34) = false := by have : ¬ bn s[n] = 34 := fun e => h3 (Or.inl e); simpa using this
  have g39 : ((s[n].toNat : Int) == 39) = false := by have : ¬ bn s[n] = 39 := fun e => h3 (Or.inr e); simpa using this
  have NU := fun ww => refNumber_any s n ww hs (by omega) (by omega)
  rw [Int.toNat_natCast] at NU
  rw [show numberL (s.data.toList.drop n) = 0 by omega, show (((0 : Nat)) : Int) = 0 from rfl] at NU
  have NU2 := Lib.hid NU
  clear NU
  obtain ⟨m, hm⟩ : ∃ m, m = n + 1 := ⟨_, rfl⟩
  have hm2 : (n : Int) + 1 = (m : Int) := by omega
  have hm3 : m ≤ s.size := by omega
  have hm4 : n ≤ m := by omega
  have RU := fun ww => refRun_any s (m : Int) ww (by omega) (by omega) (by omega)
  rw [Int.toNat_natCast] at RU
  have rle := runL_le (s.data.toList.drop m)
  rw [List.length_drop, Array.length_toList] at rle
  have rle2 : (runL (s.data.toList.drop m)).length ≤ s.size - m := rle
  clear rle
  have ST := fun ww => refStarts_any s (m : Int) ww (by omega) (by omega) (by omega)
  rw [Int.toNat_natCast] at ST
  have HM := Lib.hid hm
  obtain ⟨q, hq⟩ : ∃ q, (runL (s.data.toList.drop m)).length = q := ⟨_, rfl⟩
  rw [hq] at RU rle2
  have RO := fun ww => refRun_any s (n : Int) ww (by omega) (by omega) (by omega)
  rw [Int.toNat_natCast] at RO
  have ole := runL_le (s.data.toList.drop n)
  rw [List.length_drop, Array.length_toList] at ole
  have ole2 : (runL (s.data.toList.drop n)).length ≤ s.size - n := ole
  clear ole
  have SO := fun ww => refStarts_any s (n : Int) ww (by omega) (by omega) (by omega)
  rw [Int.toNat_natCast] at SO
  have SI := refSigns s n hn
  have h64 : ¬ bn s[n] = 64 := by omega
  have g35 : ((s[n].toNat : Int) == 35) = true := by simpa using h35
  have g64 : ((s[n].toNat : Int) == 64) = false := by simpa using h64
  rw [← hm] at h6
  have hq00 : q = 0 := by rw [← hq]; exact h6
  subst hq00
  rw [show (((0 : Nat)) : Int) = 0 from rfl] at RU
  rw [st] at SO
  rw [hk] at SI
  have X : bs [s[n]] = s.extract n m := by
    rw [← bs_of (s.extract n m), Lib.extract_data, show m - n = 1 by omega, drop_at s n hn]; rfl
  have TV : tokV ⟨19, [s[n]], 0⟩ = .agg #[.int .i64 19, .string (s.extract n m), .int .i64 0] := by rw [tokV, X]
  clear X
  have RU2 := Lib.hid RU
  have ST2 := Lib.hid ST
  clear RU ST hm
  have TV2 := Lib.hid TV
  have RO2 := Lib.hid RO
  have SO2 := Lib.hid SO
  have SI2 := Lib.hid SI
  clear h2 h3 h4 h35 h64 h6 hk TV RO SO SI RU2 ST2 RO2 SO2 A2
  go_enter Tryd.func41, Tryd.ntmps41
  go_wp2_with (first | (go_at_call 54; (refine (refHas_any s _ _ _ (by omega) (by decide) (by omega) (by omega)).mono ?_; rintro e w' ⟨rfl, rfl⟩)) | (go_at_call 56; refine (B2.out _).mono ?_; rintro e w' ⟨rfl, rfl⟩) | (go_at_call 59; refine (NU2.out _).mono ?_; rintro e w' ⟨rfl, rfl⟩) | (go_at_call 52; refine (refRun_any s _ _ (by omega) (by omega) (by omega)).mono ?_; rintro e w' ⟨rfl, rfl⟩) | (go_at_call 51; refine (refStarts_any s _ _ (by omega) (by omega) (by omega)).mono ?_; rintro e w' ⟨rfl, rfl⟩) | (go_at_call 61; refine (SI2.out _).mono ?_; rintro e w' ⟨rfl, rfl⟩))
  exact ret_tok rfl rfl (Blk3.new w 44 _ _ _) rfl ⟨tup_eq TV2.out (by have := HM.out; omega), below_one w _⟩
set_option maxHeartbeats 1000000 in
theorem one_delim64 (s : ByteArray) (n : Nat) (w : World) (hs : s.size ≤ 4611686018427387903) (hn : n < s.size) (h1 : hasL (s.data.toList.drop n) [47, 42] = false) (h2 : blankB (bn s[n]) = false) (h3 : ¬ (bn s[n] = 34 ∨ bn s[n] = 39)) (h4 : ¬ 0 < numberL (s.data.toList.drop n)) (h64 : bn s[n] = 64) (h6 : startsL (s.data.toList.drop (n + 1)) = false) (st : startsL (s.data.toList.drop n) = false) (hk : signsK (bn s[n]) = 0) :
    Calls Tryd.prog 41 #[.string s, .int .i64 n] w (OneRes w (oneL (s.data.toList.drop n)) n) := by
  rw [one_eq s n hn, if_neg (by rw [h1]; simp), if_neg (by rw [h2]; simp), if_neg h3, if_neg h4, if_neg (by omega), if_neg (by rintro ⟨_, h⟩; rw [h6] at h; cases h), if_neg (by rw [st]; simp), if_neg (by omega)]
  have A := fun ww => has1 s n ww hs (by omega)
  rw [h1] at A
  have A2 := Lib.hid A
  clear A
  have B := refBlank_any (bn s[n])
  rw [h2] at B
  have B2 := Lib.hid B
  clear B
  have g34 : ((s[n].toNat : Int) == 34) = false := by have : ¬ bn s[n] = 34 := fun e => h3 (Or.inl e); simpa using this
  have g39 : ((s[n].toNat : Int) == 39) = false := by have : ¬ bn s[n] = 39 := fun e => h3 (Or.inr e); simpa using this
  have NU := fun ww => refNumber_any s n ww hs (by omega) (by omega)
  rw [Int.toNat_natCast] at NU
  rw [show numberL (s.data.toList.drop n) = 0 by omega, show (((0 : Nat)) : Int) = 0 from rfl] at NU
  have NU2 := Lib.hid NU
  clear NU
  obtain ⟨m, hm⟩ : ∃ m, m = n + 1 := ⟨_, rfl⟩
  have hm2 : (n : Int) + 1 = (m : Int) := by omega
  have hm3 : m ≤ s.size := by omega
  have hm4 : n ≤ m := by omega
  have RU := fun ww => refRun_any s (m : Int) ww (by omega) (by omega) (by omega)
  rw [Int.toNat_natCast] at RU
  have rle := runL_le (s.data.toList.drop m)
  rw [List.length_drop, Array.length_toList] at rle
  have rle2 : (runL (s.data.toList.drop m)).length ≤ s.size - m := rle
  clear rle
  have ST := fun ww => refStarts_any s (m : Int) ww (by omega) (by omega) (by omega)
  rw [Int.toNat_natCast] at ST
  have HM := Lib.hid hm
  obtain ⟨q, hq⟩ : ∃ q, (runL (s.data.toList.drop m)).length = q := ⟨_, rfl⟩
  rw [hq] at RU rle2
  have RO := fun ww => refRun_any s (n : Int) ww (by omega) (by omega) (by omega)
  rw [Int.toNat_natCast] at RO
  have ole := runL_le (s.data.toList.drop n)
  rw [List.length_drop, Array.length_toList] at ole
  have ole2 : (runL (s.data.toList.drop n)).length ≤ s.size - n := ole
  clear ole
  have SO := fun ww => refStarts_any s (n : Int) ww (by omega) (by omega) (by omega)
  rw [Int.toNat_natCast] at SO
  have SI := refSigns s n hn
  have h35 : ¬ bn s[n] = 35 := by omega
  have g35 : ((s[n].toNat : Int) == 35) = false := by simpa using h35
  have g64 : ((s[n].toNat : Int) == 64) = true := by simpa using h64
  rw [← hm] at h6
  rw [h6] at ST
  rw [st] at SO
  rw [hk] at SI
  have X : bs [s[n]] = s.extract n m := by
    rw [← bs_of (s.extract n m), Lib.extract_data, show m - n = 1 by omega, drop_at s n hn]; rfl
  have TV : tokV ⟨19, [s[n]], 0⟩ = .agg #[.int .i64 19, .string (s.extract n m), .int .i64 0] := by rw [tokV, X]
  clear X
  have RU2 := Lib.hid RU
  have ST2 := Lib.hid ST
  clear RU ST hm
  have TV2 := Lib.hid TV
  have RO2 := Lib.hid RO
  have SO2 := Lib.hid SO
  have SI2 := Lib.hid SI
  clear h2 h3 h4 h35 h64 hk TV RO SO SI RU2 ST2 RO2 SO2 A2
  go_enter Tryd.func41, Tryd.ntmps41
  go_wp2_with (first | (go_at_call 54; (refine (refHas_any s _ _ _ (by omega) (by decide) (by omega) (by omega)).mono ?_; rintro e w' ⟨rfl, rfl⟩)) | (go_at_call 56; refine (B2.out _).mono ?_; rintro e w' ⟨rfl, rfl⟩) | (go_at_call 59; refine (NU2.out _).mono ?_; rintro e w' ⟨rfl, rfl⟩) | (go_at_call 52; refine (refRun_any s _ _ (by omega) (by omega) (by omega)).mono ?_; rintro e w' ⟨rfl, rfl⟩) | (go_at_call 51; refine (refStarts_any s _ _ (by omega) (by omega) (by omega)).mono ?_; rintro e w' ⟨rfl, rfl⟩) | (go_at_call 61; refine (SI2.out _).mono ?_; rintro e w' ⟨rfl, rfl⟩))
  exact ret_tok rfl rfl (Blk3.new w 44 _ _ _) rfl ⟨tup_eq TV2.out (by have := HM.out; omega), below_one w _⟩
end Go.Proofs.YthlkgkjkjpboiaaDoor
