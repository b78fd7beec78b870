/-
  Walks of layer 5: the program's lexer: what is passed, a string, a name, a sign.
-/
import Derived.Test.YtabhokgefpilkaaGreatDoorZ21
import Derived.Test.YtabhokgefpilkaaGreatDoorZ35
set_option linter.all false
namespace Go.Proofs.YtabhokgefpilkaaGreatDoor
open Go.RowKit Wsc
theorem lexSignP_any (c : Int) (w : World) :
    Calls Tryz.prog 81 #[.int .u8 c] w fun e w' => e = .returned (.int .i64 (signP c)) ∧ w = w' := by
  go_enter Tryz.func81, Tryz.ntmps81
  go_wp2
  all_goals go_ret
  all_goals refine ⟨ret_in ?_, rfl⟩
  all_goals (unfold signP; simp_all)
theorem behind_index (t : List UInt8) (ht : t ≠ []) : ∀ l : List UInt8, (behindL t l : Int) = if 0 ≤ Lib.index l t then Lib.index l t + t.length else l.length
  | [] => by
    have : Lib.index [] t = -1 := by
      cases t with
      | nil => exact absurd rfl ht
      | cons a b => rfl
    rw [this]
    rfl
  | c :: r => by
    have ih := behind_index t ht r
    unfold behindL hasL Lib.index
    have hge := Lib.index_ge r t
    by_cases h : t.isPrefixOf (c :: r) = true
    · rw [if_pos h, if_pos h]; simp
    rw [if_neg h, if_neg h]
    by_cases h1 : Lib.index r t = -1
    · rw [h1] at ih ⊢
      simp at ih ⊢; omega
    have e : (Lib.index r t == -1) = false := by simpa using h1
    rw [if_pos (by omega)] at ih
    simp only [e, Bool.false_eq_true, if_false]
    rw [if_pos (by omega)]
    push_cast
    omega
theorem pass_any (g k : Nat) (s : ByteArray) (T : List Tok) (w : World) (hg : Gl w) (hgG : 0 < g) (hs : s.size ≤ 1000000000) (hk : k ≤ s.size) (h : LexAt w g s k T) :
    Calls Tryz.prog 83 #[.pointer (some ⟨g, 0, none⟩), .string ⟨#[42, 47]⟩] w fun e w' => e = .returned (.tuple #[]) ∧ LexAt w' g s (k + behindL [42, 47] (s.data.toList.drop k)) T ∧ Kp [g] w w' := by
  obtain ⟨mm, hmm⟩ := hg
  have hbi := behind_index [42, 47] (by simp) (s.data.toList.drop k)
  have hbl := behindL_le [42, 47] (s.data.toList.drop k)
  have hge := Lib.index_ge (s.data.toList.drop k) [42, 47]
  have IX := fun (ww : World) (hc : ww.cell? ⟨0, 0, none⟩ = some (.int .i64 mm)) => Tryz.strings_Index (s.extract k s.size) ⟨#[42, 47]⟩ mm ww (by simp; omega) hc
  have e1 : (s.extract k s.size).data.toList = s.data.toList.drop k := by rw [Lib.extract_data, List.take_of_length_le (by simp)]
  rw [e1, show (⟨#[42, 47]⟩ : ByteArray).data.toList = [42, 47] from rfl] at IX
  rw [List.length_drop, show s.data.toList.length = s.size by simp] at hbi hbl
  generalize Lib.index (s.data.toList.drop k) [42, 47] = i at *
  generalize behindL [42, 47] (s.data.toList.drop k) = q at *
  obtain ⟨j, hj⟩ : ∃ j, j = k + q := ⟨_, rfl⟩
  rw [← hj]
  have H0 := Lib.hid h
  have IX := Lib.hid IX
  have hmm := Lib.hid hmm
  have hss : s.size ≤ s.size := Nat.le_refl _
  obtain ⟨_, c0, c1, f1, _⟩ := h
  by_cases hi : 0 ≤ i
  · rw [if_pos hi] at hbi
    have hjj : (k : Int) + (i + 2) = j := by simp at hbi; omega
    have hib : i ≤ 1000000000 := by simp at hbi; omega
    have HBI := Lib.hid hbi
    clear hbi hj
    go_enter Tryz.func83, Tryz.ntmps83
    go_wp2
    go_quiet ((go_at_call 145; exact Calls.quiet_of_same (IX.out _ (by exact hmm.out))))
    go_wp2
    first | refine bodyPost_ret (results_none rfl _ _ _) rfl ?_ | go_end0
    exact ⟨rfl, (H0.out.drewN _).set _, ((Kp.refl _ _).drewN _).set (by simp) _ _⟩
  rw [if_neg hi] at hbi
  have hjs : j = s.size := by omega
  subst hjs
  clear hbi hj
  go_enter Tryz.func83, Tryz.ntmps83
  go_wp2
  go_quiet ((go_at_call 145; exact Calls.quiet_of_same (IX.out _ (by exact hmm.out))))
  go_wp2
  first | refine bodyPost_ret (results_none rfl _ _ _) rfl ?_ | go_end0
  exact ⟨rfl, (H0.out.drewN _).set _, ((Kp.refl _ _).drewN _).set (by simp) _ _⟩
theorem quoted_fst (q : Int) (l R : List UInt8) (hR : runOf (inQ q) l = R) : quotedL q l = if R.length = l.length then (⟨5, R, 0⟩, R.length) else if atB l R.length 10 = true then (⟨6, R, 0⟩, R.length) else (⟨5, R, 0⟩, R.length + 1) := by
  unfold quotedL
  simp only
  rw [show (fun n : Int => decide (n ≠ q ∧ n ≠ 10)) = inQ q from rfl, hR]
def PutRes (g k : Nat) (s : ByteArray) (T : List Tok) (x : Tok × Nat) (w : World) (e : Ending) (w' : World) : Prop := e = .returned (.tuple #[]) ∧ LexAt w' g s (k + x.2) (T ++ [x.1]) ∧ Below g w w'
set_option maxHeartbeats 1000000 in
theorem quoted_any (g k : Nat) (q : Int) (s : ByteArray) (T : List Tok) (w : World) (hT : T.length ≤ 4294967296) (hs : s.size ≤ 1000000000) (hk : k ≤ s.size) (h : LexAt w g s k T) :
    Calls Tryz.prog 85 #[.pointer (some ⟨g, 0, none⟩), .int .u8 q] w (PutRes g k s T (quotedL q (s.data.toList.drop k)) w) := by
  have hlt := h.lt
  have hA := (Below.refl w.heap.size w).alloc (Nat.le_refl _) (.cells #[.int .u8 q] 5)
  have h1 := h.below hA
  have hc : (w.alloc (.cells #[.int .u8 q] 5)).cell? ⟨w.heap.size, 0, none⟩ = some (.int .u8 q) := by rw [World.cell?_alloc_at _ _ _ _ rfl]; rfl
  have RQ := run_quote q w.heap.size g k s T _ (by omega) hk h1 hc (by omega) (by simp)
  obtain ⟨R, hR⟩ : ∃ R, runOf (inQ q) (s.data.toList.drop k) = R := ⟨_, rfl⟩
  have E := quoted_fst q (s.data.toList.drop k) R hR
  rw [hR] at RQ
  have hRl := runOf_le (inQ q) (s.data.toList.drop k)
  rw [hR, List.length_drop, show s.data.toList.length = s.size by simp] at hRl
  rw [List.length_drop, show s.data.toList.length = s.size by simp] at E
  generalize quotedL q (s.data.toList.drop k) = X at *
  obtain ⟨j, hj⟩ : ∃ j, j = k + R.length := ⟨_, rfl⟩
  have hat : atB (s.data.toList.drop k) R.length 10 = decide (peekL (s.data.toList.drop j) 0 = 10) := by rw [atB_peek _ _ _ (by decide), peekL_drop, peekL_drop, hj, Nat.add_zero]
  rw [hat] at E
  have hjs : j ≤ s.size := by omega
  rw [← hj] at RQ
  have P0 := Lib.hid (fun ww hh => peekI 0 g j 0 s T ww rfl (by omega) hjs (by omega) hh)
  obtain ⟨z1, z2⟩ := peekL_bd (s.data.toList.drop j) 0
  have hend : ¬ j < s.size → peekL (s.data.toList.drop j) 0 = 0 := fun h => by rw [drop_end s j h]; rfl
  generalize peekL (s.data.toList.drop j) 0 = Z at *
  have RQ := Lib.hid RQ
  have HA := Lib.hid (hA.mono (Nat.le_of_lt hlt))
  have HE := Lib.hid E
  have HJ := Lib.hid hj
  have PU := fun (kd : Int) (jj : Nat) (ww : World) (hh : LexAt ww g s jj T) => put_any g jj s T kd 0 (bs R) ww hT hh
  rw [bs_data] at PU
  have PU := Lib.hid PU
  clear h hA h1 hc E hj hR hat
  by_cases hz : Z = 10
  · have hjl : j < s.size := by
      rcases Nat.lt_or_ge j s.size with h | h
      · exact h
      have := hend (by omega); omega
    have EX := Lib.hid (show X = (⟨6, R, 0⟩, R.length) by rw [HE.out, if_neg (by have := HJ.out; omega), hz, if_pos (by decide)])
    subst hz
    clear HE hend
    go_enter Tryz.func85, Tryz.ntmps85
    go_wp2_with fail
    refine RQ.out.mono ?_
    rintro e w1 ⟨rfl, hl1, hk1⟩
    have HL1 := Lib.hid hl1
    have HK1 := Lib.hid (HA.out.trans (hk1.below (by simp; omega) (by simp)))
    clear hl1 hk1
    go_wp2_with fail
    refine (P0.out _ HL1.out).mono ?_
    rintro e w2 ⟨rfl, hb2⟩
    have HL2 := Lib.hid (HL1.out.below hb2)
    have HK2 := Lib.hid (HK1.out.trans (hb2.mono (Nat.le_of_lt HL1.out.lt)))
    clear hb2
    go_wp2_with fail
    refine (PU.out _ _ _ HL2.out).mono ?_
    rintro e w3 ⟨rfl, hl3, hb3⟩
    go_wp2
    first | refine bodyPost_ret (results_none rfl _ _ _) rfl ?_ | go_end0
    exact ⟨rfl, by rw [EX.out, ← HJ.out]; exact hl3, HK2.out.trans hb3⟩
  have zz : (Z == 10) = false := by simpa using hz
  by_cases hjl : j < s.size
  · have EX := Lib.hid (show X = (⟨5, R, 0⟩, R.length + 1) by rw [HE.out, if_neg (by have := HJ.out; omega), decide_eq_false hz, if_neg (by decide)])
    have hd := decide_eq_true hjl
    clear HE hend hz
    go_enter Tryz.func85, Tryz.ntmps85
    go_wp2_with fail
    refine RQ.out.mono ?_
    rintro e w1 ⟨rfl, hl1, hk1⟩
    have HL1 := Lib.hid hl1
    have HK1 := Lib.hid (HA.out.trans (hk1.below (by simp; omega) (by simp)))
    clear hl1 hk1
    go_wp2_with fail
    refine (P0.out _ HL1.out).mono ?_
    rintro e w2 ⟨rfl, hb2⟩
    have HL2 := Lib.hid (HL1.out.below hb2)
    have HK2 := Lib.hid (HK1.out.trans (hb2.mono (Nat.le_of_lt HL1.out.lt)))
    clear hb2
    obtain ⟨_, c0, c1, f1, _⟩ := HL2.out
    go_wp2
    go_quiet (fail)
    go_wp2_with fail
    refine (PU.out _ (j + 1) _ ((HL2.out.drewN _).set (j + 1))).mono ?_
    rintro e w3 ⟨rfl, hl3, hb3⟩
    go_wp2
    first | refine bodyPost_ret (results_none rfl _ _ _) rfl ?_ | go_end0
    exact ⟨rfl, by rw [EX.out, show k + (R.length + 1) = j + 1 by have := HJ.out; omega]; exact hl3, ((below_drewN HK2.out _).setCell (Nat.le_refl _) _).trans hb3⟩
  have EX := Lib.hid (show X = (⟨5, R, 0⟩, R.length) by rw [HE.out, if_pos (by have := HJ.out; omega)])
  have hd := decide_eq_false hjl
  clear HE hend hz
  go_enter Tryz.func85, Tryz.ntmps85
  go_wp2_with fail
  refine RQ.out.mono ?_
  rintro e w1 ⟨rfl, hl1, hk1⟩
  have HL1 := Lib.hid hl1
  have HK1 := Lib.hid (HA.out.trans (hk1.below (by simp; omega) (by simp)))
  clear hl1 hk1
  go_wp2_with fail
  refine (P0.out _ HL1.out).mono ?_
  rintro e w2 ⟨rfl, hb2⟩
  have HL2 := Lib.hid (HL1.out.below hb2)
  have HK2 := Lib.hid (HK1.out.trans (hb2.mono (Nat.le_of_lt HL1.out.lt)))
  clear hb2
  obtain ⟨_, c0, c1, f1, _⟩ := HL2.out
  go_wp2
  go_quiet (fail)
  go_wp2_with fail
  refine (PU.out _ j _ (HL2.out.drewN _)).mono ?_
  rintro e w3 ⟨rfl, hl3, hb3⟩
  go_wp2
  first | refine bodyPost_ret (results_none rfl _ _ _) rfl ?_ | go_end0
  exact ⟨rfl, by rw [EX.out, ← HJ.out]; exact hl3, (below_drewN HK2.out _).trans hb3⟩
theorem named_any (g k : Nat) (s : ByteArray) (T : List Tok) (w : World) (hT : T.length ≤ 4294967296) (hs : s.size ≤ 1000000000) (hk : k ≤ s.size) (h : LexAt w g s k T) :
    Calls Tryz.prog 87 #[.pointer (some ⟨g, 0, none⟩)] w (PutRes g k s T (if hasL (s.data.toList.drop (k + (runL (s.data.toList.drop k)).length)) [40] = true then (⟨2, runL (s.data.toList.drop k), 0⟩, (runL (s.data.toList.drop k)).length + 1) else (⟨1, runL (s.data.toList.drop k), 0⟩, (runL (s.data.toList.drop k)).length)) w) := by
  have hlt := h.lt
  have RQ := run_goes g k s T w (by omega) hk h
  have hRl := runOf_le goesB (s.data.toList.drop k)
  rw [show runL (s.data.toList.drop k) = runOf goesB (s.data.toList.drop k) from rfl]
  generalize runOf goesB (s.data.toList.drop k) = R at *
  rw [List.length_drop, show s.data.toList.length = s.size by simp] at hRl
  obtain ⟨j, hj⟩ : ∃ j, j = k + R.length := ⟨_, rfl⟩
  rw [← hj, hasL_one _ 40 (by decide)]
  rw [← hj] at RQ
  have hjs : j ≤ s.size := by omega
  have P0 := Lib.hid (fun ww hh => peekI 0 g j 0 s T ww rfl (by omega) hjs (by omega) hh)
  obtain ⟨z1, z2⟩ := peekL_bd (s.data.toList.drop j) 0
  generalize peekL (s.data.toList.drop j) 0 = Z at *
  have RQ := Lib.hid RQ
  have HJ := Lib.hid hj
  have PU := fun (kd : Int) (jj : Nat) (ww : World) (hh : LexAt ww g s jj T) => put_any g jj s T kd 0 (bs R) ww hT hh
  rw [bs_data] at PU
  have PU := Lib.hid PU
  clear h hj
  by_cases hz : Z = 40
  · subst hz
    rw [if_pos (by decide)]
    go_enter Tryz.func87, Tryz.ntmps87
    go_wp2_with fail
    refine RQ.out.mono ?_
    rintro e w1 ⟨rfl, hl1, hk1⟩
    have HL1 := Lib.hid hl1
    have HK1 := Lib.hid (hk1.below (B := g) (Nat.le_of_lt hlt) (by simp))
    clear hl1 hk1
    go_wp2_with fail
    refine (P0.out _ HL1.out).mono ?_
    rintro e w2 ⟨rfl, hb2⟩
    have HL2 := Lib.hid (HL1.out.below hb2)
    have HK2 := Lib.hid (HK1.out.trans (hb2.mono (Nat.le_of_lt HL1.out.lt)))
    clear hb2
    obtain ⟨_, c0, c1, f1, _⟩ := HL2.out
    go_wp2_with fail
    refine (PU.out _ (j + 1) _ (HL2.out.set (j + 1))).mono ?_
    rintro e w3 ⟨rfl, hl3, hb3⟩
    go_wp2
    first | refine bodyPost_ret (results_none rfl _ _ _) rfl ?_ | go_end0
    exact ⟨rfl, by rw [show k + (R.length + 1) = j + 1 by have := HJ.out; omega]; exact hl3, (HK2.out.setCell (Nat.le_refl _) _).trans hb3⟩
  have zz : (Z == 40) = false := by simpa using hz
  rw [if_neg (by rw [show bn 40 = 40 from rfl, decide_eq_false hz]; decide)]
  clear hz
  go_enter Tryz.func87, Tryz.ntmps87
  go_wp2_with fail
  refine RQ.out.mono ?_
  rintro e w1 ⟨rfl, hl1, hk1⟩
  have HL1 := Lib.hid hl1
  have HK1 := Lib.hid (hk1.below (B := g) (Nat.le_of_lt hlt) (by simp))
  clear hl1 hk1
  go_wp2_with fail
  refine (P0.out _ HL1.out).mono ?_
  rintro e w2 ⟨rfl, hb2⟩
  have HL2 := Lib.hid (HL1.out.below hb2)
  have HK2 := Lib.hid (HK1.out.trans (hb2.mono (Nat.le_of_lt HL1.out.lt)))
  clear hb2
  go_wp2_with fail
  refine (PU.out _ j _ HL2.out).mono ?_
  rintro e w3 ⟨rfl, hl3, hb3⟩
  go_wp2
  first | refine bodyPost_ret (results_none rfl _ _ _) rfl ?_ | go_end0
  exact ⟨rfl, by rw [← HJ.out]; exact hl3, HK2.out.trans hb3⟩
end Go.Proofs.YtabhokgefpilkaaGreatDoor
