/-
  Walks of layer 5: the program's lexer: a number with what stands behind it.
-/
import Derived.Test.YtabhokgefpilkaaGreatDoorZ36
import Derived.Test.YtabhokgefpilkaaGreatDoorZ37
set_option linter.all false
namespace Go.Proofs.YtabhokgefpilkaaGreatDoor
open Go.RowKit Wsc
set_option maxHeartbeats 1000000 in
theorem measure_any (g k : Nat) (s : ByteArray) (T : List Tok) (w : World) (hT : T.length ≤ 4294967296) (hs : s.size ≤ 1000000000) (hk : k ≤ s.size) (h : LexAt w g s k T) (hp : pnumB (s.data.toList.drop k) = true) :
    Calls Tryz.prog 86 #[.pointer (some ⟨g, 0, none⟩)] w (PutRes g k s T (measureL (s.data.toList.drop k) (numberL (s.data.toList.drop k))) w) := by
  have hlt := h.lt
  have N := numeral_any g k s T w (by omega) hk h hp
  unfold NumRes5 at N
  have hnl := numberL_le (s.data.toList.drop k)
  rw [List.length_drop, show s.data.toList.length = s.size by simp] at hnl
  unfold measureL
  generalize worthL ((s.data.toList.drop k).take (numberL (s.data.toList.drop k))) = V at *
  obtain ⟨q, hq⟩ : ∃ q, q = k + numberL (s.data.toList.drop k) := ⟨_, rfl⟩
  rw [atB_peek _ _ _ (by decide), peekL_drop, ← hq, List.drop_drop, ← hq]
  rw [← hq] at N
  have hqs : q ≤ s.size := by omega
  have e0 : peekL s.data.toList q = peekL (s.data.toList.drop q) 0 := by rw [peekL_drop, Nat.add_zero]
  rw [e0]
  have P0 := Lib.hid (fun ww hh => peekI 0 g q 0 s T ww rfl (by omega) hqs (by omega) hh)
  have NM := fun ww hh => lexName_any 0 g q 0 s T ww rfl (by omega) hqs (by omega) hh
  rw [Nat.add_zero] at NM
  have RG := fun ww hh => run_goes g q s T ww (by omega) hqs hh
  rw [show runL (s.data.toList.drop q) = runOf goesB (s.data.toList.drop q) from rfl]
  generalize runOf goesB (s.data.toList.drop q) = R at *
  obtain ⟨z1, z2⟩ := peekL_bd (s.data.toList.drop q) 0
  generalize peekL (s.data.toList.drop q) 0 = Z at *
  generalize numberL (s.data.toList.drop k) = nl at *
  generalize startsL (s.data.toList.drop q) = st at *
  have PU := Lib.hid (fun (kd : Int) (jj : Nat) (tx : ByteArray) (ww : World) (hh : LexAt ww g s jj T) => put_any g jj s T kd V tx ww hT hh)
  have N := Lib.hid N
  have NM := Lib.hid NM
  have RG := Lib.hid RG
  have HQ := Lib.hid hq
  clear h hp hq e0
  by_cases hz : Z = 37
  · subst hz
    rw [if_pos (by decide)]
    go_enter Tryz.func86, Tryz.ntmps86
    go_wp2_with fail
    refine N.out.mono ?_
    rintro e w1 ⟨rfl, hl1, hk1⟩
    have HL1 := Lib.hid hl1
    have HK1 := Lib.hid (hk1.below (B := g) (Nat.le_of_lt hlt) (by simp))
    clear hl1 hk1
    go_wp2_with fail
    refine (P0.out _ HL1.out).mono ?_
    rintro e w2 ⟨rfl, hb2⟩
    have HL2 := Lib.hid (HL1.out.below hb2)
    have HK2 := Lib.hid (HK1.out.trans (hb2.mono (Nat.le_of_lt HL1.out.lt)))
    clear hb2
    obtain ⟨_, c0, c1, f1, _⟩ := HL2.out
    go_wp2_with fail
    refine (PU.out _ (q + 1) _ _ (HL2.out.set (q + 1))).mono ?_
    rintro e w3 ⟨rfl, hl3, hb3⟩
    go_wp2
    first | refine bodyPost_ret (results_none rfl _ _ _) rfl ?_ | go_end0
    exact ⟨rfl, by rw [show k + (nl + 1) = q + 1 by have := HQ.out; omega]; exact hl3, (HK2.out.setCell (Nat.le_refl _) _).trans hb3⟩
  have zz : (Z == 37) = false := by simpa using hz
  rw [decide_eq_false hz, if_neg (by decide)]
  clear hz
  cases st
  · rw [if_neg (by decide)]
    go_enter Tryz.func86, Tryz.ntmps86
    go_wp2_with fail
    refine N.out.mono ?_
    rintro e w1 ⟨rfl, hl1, hk1⟩
    have HL1 := Lib.hid hl1
    have HK1 := Lib.hid (hk1.below (B := g) (Nat.le_of_lt hlt) (by simp))
    clear hl1 hk1
    go_wp2_with fail
    refine (P0.out _ HL1.out).mono ?_
    rintro e w2 ⟨rfl, hb2⟩
    have HL2 := Lib.hid (HL1.out.below hb2)
    have HK2 := Lib.hid (HK1.out.trans (hb2.mono (Nat.le_of_lt HL1.out.lt)))
    clear hb2
    go_wp2_with fail
    refine (NM.out _ HL2.out).mono ?_
    rintro e w3 ⟨rfl, hb3⟩
    have HL3 := Lib.hid (HL2.out.below hb3)
    have HK3 := Lib.hid (HK2.out.trans (hb3.mono (Nat.le_of_lt HL2.out.lt)))
    clear hb3
    go_wp2_with fail
    refine (PU.out _ q _ _ HL3.out).mono ?_
    rintro e w4 ⟨rfl, hl4, hb4⟩
    go_wp2
    first | refine bodyPost_ret (results_none rfl _ _ _) rfl ?_ | go_end0
    exact ⟨rfl, by rw [← HQ.out]; exact hl4, HK3.out.trans hb4⟩
  rw [if_pos rfl]
  go_enter Tryz.func86, Tryz.ntmps86
  go_wp2_with fail
  refine N.out.mono ?_
  rintro e w1 ⟨rfl, hl1, hk1⟩
  have HL1 := Lib.hid hl1
  have HK1 := Lib.hid (hk1.below (B := g) (Nat.le_of_lt hlt) (by simp))
  clear hl1 hk1
  go_wp2_with fail
  refine (P0.out _ HL1.out).mono ?_
  rintro e w2 ⟨rfl, hb2⟩
  have HL2 := Lib.hid (HL1.out.below hb2)
  have HK2 := Lib.hid (HK1.out.trans (hb2.mono (Nat.le_of_lt HL1.out.lt)))
  clear hb2
  go_wp2_with fail
  refine (NM.out _ HL2.out).mono ?_
  rintro e w3 ⟨rfl, hb3⟩
  have HL3 := Lib.hid (HL2.out.below hb3)
  have HK3 := Lib.hid (HK2.out.trans (hb3.mono (Nat.le_of_lt HL2.out.lt)))
  clear hb3
  go_wp2_with fail
  refine (RG.out _ HL3.out).mono ?_
  rintro e w4 ⟨rfl, hl4, hk4⟩
  have HL4 := Lib.hid hl4
  have HK4 := Lib.hid (HK3.out.trans (hk4.below (B := g) (Nat.le_of_lt HL3.out.lt) (by simp)))
  clear hl4 hk4
  go_wp2_with fail
  refine (PU.out _ _ (bs R) _ HL4.out).mono ?_
  rintro e w5 ⟨rfl, hl5, hb5⟩
  rw [bs_data] at hl5
  go_wp2
  first | refine bodyPost_ret (results_none rfl _ _ _) rfl ?_ | go_end0
  exact ⟨rfl, by rw [show k + (nl + R.length) = q + R.length by have := HQ.out; omega]; exact hl5, HK4.out.trans hb5⟩
end Go.Proofs.YtabhokgefpilkaaGreatDoor
