/-
  The walk of ref01.Print: a number's text.
-/
import Derived.Test.YthlkgkjkjpboiaaDoorWhole
import Derived.Test.YthlkgkjkjpboiaaDoorFix
namespace Go.Proofs.YthlkgkjkjpboiaaDoor
open Go.RowKit Wsc
theorem fracF_step (f p k : Nat) (h : ¬ p = 0) : fracF (f + 1) p k = wholeL (p / k) ++ fracF f (p % k) (k / 10) := by rw [fracF, if_neg h]
theorem fracF_zero (f k : Nat) : fracF f 0 k = [] := by cases f <;> simp [fracF]
theorem pos_len (m : Nat) (h : m ≤ 1073741824) : (posL m).length ≤ 14 := by
  unfold posL
  rw [List.length_append]
  have h1 := whole_len (m / 1000) (by omega)
  split
  · simp; omega
  · rename_i h0
    rw [frac_eq _ (by omega) h0]
    simp only [List.length_cons]
    (repeat' split) <;> simp <;> omega
set_option maxRecDepth 100000 in
set_option maxHeartbeats 1000000 in
theorem printPos_any (n : Int) (m : Nat) (w : World) (hm : hold n = m) :
    Calls Tryd.prog 63 #[.int .i64 n] w fun e w' => e = .returned (.string (bs (posL m))) ∧ Below w.heap.size w w' := by
  have hb := hold_bd n
  have hmb : m ≤ 1073741824 := by omega
  have HO := refHold_any n w
  rw [hm] at HO
  have HO2 := Lib.hid HO
  have hd : (m : Int).tdiv 1000 = ((m / 1000 : Nat) : Int) := by rw [Int.tdiv_eq_ediv_of_nonneg (by omega)]; omega
  have hr : (m : Int).tmod 1000 = ((m % 1000 : Nat) : Int) := by rw [Int.tmod_eq_emod_of_nonneg (by omega)]; omega
  have hr' : (m : Int) % 1000 = ((m % 1000 : Nat) : Int) := by omega
  have hp3 : m % 1000 < 1000 := by omega
  have hq3 : m / 1000 ≤ 1073741 := by omega
  have W1 := fun ww => whole_any (m / 1000) (m / 1000) ww (Nat.le_refl _) (by omega)
  have hneg : ((m : Int) < 0) = False := by simp
  by_cases h0 : m % 1000 = 0
  · have E : posL m = wholeL (m / 1000) := by unfold posL; rw [if_pos h0, List.append_nil]
    rw [E]
    have hr0 : (m : Int) % 1000 = 0 := by omega
    have hr1 : (m : Int).tmod 1000 = 0 := by rw [hr, h0]; rfl
    clear hr hr' h0 hp3
    generalize m / 1000 = q at *
    have W2 := Lib.hid W1
    clear W1 HO hm hb E
    go_enter Tryd.func63, Tryd.ntmps63
    go_wp2_with fail
    refine HO2.out.mono ?_
    rintro e w' ⟨rfl, rfl⟩
    go_wp2_with fail
    refine (W2.out _).mono ?_
    rintro e w1 ⟨rfl, hb⟩
    go_wp2
    go_ret
    exact ⟨rfl, hb⟩
  · have E : posL m = (wholeL (m / 1000) ++ [46]) ++ fracF 3 (m % 1000) 100 := by unfold posL; rw [if_neg h0]; simp [fracL]
    have hL := pos_len m hmb
    have hne : (((m % 1000 : Nat) : Int) == 0) = false := by simp; omega
    rw [E] at *
    have hwl := whole_len (m / 1000) (by omega)
    generalize m / 1000 = q at *
    generalize m % 1000 = p at *
    have W2 := Lib.hid W1
    obtain ⟨T, hT⟩ : ∃ T, T = (wholeL q ++ [46]) ++ fracF 3 p 100 := ⟨_, rfl⟩
    rw [← hT] at hL ⊢
    have HT := Lib.hid hT.symm
    clear hT
    clear W1 HO hm hb E
    have hsz : ¬ (9223372036854775807 < (bs (wholeL q)).size + 1) := by rw [bs_size]; omega
    have hTl : T.length ≤ 14 := hL
    have hp0 := Lib.hid h0
    clear h0 hL
    go_enter Tryd.func63, Tryd.ntmps63
    go_wp2_with fail
    refine HO2.out.mono ?_
    rintro e w' ⟨rfl, rfl⟩
    go_wp2_with fail
    refine (W2.out _).mono ?_
    rintro e w1 ⟨rfl, hb⟩
    go_wp2
    go_loopw [4, 5, 6] (fun s v c wr => ∃ (f a k : Nat) (x : List UInt8), s = .string (bs x) ∧ v = .int .i64 a ∧ c = .int .i64 k ∧ k ≤ 100 ∧ Hid ((f = 3 ∧ k = 100 ∨ f = 2 ∧ k = 10 ∨ f = 1 ∧ k = 1 ∨ f = 0 ∧ k = 0) ∧ (a < 10 * k ∨ a = 0)) ∧ a < 1000 ∧ x.length ≤ 14 ∧ Hid (x ++ fracF f a k = T) ∧ Below w.heap.size w wr)
      (fun _ _ c _ => (intOf c).toNat)
    case atStart =>
      refine ⟨3, p, 100, wholeL q ++ [46], ?_, rfl, rfl, Nat.le_refl _, Lib.hid ⟨Or.inl ⟨rfl, rfl⟩, Or.inl (by omega)⟩, hp3, ?_, HT, hb⟩
      · rw [← bs_append]; rfl
      · have := hTl; rw [← HT.out, List.length_append] at this; omega
    case round =>
      obtain ⟨f, a, k, x, rfl, rfl, rfl, hk, hfk, ha, hx, HX, hbl⟩ := hrel
      by_cases ha0 : a = 0
      · have e : x = T := by rw [← HX.out, ha0, fracF_zero, List.append_nil]
        have HE := Lib.hid e
        subst ha0
        clear e
        go_wp2
        go_ret
        exact ⟨by rw [← HE.out]; rfl, hbl⟩
      · obtain ⟨g, rfl⟩ : ∃ g, f = g + 1 := ⟨f - 1, by have := hfk.out; omega⟩
        have hk0 : 0 < k := by have := hfk.out; omega
        have hx2 := HX.out
        rw [fracF_step _ _ _ ha0, ← List.append_assoc] at hx2
        have HX2 := Lib.hid hx2
        have hxl : (x ++ wholeL (a / k)).length ≤ 14 := by have := hTl; rw [← hx2, List.length_append] at this; omega
        have hfk2 := Lib.hid (show (g = 3 ∧ k / 10 = 100 ∨ g = 2 ∧ k / 10 = 10 ∨ g = 1 ∧ k / 10 = 1 ∨ g = 0 ∧ k / 10 = 0) ∧ (a % k < 10 * (k / 10) ∨ a % k = 0) by
          have h := hfk.out
          have hm := Nat.mod_lt a hk0
          rcases h.1 with ⟨h1, h2⟩ | ⟨h1, h2⟩ | ⟨h1, h2⟩ | ⟨h1, h2⟩
          · subst h2; omega
          · subst h2; omega
          · subst h2; omega
          · omega)
        have hd1 : (a : Int).tdiv (k : Int) = ((a / k : Nat) : Int) := by rw [Int.tdiv_eq_ediv_of_nonneg (by omega)]; rfl
        have hd2 : (a : Int) / (k : Int) = ((a / k : Nat) : Int) := rfl
        have hr1 : (a : Int).tmod (k : Int) = ((a % k : Nat) : Int) := by rw [Int.tmod_eq_emod_of_nonneg (by omega)]; rfl
        have hr2 : (a : Int) % (k : Int) = ((a % k : Nat) : Int) := rfl
        have hk1 : (k : Int).tdiv 10 = ((k / 10 : Nat) : Int) := by rw [Int.tdiv_eq_ediv_of_nonneg (by omega)]; rfl
        have hk2 : (k : Int) / 10 = ((k / 10 : Nat) : Int) := rfl
        have hkz : ((k : Int) == 0) = false := by simp; omega
        have hdb : a / k ≤ a := Nat.div_le_self _ _
        have hmb2 : a % k ≤ a := Nat.mod_le _ _
        have hkb : k / 10 < k := by omega
        have W3 := Lib.hid (fun ww => whole_any (a / k) (a / k) ww (Nat.le_refl _) (by omega))
        have hsz2 : ¬ (9223372036854775807 < (bs x).size + (bs (wholeL (a / k))).size) := by rw [bs_size, bs_size]; rw [List.length_append] at hxl; omega
        clear hfk HX hx2 hsz
        generalize a / k = d at *
        generalize a % k = r at *
        generalize k / 10 = k' at *
        go_wp2_with fail
        refine (W3.out _).mono ?_
        rintro e w2 ⟨rfl, hb2⟩
        go_wp2
        go_roundw
        case rel => exact ⟨g, r, k', x ++ wholeL d, by rw [bs_append], rfl, rfl, by omega, hfk2, by omega, hxl, HX2, hbl.trans (hb2.mono hbl.size)⟩
        case measure => simp [intOf]; omega
theorem print_any (n : Int) (w : World) :
    Calls Tryd.prog 63 #[.int .i64 n] w fun e w' => e = .returned (.string (bs (printN n))) ∧ Below w.heap.size w w' := by
  have hb := hold_bd n
  unfold printN
  by_cases h0 : hold n < 0
  · rw [if_pos h0]
    have HO := refHold_any n w
    have hh : hold (-(hold n)) = ((-(hold n)).toNat : Nat) := by rw [hold_id _ (by omega)]; omega
    have P := fun ww => printPos_any (-(hold n)) (-(hold n)).toNat ww hh
    have hl := pos_len (-(hold n)).toNat (by omega)
    generalize posL (-(hold n)).toNat = T at *
    generalize hold n = v at *
    have HO2 := Lib.hid HO
    have P2 := Lib.hid P
    have hsz : ¬ (9223372036854775807 < 1 + (bs T).size) := by rw [bs_size]; omega
    clear HO P hh hl
    go_enter Tryd.func63, Tryd.ntmps63
    go_wp2_with fail
    refine HO2.out.mono ?_
    rintro e w' ⟨rfl, rfl⟩
    go_wp2_with fail
    refine (P2.out _).mono ?_
    rintro e w1 ⟨rfl, hb1⟩
    go_wp2
    go_ret
    exact ⟨by rw [show (45 :: T) = [45] ++ T from rfl, ← bs_append]; rfl, hb1⟩
  · rw [if_neg h0]
    exact printPos_any n (hold n).toNat w (by omega)
end Go.Proofs.YthlkgkjkjpboiaaDoor
