/-
  Texts of the proof, merged: Walks of the document's layers 7 and 8: may a test, a query's node be? Walks of the document's layer 8: may a query's no
-/
import Derived.Test.YtabhokgefpilkaaGreatDoorZ2
import Derived.Test.YtabhokgefpilkaaGreatDoorZ13
import Derived.Test.YtabhokgefpilkaaGreatDoorZ14
import Derived.Test.YtabhokgefpilkaaGreatDoorZ15
import Derived.Test.YtabhokgefpilkaaGreatDoorZ16
set_option linter.all false
set_option maxHeartbeats 4000000
set_option maxRecDepth 100000
namespace Go.Proofs.YtabhokgefpilkaaGreatDoor
open Go.RowKit Wsc
theorem refNameC (x : List UInt8) (h : x.length ≤ 9223372036854775807) : ∀ ww, Calls Tryz.prog 66 #[.string (bs x)] ww fun e w' => e = .returned (.bool (nameB x)) ∧ ww = w' := fun ww => by
  have := refName_any (bs x) ww (by rw [bs_size]; exact h)
  rwa [bs_data] at this
theorem refTest_any (tn tv : List UInt8) (te : Bool) (w : World) (hn : tn.length ≤ 9223372036854775807) (ht : tv.length ≤ 9223372036854775807) :
    Calls Tryz.prog 191 #[Value.agg #[Value.string (bs tn), Value.bool te, Value.string (bs tv)]] w fun e w' => e = .returned (.bool (testB ⟨tn, te, tv⟩)) ∧ Below w.heap.size w w' := by
  have HB := Lib.hid ((Below.refl w.heap.size w).alloc (Nat.le_refl _) (.cells #[Value.string (bs tn), Value.bool te, Value.string (bs tv)] 153))
  have HX0 := Lib.hid (BlkL.new w 153 [Value.string (bs tn), Value.bool te, Value.string (bs tv)])
  cases h_N : nameB tn
  · have C_N := Lib.hid (by have q := refNameC tn hn; rw [h_N] at q; exact q)
    have HF : Hid ((testB ⟨tn, te, tv⟩) = false) := Lib.hid (by unfold testB; simp [h_N])
    go_enter Tryz.func191, Tryz.ntmps191; go_wp2_with (first | (go_at_call_of 66 (Value.string (bs tn)); refine (C_N.out _).mono ?_; rintro e w9 ⟨rfl, rfl⟩)); go_ret; exact fb HF HB
  have C_N := Lib.hid (by have q := refNameC tn hn; rw [h_N] at q; exact q)
  cases h_T : textB tv
  · have C_T := Lib.hid (by have q := (fun ww => refText_any tv ww ht); rw [h_T] at q; exact q)
    have HF : Hid ((testB ⟨tn, te, tv⟩) = false) := Lib.hid (by unfold testB; simp [h_N, h_T])
    go_enter Tryz.func191, Tryz.ntmps191; go_wp2_with (first | (go_at_call_of 66 (Value.string (bs tn)); refine (C_N.out _).mono ?_; rintro e w9 ⟨rfl, rfl⟩) | (go_at_call_of 229 (Value.string (bs tv)); refine (C_T.out _).mono ?_; rintro e w9 ⟨rfl, rfl⟩)); go_ret; exact fb HF HB
  have C_T := Lib.hid (by have q := (fun ww => refText_any tv ww ht); rw [h_T] at q; exact q)
  cases te
  · by_cases h_V : tv = []
    · have d_V : decide (tv = []) = true := decide_eq_true h_V; obtain ⟨x1_V, x2_V, x3_V⟩ := empty_of7 tv h_V; clear h_V
      have HF : Hid ((testB ⟨tn, false, tv⟩) = true) := Lib.hid (by unfold testB; simp [h_N, h_T, d_V])
      go_enter Tryz.func191, Tryz.ntmps191; go_wp2_with (first | (go_at_call_of 66 (Value.string (bs tn)); refine (C_N.out _).mono ?_; rintro e w9 ⟨rfl, rfl⟩) | (go_at_call_of 229 (Value.string (bs tv)); refine (C_T.out _).mono ?_; rintro e w9 ⟨rfl, rfl⟩)); go_ret; exact fb HF HB
    have d_V : decide (tv = []) = false := decide_eq_false h_V; obtain ⟨x1_V, x2_V, x3_V⟩ := nonempty_of7 tv h_V; clear h_V
    have HF : Hid ((testB ⟨tn, false, tv⟩) = false) := Lib.hid (by unfold testB; simp [h_N, h_T, d_V])
    go_enter Tryz.func191, Tryz.ntmps191; go_wp2_with (first | (go_at_call_of 66 (Value.string (bs tn)); refine (C_N.out _).mono ?_; rintro e w9 ⟨rfl, rfl⟩) | (go_at_call_of 229 (Value.string (bs tv)); refine (C_T.out _).mono ?_; rintro e w9 ⟨rfl, rfl⟩)); go_ret; exact fb HF HB
  have HF : Hid ((testB ⟨tn, true, tv⟩) = true) := Lib.hid (by unfold testB; simp [h_N, h_T])
  go_enter Tryz.func191, Tryz.ntmps191; go_wp2_with (first | (go_at_call_of 66 (Value.string (bs tn)); refine (C_N.out _).mono ?_; rintro e w9 ⟨rfl, rfl⟩) | (go_at_call_of 229 (Value.string (bs tv)); refine (C_T.out _).mono ?_; rintro e w9 ⟨rfl, rfl⟩)); go_ret; exact fb HF HB
theorem refBound_any (f bo bn bd : Int) (w : World) :
    Calls Tryz.prog 192 #[Value.int .i64 f, Value.agg #[Value.int .i64 bo, Value.int .i64 bn, Value.int .i64 bd]] w fun e w' => e = .returned (.bool (rBound f ⟨bo, bn, bd⟩)) ∧ Below w.heap.size w w' := by
  have HB := Lib.hid ((Below.refl w.heap.size w).alloc (Nat.le_refl _) (.cells #[Value.int .i64 bo, Value.int .i64 bn, Value.int .i64 bd] 89))
  have HX0 := Lib.hid (BlkL.new w 89 [Value.int .i64 bo, Value.int .i64 bn, Value.int .i64 bd])
  by_cases h_O1 : bo < 1
  · obtain ⟨d_O1, H_O1⟩ := yesP h_O1; clear h_O1
    have HF : Hid ((rBound f ⟨bo, bn, bd⟩) = false) := Lib.hid (by unfold rBound; simp only; simp [H_O1.out])
    go_enter Tryz.func192, Tryz.ntmps192
    go_wp2_with fail; go_ret; exact fb HF HB
  obtain ⟨d_O1, H_O1⟩ := noP h_O1; clear h_O1
  by_cases h_O5 : 5 < bo
  · obtain ⟨d_O5, H_O5⟩ := yesP h_O5; clear h_O5
    have HF : Hid ((rBound f ⟨bo, bn, bd⟩) = false) := Lib.hid (by unfold rBound; simp only; simp [H_O1.out, H_O5.out])
    go_enter Tryz.func192, Tryz.ntmps192
    go_wp2_with fail; go_ret; exact fb HF HB
  obtain ⟨d_O5, H_O5⟩ := noP h_O5; clear h_O5
  by_cases h_F6 : f = 6
  · obtain ⟨d_F6, e_F6, n_F6, H_F6⟩ := yesE h_F6; clear h_F6
    by_cases h_O3 : bo = 3
    · obtain ⟨d_O3, e_O3, n_O3, H_O3⟩ := yesE h_O3; clear h_O3
      by_cases h_D0 : bd = 0
      · obtain ⟨d_D0, e_D0, n_D0, H_D0⟩ := yesE h_D0; clear h_D0
        by_cases h_N1 : bn = 1
        · obtain ⟨d_N1, e_N1, n_N1, H_N1⟩ := yesE h_N1; clear h_N1
          have HF : Hid ((rBound f ⟨bo, bn, bd⟩) = true) := Lib.hid (by unfold rBound; simp only; simp [H_O1.out, H_O5.out, H_F6.out, H_O3.out, H_D0.out, H_N1.out])
          go_enter Tryz.func192, Tryz.ntmps192
          go_wp2_with fail; go_ret; exact fb HF HB
        obtain ⟨d_N1, e_N1, n_N1, H_N1⟩ := noE h_N1; clear h_N1
        by_cases h_N2 : bn = 2
        · obtain ⟨d_N2, e_N2, n_N2, H_N2⟩ := yesE h_N2; clear h_N2
          have HF : Hid ((rBound f ⟨bo, bn, bd⟩) = true) := Lib.hid (by unfold rBound; simp only; simp [H_O1.out, H_O5.out, H_F6.out, H_O3.out, H_D0.out, H_N1.out, H_N2.out])
          go_enter Tryz.func192, Tryz.ntmps192
          go_wp2_with fail; go_ret; exact fb HF HB
        obtain ⟨d_N2, e_N2, n_N2, H_N2⟩ := noE h_N2; clear h_N2
        have HF : Hid ((rBound f ⟨bo, bn, bd⟩) = false) := Lib.hid (by unfold rBound; simp only; simp [H_O1.out, H_O5.out, H_F6.out, H_O3.out, H_D0.out, H_N1.out, H_N2.out])
        go_enter Tryz.func192, Tryz.ntmps192
        go_wp2_with fail; go_ret; exact fb HF HB
      obtain ⟨d_D0, e_D0, n_D0, H_D0⟩ := noE h_D0; clear h_D0
      have HF : Hid ((rBound f ⟨bo, bn, bd⟩) = false) := Lib.hid (by unfold rBound; simp only; simp [H_O1.out, H_O5.out, H_F6.out, H_O3.out, H_D0.out])
      go_enter Tryz.func192, Tryz.ntmps192
      go_wp2_with fail; go_ret; exact fb HF HB
    obtain ⟨d_O3, e_O3, n_O3, H_O3⟩ := noE h_O3; clear h_O3
    have HF : Hid ((rBound f ⟨bo, bn, bd⟩) = false) := Lib.hid (by unfold rBound; simp only; simp [H_O1.out, H_O5.out, H_F6.out, H_O3.out])
    go_enter Tryz.func192, Tryz.ntmps192
    go_wp2_with fail; go_ret; exact fb HF HB
  obtain ⟨d_F6, e_F6, n_F6, H_F6⟩ := noE h_F6; clear h_F6
  by_cases h_F5 : f = 5
  · obtain ⟨d_F5, e_F5, n_F5, H_F5⟩ := yesE h_F5; clear h_F5
    by_cases h_A1 : 1 ≤ bn
    · obtain ⟨d_A1, H_A1⟩ := yesP h_A1; clear h_A1
      by_cases h_A3 : 1 ≤ bd
      · obtain ⟨d_A3, H_A3⟩ := yesP h_A3; clear h_A3
        by_cases h_A2 : bn ≤ 1073741824
        · obtain ⟨d_A2, H_A2⟩ := yesP h_A2; clear h_A2
          by_cases h_A4 : bd ≤ 1073741824
          · obtain ⟨d_A4, H_A4⟩ := yesP h_A4; clear h_A4
            have HF : Hid ((rBound f ⟨bo, bn, bd⟩) = true) := Lib.hid (by unfold rBound; simp only; simp [H_O1.out, H_O5.out, H_F6.out, H_F5.out, H_A1.out, H_A3.out, H_A2.out, H_A4.out])
            go_enter Tryz.func192, Tryz.ntmps192
            go_wp2_with fail; go_ret; exact fb HF HB
          obtain ⟨d_A4, H_A4⟩ := noP h_A4; clear h_A4
          have HF : Hid ((rBound f ⟨bo, bn, bd⟩) = false) := Lib.hid (by unfold rBound; simp only; simp [H_O1.out, H_O5.out, H_F6.out, H_F5.out, H_A1.out, H_A3.out, H_A2.out, H_A4.out])
          go_enter Tryz.func192, Tryz.ntmps192
          go_wp2_with fail; go_ret; exact fb HF HB
        obtain ⟨d_A2, H_A2⟩ := noP h_A2; clear h_A2
        have HF : Hid ((rBound f ⟨bo, bn, bd⟩) = false) := Lib.hid (by unfold rBound; simp only; simp [H_O1.out, H_O5.out, H_F6.out, H_F5.out, H_A1.out, H_A3.out, H_A2.out])
        go_enter Tryz.func192, Tryz.ntmps192
        go_wp2_with fail; go_ret; exact fb HF HB
      obtain ⟨d_A3, H_A3⟩ := noP h_A3; clear h_A3
      have HF : Hid ((rBound f ⟨bo, bn, bd⟩) = false) := Lib.hid (by unfold rBound; simp only; simp [H_O1.out, H_O5.out, H_F6.out, H_F5.out, H_A1.out, H_A3.out])
      go_enter Tryz.func192, Tryz.ntmps192
      go_wp2_with fail; go_ret; exact fb HF HB
    obtain ⟨d_A1, H_A1⟩ := noP h_A1; clear h_A1
    have HF : Hid ((rBound f ⟨bo, bn, bd⟩) = false) := Lib.hid (by unfold rBound; simp only; simp [H_O1.out, H_O5.out, H_F6.out, H_F5.out, H_A1.out])
    go_enter Tryz.func192, Tryz.ntmps192
    go_wp2_with fail; go_ret; exact fb HF HB
  obtain ⟨d_F5, e_F5, n_F5, H_F5⟩ := noE h_F5; clear h_F5
  by_cases h_D0 : bd = 0
  · obtain ⟨d_D0, e_D0, n_D0, H_D0⟩ := yesE h_D0; clear h_D0
    by_cases h_NH : hold bn = bn
    · obtain ⟨d_NH, e_NH, n_NH, H_NH⟩ := yesE h_NH; clear h_NH
      have HF : Hid ((rBound f ⟨bo, bn, bd⟩) = true) := Lib.hid (by unfold rBound; simp only; simp [H_O1.out, H_O5.out, H_F6.out, H_F5.out, H_D0.out, H_NH.out])
      go_enter Tryz.func192, Tryz.ntmps192
      go_wp2_with fail
      have HO := Lib.hid (fun ww => refHold_any bn ww)
      generalize hold bn = hb at *
      go_quiet ((go_at_call 193; exact quiet_q (HO.out _)))
      have HB := Lib.hid (below_drewN HB.out nq)
      go_wp2_with fail; go_ret; exact fb HF HB
    obtain ⟨d_NH, e_NH, n_NH, H_NH⟩ := noE h_NH; clear h_NH
    have HF : Hid ((rBound f ⟨bo, bn, bd⟩) = false) := Lib.hid (by unfold rBound; simp only; simp [H_O1.out, H_O5.out, H_F6.out, H_F5.out, H_D0.out, H_NH.out])
    go_enter Tryz.func192, Tryz.ntmps192
    go_wp2_with fail
    have HO := Lib.hid (fun ww => refHold_any bn ww)
    generalize hold bn = hb at *
    go_quiet ((go_at_call 193; exact quiet_q (HO.out _)))
    have HB := Lib.hid (below_drewN HB.out nq)
    go_wp2_with fail; go_ret; exact fb HF HB
  obtain ⟨d_D0, e_D0, n_D0, H_D0⟩ := noE h_D0; clear h_D0
  have HF : Hid ((rBound f ⟨bo, bn, bd⟩) = false) := Lib.hid (by unfold rBound; simp only; simp [H_O1.out, H_O5.out, H_F6.out, H_F5.out, H_D0.out])
  go_enter Tryz.func192, Tryz.ntmps192
  go_wp2_with fail
  have HO := Lib.hid (fun ww => refHold_any bn ww)
  generalize hold bn = hb at *
  go_quiet ((go_at_call 193; exact quiet_q (HO.out _)))
  have HB := Lib.hid (below_drewN HB.out nq)
  go_wp2_with fail; go_ret; exact fb HF HB
theorem refFeat_any (k ct f lo ln ld ho hn hd : Int) (w : World) :
    Calls Tryz.prog 140 #[Value.agg #[Value.int .i64 k, Value.int .i64 ct, Value.int .i64 f, Value.int .i64 lo, Value.int .i64 ln, Value.int .i64 ld, Value.int .i64 ho, Value.int .i64 hn, Value.int .i64 hd]] w fun e w' => e = .returned (.bool (rFeat ⟨k, ct, f, ⟨lo, ln, ld⟩, ⟨ho, hn, hd⟩⟩)) ∧ Below w.heap.size w w' := by
  have HB0 := Lib.hid ((Below.refl w.heap.size w).alloc (Nat.le_refl _) (.cells #[Value.int .i64 k, Value.int .i64 ct, Value.int .i64 f, Value.int .i64 lo, Value.int .i64 ln, Value.int .i64 ld, Value.int .i64 ho, Value.int .i64 hn, Value.int .i64 hd] 91))
  have HB := Lib.hid (((Below.refl w.heap.size w).alloc (Nat.le_refl _) (.cells #[Value.int .i64 k, Value.int .i64 ct, Value.int .i64 f, Value.int .i64 lo, Value.int .i64 ln, Value.int .i64 ld, Value.int .i64 ho, Value.int .i64 hn, Value.int .i64 hd] 91)).alloc (by simp) (.cells #[Value.int .i64 0, Value.int .i64 0, Value.int .i64 0] 89))
  have HX0 := Lib.hid ((BlkL.new w 91 [Value.int .i64 k, Value.int .i64 ct, Value.int .i64 f, Value.int .i64 lo, Value.int .i64 ln, Value.int .i64 ld, Value.int .i64 ho, Value.int .i64 hn, Value.int .i64 hd]).low ((Below.refl _ _).alloc (Nat.le_refl _) (.cells #[Value.int .i64 0, Value.int .i64 0, Value.int .i64 0] 89)))
  have hx1 := (BlkL.new (w.alloc (.cells #[Value.int .i64 k, Value.int .i64 ct, Value.int .i64 f, Value.int .i64 lo, Value.int .i64 ln, Value.int .i64 ld, Value.int .i64 ho, Value.int .i64 hn, Value.int .i64 hd] 91)) 89 [Value.int .i64 0, Value.int .i64 0, Value.int .i64 0])
  rw [World.size_alloc] at hx1
  have HX1 := Lib.hid hx1
  clear hx1
  by_cases h_C0 : ct = 0
  · obtain ⟨d_C0, e_C0, n_C0, H_C0⟩ := yesE h_C0; clear h_C0
    by_cases h_F1 : f < 1
    · obtain ⟨d_F1, H_F1⟩ := yesP h_F1; clear h_F1
      have HF : Hid ((rFeat ⟨k, ct, f, ⟨lo, ln, ld⟩, ⟨ho, hn, hd⟩⟩) = false) := Lib.hid (by unfold rFeat; simp only; simp [H_C0.out, H_F1.out])
      go_enter Tryz.func140, Tryz.ntmps140; go_wp2_with fail; go_ret; first | exact fb HF HB | exact fb HF HB0
    obtain ⟨d_F1, H_F1⟩ := noP h_F1; clear h_F1
    by_cases h_F7 : 6 < f
    · obtain ⟨d_F7, H_F7⟩ := yesP h_F7; clear h_F7
      have HF : Hid ((rFeat ⟨k, ct, f, ⟨lo, ln, ld⟩, ⟨ho, hn, hd⟩⟩) = false) := Lib.hid (by unfold rFeat; simp only; simp [H_C0.out, H_F1.out, H_F7.out])
      go_enter Tryz.func140, Tryz.ntmps140; go_wp2_with fail; go_ret; first | exact fb HF HB | exact fb HF HB0
    obtain ⟨d_F7, H_F7⟩ := noP h_F7; clear h_F7
    by_cases h_HZ : (⟨ho, hn, hd⟩ : BoundM) = noBound
    · obtain ⟨d_HZ, H_HZ⟩ := yesP h_HZ; have E_HZ := bEqY h_HZ; clear h_HZ
      by_cases h_LZ : (⟨lo, ln, ld⟩ : BoundM) = noBound
      · obtain ⟨d_LZ, H_LZ⟩ := yesP h_LZ; have E_LZ := bEqY h_LZ; clear h_LZ
        have HF : Hid ((rFeat ⟨k, ct, f, ⟨lo, ln, ld⟩, ⟨ho, hn, hd⟩⟩) = true) := Lib.hid (by unfold rFeat; simp only; simp [H_C0.out, H_F1.out, H_F7.out, H_HZ.out, H_LZ.out])
        go_enter Tryz.func140, Tryz.ntmps140; go_wp2_with fail; go_ret; first | exact fb HF HB | exact fb HF HB0
      obtain ⟨d_LZ, H_LZ⟩ := noP h_LZ; have E_LZ := bEqN h_LZ; clear h_LZ
      have HF : Hid ((rFeat ⟨k, ct, f, ⟨lo, ln, ld⟩, ⟨ho, hn, hd⟩⟩) = false) := Lib.hid (by unfold rFeat; simp only; simp [H_C0.out, H_F1.out, H_F7.out, H_HZ.out, H_LZ.out])
      go_enter Tryz.func140, Tryz.ntmps140; go_wp2_with fail; go_ret; first | exact fb HF HB | exact fb HF HB0
    obtain ⟨d_HZ, H_HZ⟩ := noP h_HZ; have E_HZ := bEqN h_HZ; clear h_HZ
    cases h_RH : rBound f ⟨ho, hn, hd⟩
    · have C_RH := Lib.hid (by have q := (fun ww => refBound_any f ho hn hd ww); rw [h_RH] at q; exact q)
      have HF : Hid ((rFeat ⟨k, ct, f, ⟨lo, ln, ld⟩, ⟨ho, hn, hd⟩⟩) = false) := Lib.hid (by unfold rFeat; simp only; simp [H_C0.out, H_F1.out, H_F7.out, H_HZ.out, h_RH])
      go_enter Tryz.func140, Tryz.ntmps140; go_wp2_with (first | (go_at_call_of 192 (Value.agg #[Value.int IntKind.i64 ho, Value.int IntKind.i64 hn, Value.int IntKind.i64 hd]); refine (C_RH.out _ ).mono ?_; rintro e w9 ⟨rfl, hb9⟩; have HB := bT HB hb9; have HX0 := bL HX0 hb9; obtain ⟨q0_0, q0_1, q0_2, q0_3, q0_4, q0_5, q0_6, q0_7, q0_8⟩ := HX0.out.c9; have HX1 := bL HX1 hb9; obtain ⟨q1_0, q1_1, q1_2⟩ := HX1.out.c3; clear hb9)); go_ret; first | exact fb HF HB | exact fb HF HB0
    have C_RH := Lib.hid (by have q := (fun ww => refBound_any f ho hn hd ww); rw [h_RH] at q; exact q)
    by_cases h_LZ : (⟨lo, ln, ld⟩ : BoundM) = noBound
    · obtain ⟨d_LZ, H_LZ⟩ := yesP h_LZ; have E_LZ := bEqY h_LZ; clear h_LZ
      have HF : Hid ((rFeat ⟨k, ct, f, ⟨lo, ln, ld⟩, ⟨ho, hn, hd⟩⟩) = true) := Lib.hid (by unfold rFeat; simp only; simp [H_C0.out, H_F1.out, H_F7.out, H_HZ.out, h_RH, H_LZ.out])
      go_enter Tryz.func140, Tryz.ntmps140; go_wp2_with (first | (go_at_call_of 192 (Value.agg #[Value.int IntKind.i64 ho, Value.int IntKind.i64 hn, Value.int IntKind.i64 hd]); refine (C_RH.out _ ).mono ?_; rintro e w9 ⟨rfl, hb9⟩; have HB := bT HB hb9; have HX0 := bL HX0 hb9; obtain ⟨q0_0, q0_1, q0_2, q0_3, q0_4, q0_5, q0_6, q0_7, q0_8⟩ := HX0.out.c9; have HX1 := bL HX1 hb9; obtain ⟨q1_0, q1_1, q1_2⟩ := HX1.out.c3; clear hb9)); go_ret; first | exact fb HF HB | exact fb HF HB0
    obtain ⟨d_LZ, H_LZ⟩ := noP h_LZ; have E_LZ := bEqN h_LZ; clear h_LZ
    by_cases h_F6 : f = 6
    · obtain ⟨d_F6, e_F6, n_F6, H_F6⟩ := yesE h_F6; clear h_F6
      have HF : Hid ((rFeat ⟨k, ct, f, ⟨lo, ln, ld⟩, ⟨ho, hn, hd⟩⟩) = false) := Lib.hid (by unfold rFeat; simp only; simp [H_C0.out, H_F1.out, H_F7.out, H_HZ.out, h_RH, H_LZ.out, H_F6.out])
      go_enter Tryz.func140, Tryz.ntmps140; go_wp2_with (first | (go_at_call_of 192 (Value.agg #[Value.int IntKind.i64 ho, Value.int IntKind.i64 hn, Value.int IntKind.i64 hd]); refine (C_RH.out _ ).mono ?_; rintro e w9 ⟨rfl, hb9⟩; have HB := bT HB hb9; have HX0 := bL HX0 hb9; obtain ⟨q0_0, q0_1, q0_2, q0_3, q0_4, q0_5, q0_6, q0_7, q0_8⟩ := HX0.out.c9; have HX1 := bL HX1 hb9; obtain ⟨q1_0, q1_1, q1_2⟩ := HX1.out.c3; clear hb9)); go_ret; first | exact fb HF HB | exact fb HF HB0
    obtain ⟨d_F6, e_F6, n_F6, H_F6⟩ := noE h_F6; clear h_F6
    cases h_RL : rBound f ⟨lo, ln, ld⟩
    · have C_RL := Lib.hid (by have q := (fun ww => refBound_any f lo ln ld ww); rw [h_RL] at q; exact q)
      have HF : Hid ((rFeat ⟨k, ct, f, ⟨lo, ln, ld⟩, ⟨ho, hn, hd⟩⟩) = false) := Lib.hid (by unfold rFeat; simp only; simp [H_C0.out, H_F1.out, H_F7.out, H_HZ.out, h_RH, H_LZ.out, H_F6.out, h_RL])
      go_enter Tryz.func140, Tryz.ntmps140; go_wp2_with (first | (go_at_call_of 192 (Value.agg #[Value.int IntKind.i64 ho, Value.int IntKind.i64 hn, Value.int IntKind.i64 hd]); refine (C_RH.out _ ).mono ?_; rintro e w9 ⟨rfl, hb9⟩; have HB := bT HB hb9; have HX0 := bL HX0 hb9; obtain ⟨q0_0, q0_1, q0_2, q0_3, q0_4, q0_5, q0_6, q0_7, q0_8⟩ := HX0.out.c9; have HX1 := bL HX1 hb9; obtain ⟨q1_0, q1_1, q1_2⟩ := HX1.out.c3; clear hb9) | (go_at_call_of 192 (Value.agg #[Value.int IntKind.i64 lo, Value.int IntKind.i64 ln, Value.int IntKind.i64 ld]); refine (C_RL.out _ ).mono ?_; rintro e w9 ⟨rfl, hb9⟩; have HB := bT HB hb9; have HX0 := bL HX0 hb9; obtain ⟨q0_0, q0_1, q0_2, q0_3, q0_4, q0_5, q0_6, q0_7, q0_8⟩ := HX0.out.c9; have HX1 := bL HX1 hb9; obtain ⟨q1_0, q1_1, q1_2⟩ := HX1.out.c3; clear hb9)); go_ret; first | exact fb HF HB | exact fb HF HB0
    have C_RL := Lib.hid (by have q := (fun ww => refBound_any f lo ln ld ww); rw [h_RL] at q; exact q)
    by_cases h_L2 : lo ≤ 2
    · obtain ⟨d_L2, H_L2⟩ := yesP h_L2; clear h_L2
      by_cases h_H2 : ho ≤ 2
      · obtain ⟨d_H2, H_H2⟩ := yesP h_H2; clear h_H2
        have HF : Hid ((rFeat ⟨k, ct, f, ⟨lo, ln, ld⟩, ⟨ho, hn, hd⟩⟩) = true) := Lib.hid (by unfold rFeat; simp only; simp [H_C0.out, H_F1.out, H_F7.out, H_HZ.out, h_RH, H_LZ.out, H_F6.out, h_RL, H_L2.out, H_H2.out])
        go_enter Tryz.func140, Tryz.ntmps140; go_wp2_with (first | (go_at_call_of 192 (Value.agg #[Value.int IntKind.i64 ho, Value.int IntKind.i64 hn, Value.int IntKind.i64 hd]); refine (C_RH.out _ ).mono ?_; rintro e w9 ⟨rfl, hb9⟩; have HB := bT HB hb9; have HX0 := bL HX0 hb9; obtain ⟨q0_0, q0_1, q0_2, q0_3, q0_4, q0_5, q0_6, q0_7, q0_8⟩ := HX0.out.c9; have HX1 := bL HX1 hb9; obtain ⟨q1_0, q1_1, q1_2⟩ := HX1.out.c3; clear hb9) | (go_at_call_of 192 (Value.agg #[Value.int IntKind.i64 lo, Value.int IntKind.i64 ln, Value.int IntKind.i64 ld]); refine (C_RL.out _ ).mono ?_; rintro e w9 ⟨rfl, hb9⟩; have HB := bT HB hb9; have HX0 := bL HX0 hb9; obtain ⟨q0_0, q0_1, q0_2, q0_3, q0_4, q0_5, q0_6, q0_7, q0_8⟩ := HX0.out.c9; have HX1 := bL HX1 hb9; obtain ⟨q1_0, q1_1, q1_2⟩ := HX1.out.c3; clear hb9)); go_ret; first | exact fb HF HB | exact fb HF HB0
      obtain ⟨d_H2, H_H2⟩ := noP h_H2; clear h_H2
      by_cases h_L4 : 4 ≤ lo
      · obtain ⟨d_L4, H_L4⟩ := yesP h_L4; clear h_L4
        by_cases h_H4 : 4 ≤ ho
        · obtain ⟨d_H4, H_H4⟩ := yesP h_H4; clear h_H4
          have HF : Hid ((rFeat ⟨k, ct, f, ⟨lo, ln, ld⟩, ⟨ho, hn, hd⟩⟩) = true) := Lib.hid (by unfold rFeat; simp only; simp [H_C0.out, H_F1.out, H_F7.out, H_HZ.out, h_RH, H_LZ.out, H_F6.out, h_RL, H_L2.out, H_H2.out, H_L4.out, H_H4.out])
          go_enter Tryz.func140, Tryz.ntmps140; go_wp2_with (first | (go_at_call_of 192 (Value.agg #[Value.int IntKind.i64 ho, Value.int IntKind.i64 hn, Value.int IntKind.i64 hd]); refine (C_RH.out _ ).mono ?_; rintro e w9 ⟨rfl, hb9⟩; have HB := bT HB hb9; have HX0 := bL HX0 hb9; obtain ⟨q0_0, q0_1, q0_2, q0_3, q0_4, q0_5, q0_6, q0_7, q0_8⟩ := HX0.out.c9; have HX1 := bL HX1 hb9; obtain ⟨q1_0, q1_1, q1_2⟩ := HX1.out.c3; clear hb9) | (go_at_call_of 192 (Value.agg #[Value.int IntKind.i64 lo, Value.int IntKind.i64 ln, Value.int IntKind.i64 ld]); refine (C_RL.out _ ).mono ?_; rintro e w9 ⟨rfl, hb9⟩; have HB := bT HB hb9; have HX0 := bL HX0 hb9; obtain ⟨q0_0, q0_1, q0_2, q0_3, q0_4, q0_5, q0_6, q0_7, q0_8⟩ := HX0.out.c9; have HX1 := bL HX1 hb9; obtain ⟨q1_0, q1_1, q1_2⟩ := HX1.out.c3; clear hb9)); go_ret; first | exact fb HF HB | exact fb HF HB0
        obtain ⟨d_H4, H_H4⟩ := noP h_H4; clear h_H4
        have HF : Hid ((rFeat ⟨k, ct, f, ⟨lo, ln, ld⟩, ⟨ho, hn, hd⟩⟩) = false) := Lib.hid (by unfold rFeat; simp only; simp [H_C0.out, H_F1.out, H_F7.out, H_HZ.out, h_RH, H_LZ.out, H_F6.out, h_RL, H_L2.out, H_H2.out, H_L4.out, H_H4.out])
        go_enter Tryz.func140, Tryz.ntmps140; go_wp2_with (first | (go_at_call_of 192 (Value.agg #[Value.int IntKind.i64 ho, Value.int IntKind.i64 hn, Value.int IntKind.i64 hd]); refine (C_RH.out _ ).mono ?_; rintro e w9 ⟨rfl, hb9⟩; have HB := bT HB hb9; have HX0 := bL HX0 hb9; obtain ⟨q0_0, q0_1, q0_2, q0_3, q0_4, q0_5, q0_6, q0_7, q0_8⟩ := HX0.out.c9; have HX1 := bL HX1 hb9; obtain ⟨q1_0, q1_1, q1_2⟩ := HX1.out.c3; clear hb9) | (go_at_call_of 192 (Value.agg #[Value.int IntKind.i64 lo, Value.int IntKind.i64 ln, Value.int IntKind.i64 ld]); refine (C_RL.out _ ).mono ?_; rintro e w9 ⟨rfl, hb9⟩; have HB := bT HB hb9; have HX0 := bL HX0 hb9; obtain ⟨q0_0, q0_1, q0_2, q0_3, q0_4, q0_5, q0_6, q0_7, q0_8⟩ := HX0.out.c9; have HX1 := bL HX1 hb9; obtain ⟨q1_0, q1_1, q1_2⟩ := HX1.out.c3; clear hb9)); go_ret; first | exact fb HF HB | exact fb HF HB0
      obtain ⟨d_L4, H_L4⟩ := noP h_L4; clear h_L4
      have HF : Hid ((rFeat ⟨k, ct, f, ⟨lo, ln, ld⟩, ⟨ho, hn, hd⟩⟩) = false) := Lib.hid (by unfold rFeat; simp only; simp [H_C0.out, H_F1.out, H_F7.out, H_HZ.out, h_RH, H_LZ.out, H_F6.out, h_RL, H_L2.out, H_H2.out, H_L4.out])
      go_enter Tryz.func140, Tryz.ntmps140; go_wp2_with (first | (go_at_call_of 192 (Value.agg #[Value.int IntKind.i64 ho, Value.int IntKind.i64 hn, Value.int IntKind.i64 hd]); refine (C_RH.out _ ).mono ?_; rintro e w9 ⟨rfl, hb9⟩; have HB := bT HB hb9; have HX0 := bL HX0 hb9; obtain ⟨q0_0, q0_1, q0_2, q0_3, q0_4, q0_5, q0_6, q0_7, q0_8⟩ := HX0.out.c9; have HX1 := bL HX1 hb9; obtain ⟨q1_0, q1_1, q1_2⟩ := HX1.out.c3; clear hb9) | (go_at_call_of 192 (Value.agg #[Value.int IntKind.i64 lo, Value.int IntKind.i64 ln, Value.int IntKind.i64 ld]); refine (C_RL.out _ ).mono ?_; rintro e w9 ⟨rfl, hb9⟩; have HB := bT HB hb9; have HX0 := bL HX0 hb9; obtain ⟨q0_0, q0_1, q0_2, q0_3, q0_4, q0_5, q0_6, q0_7, q0_8⟩ := HX0.out.c9; have HX1 := bL HX1 hb9; obtain ⟨q1_0, q1_1, q1_2⟩ := HX1.out.c3; clear hb9)); go_ret; first | exact fb HF HB | exact fb HF HB0
    obtain ⟨d_L2, H_L2⟩ := noP h_L2; clear h_L2
    by_cases h_L4 : 4 ≤ lo
    · obtain ⟨d_L4, H_L4⟩ := yesP h_L4; clear h_L4
      by_cases h_H4 : 4 ≤ ho
      · obtain ⟨d_H4, H_H4⟩ := yesP h_H4; clear h_H4
        have HF : Hid ((rFeat ⟨k, ct, f, ⟨lo, ln, ld⟩, ⟨ho, hn, hd⟩⟩) = true) := Lib.hid (by unfold rFeat; simp only; simp [H_C0.out, H_F1.out, H_F7.out, H_HZ.out, h_RH, H_LZ.out, H_F6.out, h_RL, H_L2.out, H_L4.out, H_H4.out])
        go_enter Tryz.func140, Tryz.ntmps140; go_wp2_with (first | (go_at_call_of 192 (Value.agg #[Value.int IntKind.i64 ho, Value.int IntKind.i64 hn, Value.int IntKind.i64 hd]); refine (C_RH.out _ ).mono ?_; rintro e w9 ⟨rfl, hb9⟩; have HB := bT HB hb9; have HX0 := bL HX0 hb9; obtain ⟨q0_0, q0_1, q0_2, q0_3, q0_4, q0_5, q0_6, q0_7, q0_8⟩ := HX0.out.c9; have HX1 := bL HX1 hb9; obtain ⟨q1_0, q1_1, q1_2⟩ := HX1.out.c3; clear hb9) | (go_at_call_of 192 (Value.agg #[Value.int IntKind.i64 lo, Value.int IntKind.i64 ln, Value.int IntKind.i64 ld]); refine (C_RL.out _ ).mono ?_; rintro e w9 ⟨rfl, hb9⟩; have HB := bT HB hb9; have HX0 := bL HX0 hb9; obtain ⟨q0_0, q0_1, q0_2, q0_3, q0_4, q0_5, q0_6, q0_7, q0_8⟩ := HX0.out.c9; have HX1 := bL HX1 hb9; obtain ⟨q1_0, q1_1, q1_2⟩ := HX1.out.c3; clear hb9)); go_ret; first | exact fb HF HB | exact fb HF HB0
      obtain ⟨d_H4, H_H4⟩ := noP h_H4; clear h_H4
      have HF : Hid ((rFeat ⟨k, ct, f, ⟨lo, ln, ld⟩, ⟨ho, hn, hd⟩⟩) = false) := Lib.hid (by unfold rFeat; simp only; simp [H_C0.out, H_F1.out, H_F7.out, H_HZ.out, h_RH, H_LZ.out, H_F6.out, h_RL, H_L2.out, H_L4.out, H_H4.out])
      go_enter Tryz.func140, Tryz.ntmps140; go_wp2_with (first | (go_at_call_of 192 (Value.agg #[Value.int IntKind.i64 ho, Value.int IntKind.i64 hn, Value.int IntKind.i64 hd]); refine (C_RH.out _ ).mono ?_; rintro e w9 ⟨rfl, hb9⟩; have HB := bT HB hb9; have HX0 := bL HX0 hb9; obtain ⟨q0_0, q0_1, q0_2, q0_3, q0_4, q0_5, q0_6, q0_7, q0_8⟩ := HX0.out.c9; have HX1 := bL HX1 hb9; obtain ⟨q1_0, q1_1, q1_2⟩ := HX1.out.c3; clear hb9) | (go_at_call_of 192 (Value.agg #[Value.int IntKind.i64 lo, Value.int IntKind.i64 ln, Value.int IntKind.i64 ld]); refine (C_RL.out _ ).mono ?_; rintro e w9 ⟨rfl, hb9⟩; have HB := bT HB hb9; have HX0 := bL HX0 hb9; obtain ⟨q0_0, q0_1, q0_2, q0_3, q0_4, q0_5, q0_6, q0_7, q0_8⟩ := HX0.out.c9; have HX1 := bL HX1 hb9; obtain ⟨q1_0, q1_1, q1_2⟩ := HX1.out.c3; clear hb9)); go_ret; first | exact fb HF HB | exact fb HF HB0
    obtain ⟨d_L4, H_L4⟩ := noP h_L4; clear h_L4
    have HF : Hid ((rFeat ⟨k, ct, f, ⟨lo, ln, ld⟩, ⟨ho, hn, hd⟩⟩) = false) := Lib.hid (by unfold rFeat; simp only; simp [H_C0.out, H_F1.out, H_F7.out, H_HZ.out, h_RH, H_LZ.out, H_F6.out, h_RL, H_L2.out, H_L4.out])
    go_enter Tryz.func140, Tryz.ntmps140; go_wp2_with (first | (go_at_call_of 192 (Value.agg #[Value.int IntKind.i64 ho, Value.int IntKind.i64 hn, Value.int IntKind.i64 hd]); refine (C_RH.out _ ).mono ?_; rintro e w9 ⟨rfl, hb9⟩; have HB := bT HB hb9; have HX0 := bL HX0 hb9; obtain ⟨q0_0, q0_1, q0_2, q0_3, q0_4, q0_5, q0_6, q0_7, q0_8⟩ := HX0.out.c9; have HX1 := bL HX1 hb9; obtain ⟨q1_0, q1_1, q1_2⟩ := HX1.out.c3; clear hb9) | (go_at_call_of 192 (Value.agg #[Value.int IntKind.i64 lo, Value.int IntKind.i64 ln, Value.int IntKind.i64 ld]); refine (C_RL.out _ ).mono ?_; rintro e w9 ⟨rfl, hb9⟩; have HB := bT HB hb9; have HX0 := bL HX0 hb9; obtain ⟨q0_0, q0_1, q0_2, q0_3, q0_4, q0_5, q0_6, q0_7, q0_8⟩ := HX0.out.c9; have HX1 := bL HX1 hb9; obtain ⟨q1_0, q1_1, q1_2⟩ := HX1.out.c3; clear hb9)); go_ret; first | exact fb HF HB | exact fb HF HB0
  obtain ⟨d_C0, e_C0, n_C0, H_C0⟩ := noE h_C0; clear h_C0
  have HF : Hid ((rFeat ⟨k, ct, f, ⟨lo, ln, ld⟩, ⟨ho, hn, hd⟩⟩) = false) := Lib.hid (by unfold rFeat; simp only; simp [H_C0.out])
  go_enter Tryz.func140, Tryz.ntmps140; go_wp2_with fail; go_ret; first | exact fb HF HB | exact fb HF HB0
theorem nodEq (k ct f lo ln ld ho hn hd : Int) (ww : World) : (binOp .eql 91 (.agg #[.int .i64 k, .int .i64 ct, .int .i64 f, .int .i64 lo, .int .i64 ln, .int .i64 ld, .int .i64 ho, .int .i64 hn, .int .i64 hd]) (.agg #[.int .i64 k, .int .i64 ct, .int .i64 0, .int .i64 0, .int .i64 0, .int .i64 0, .int .i64 0, .int .i64 0, .int .i64 0])).run Tryz.prog ww = .ok (.bool (decide ((⟨k, ct, f, ⟨lo, ln, ld⟩, ⟨ho, hn, hd⟩⟩ : QNodeM) = ⟨k, ct, 0, noBound, noBound⟩))) ww := by
  simp [go_sem, Result.andThen]
  unfold noBound
  by_cases h1 : f = 0 <;> by_cases h2 : lo = 0 <;> by_cases h3 : ln = 0 <;> by_cases h4 : ld = 0 <;> by_cases h5 : ho = 0 <;> by_cases h6 : hn = 0 <;> by_cases h7 : hd = 0 <;> simp [h1, h2, h3, h4, h5, h6, h7]
theorem nEqY {k ct f lo ln ld ho hn hd : Int} (h : (⟨k, ct, f, ⟨lo, ln, ld⟩, ⟨ho, hn, hd⟩⟩ : QNodeM) = ⟨k, ct, 0, noBound, noBound⟩) : ∀ ww, (binOp .eql 91 (.agg #[.int .i64 k, .int .i64 ct, .int .i64 f, .int .i64 lo, .int .i64 ln, .int .i64 ld, .int .i64 ho, .int .i64 hn, .int .i64 hd]) (.agg #[.int .i64 k, .int .i64 ct, .int .i64 0, .int .i64 0, .int .i64 0, .int .i64 0, .int .i64 0, .int .i64 0, .int .i64 0])).run Tryz.prog ww = .ok (.bool true) ww := by
  intro ww; rw [nodEq, decide_eq_true h]
theorem nEqN {k ct f lo ln ld ho hn hd : Int} (h : ¬ (⟨k, ct, f, ⟨lo, ln, ld⟩, ⟨ho, hn, hd⟩⟩ : QNodeM) = ⟨k, ct, 0, noBound, noBound⟩) : ∀ ww, (binOp .eql 91 (.agg #[.int .i64 k, .int .i64 ct, .int .i64 f, .int .i64 lo, .int .i64 ln, .int .i64 ld, .int .i64 ho, .int .i64 hn, .int .i64 hd]) (.agg #[.int .i64 k, .int .i64 ct, .int .i64 0, .int .i64 0, .int .i64 0, .int .i64 0, .int .i64 0, .int .i64 0, .int .i64 0])).run Tryz.prog ww = .ok (.bool false) ww := by
  intro ww; rw [nodEq, decide_eq_false h]
theorem refNode_any (k ct f lo ln ld ho hn hd : Int) (w : World) :
    Calls Tryz.prog 68 #[Value.agg #[Value.int .i64 k, Value.int .i64 ct, Value.int .i64 f, Value.int .i64 lo, Value.int .i64 ln, Value.int .i64 ld, Value.int .i64 ho, Value.int .i64 hn, Value.int .i64 hd]] w fun e w' => e = .returned (.bool (rNode ⟨k, ct, f, ⟨lo, ln, ld⟩, ⟨ho, hn, hd⟩⟩)) ∧ Below w.heap.size w w' := by
  have HB0 := Lib.hid ((Below.refl w.heap.size w).alloc (Nat.le_refl _) (.cells #[Value.int .i64 k, Value.int .i64 ct, Value.int .i64 f, Value.int .i64 lo, Value.int .i64 ln, Value.int .i64 ld, Value.int .i64 ho, Value.int .i64 hn, Value.int .i64 hd] 91))
  have HB := Lib.hid (((Below.refl w.heap.size w).alloc (Nat.le_refl _) (.cells #[Value.int .i64 k, Value.int .i64 ct, Value.int .i64 f, Value.int .i64 lo, Value.int .i64 ln, Value.int .i64 ld, Value.int .i64 ho, Value.int .i64 hn, Value.int .i64 hd] 91)).alloc (by simp) (.cells #[Value.int .i64 k, Value.int .i64 ct, Value.int .i64 0, Value.int .i64 0, Value.int .i64 0, Value.int .i64 0, Value.int .i64 0, Value.int .i64 0, Value.int .i64 0] 91))
  have HX0 := Lib.hid ((BlkL.new w 91 [Value.int .i64 k, Value.int .i64 ct, Value.int .i64 f, Value.int .i64 lo, Value.int .i64 ln, Value.int .i64 ld, Value.int .i64 ho, Value.int .i64 hn, Value.int .i64 hd]).low ((Below.refl _ _).alloc (Nat.le_refl _) (.cells #[Value.int .i64 k, Value.int .i64 ct, Value.int .i64 0, Value.int .i64 0, Value.int .i64 0, Value.int .i64 0, Value.int .i64 0, Value.int .i64 0, Value.int .i64 0] 91)))
  have hx1 := (BlkL.new (w.alloc (.cells #[Value.int .i64 k, Value.int .i64 ct, Value.int .i64 f, Value.int .i64 lo, Value.int .i64 ln, Value.int .i64 ld, Value.int .i64 ho, Value.int .i64 hn, Value.int .i64 hd] 91)) 91 [Value.int .i64 k, Value.int .i64 ct, Value.int .i64 0, Value.int .i64 0, Value.int .i64 0, Value.int .i64 0, Value.int .i64 0, Value.int .i64 0, Value.int .i64 0])
  rw [World.size_alloc] at hx1
  have HX1 := Lib.hid hx1
  clear hx1
  by_cases h_K4 : k = 4
  · obtain ⟨d_K4, e_K4, n_K4, H_K4⟩ := yesE h_K4; clear h_K4
    cases h_RF : rFeat ⟨k, ct, f, ⟨lo, ln, ld⟩, ⟨ho, hn, hd⟩⟩
    · have C_RF := Lib.hid (by have q := (fun ww => refFeat_any k ct f lo ln ld ho hn hd ww); rw [h_RF] at q; exact q)
      have HF : Hid ((rNode ⟨k, ct, f, ⟨lo, ln, ld⟩, ⟨ho, hn, hd⟩⟩) = false) := Lib.hid (by unfold rNode; simp only; simp [H_K4.out, h_RF])
      go_enter Tryz.func68, Tryz.ntmps68; go_wp2_with (first | (go_at_call 140; refine (C_RF.out _ ).mono ?_; rintro e w9 ⟨rfl, hb9⟩; have HB0 := bT HB0 hb9; clear hb9)); go_ret; first | exact fb HF HB | exact fb HF HB0
    have C_RF := Lib.hid (by have q := (fun ww => refFeat_any k ct f lo ln ld ho hn hd ww); rw [h_RF] at q; exact q)
    have HF : Hid ((rNode ⟨k, ct, f, ⟨lo, ln, ld⟩, ⟨ho, hn, hd⟩⟩) = true) := Lib.hid (by unfold rNode; simp only; simp [H_K4.out, h_RF])
    go_enter Tryz.func68, Tryz.ntmps68; go_wp2_with (first | (go_at_call 140; refine (C_RF.out _ ).mono ?_; rintro e w9 ⟨rfl, hb9⟩; have HB0 := bT HB0 hb9; clear hb9)); go_ret; first | exact fb HF HB | exact fb HF HB0
  obtain ⟨d_K4, e_K4, n_K4, H_K4⟩ := noE h_K4; clear h_K4
  by_cases h_EQ : (⟨k, ct, f, ⟨lo, ln, ld⟩, ⟨ho, hn, hd⟩⟩ : QNodeM) = ⟨k, ct, 0, noBound, noBound⟩
  · obtain ⟨d_EQ, H_EQ⟩ := yesP h_EQ; have E_EQ := nEqY h_EQ; clear h_EQ
    by_cases h_K3 : k = 3
    · obtain ⟨d_K3, e_K3, n_K3, H_K3⟩ := yesE h_K3; clear h_K3
      by_cases h_C1 : ct = 1
      · obtain ⟨d_C1, e_C1, n_C1, H_C1⟩ := yesE h_C1; clear h_C1
        have HF : Hid ((rNode ⟨k, ct, f, ⟨lo, ln, ld⟩, ⟨ho, hn, hd⟩⟩) = true) := Lib.hid (by unfold rNode; simp only; simp [H_K4.out, H_EQ.out, H_K3.out, H_C1.out])
        go_enter Tryz.func68, Tryz.ntmps68; go_wp2_with fail; go_ret; first | exact fb HF HB | exact fb HF HB0
      obtain ⟨d_C1, e_C1, n_C1, H_C1⟩ := noE h_C1; clear h_C1
      by_cases h_C2 : 2 ≤ ct
      · obtain ⟨d_C2, H_C2⟩ := yesP h_C2; clear h_C2
        by_cases h_K1 : k = 1
        · obtain ⟨d_K1, e_K1, n_K1, H_K1⟩ := yesE h_K1; clear h_K1
          have HF : Hid ((rNode ⟨k, ct, f, ⟨lo, ln, ld⟩, ⟨ho, hn, hd⟩⟩) = true) := Lib.hid (by unfold rNode; simp only; simp [H_K4.out, H_EQ.out, H_K3.out, H_C1.out, H_C2.out, H_K1.out])
          go_enter Tryz.func68, Tryz.ntmps68; go_wp2_with fail; go_ret; first | exact fb HF HB | exact fb HF HB0
        obtain ⟨d_K1, e_K1, n_K1, H_K1⟩ := noE h_K1; clear h_K1
        by_cases h_K2 : k = 2
        · obtain ⟨d_K2, e_K2, n_K2, H_K2⟩ := yesE h_K2; clear h_K2
          have HF : Hid ((rNode ⟨k, ct, f, ⟨lo, ln, ld⟩, ⟨ho, hn, hd⟩⟩) = true) := Lib.hid (by unfold rNode; simp only; simp [H_K4.out, H_EQ.out, H_K3.out, H_C1.out, H_C2.out, H_K1.out, H_K2.out])
          go_enter Tryz.func68, Tryz.ntmps68; go_wp2_with fail; go_ret; first | exact fb HF HB | exact fb HF HB0
        obtain ⟨d_K2, e_K2, n_K2, H_K2⟩ := noE h_K2; clear h_K2
        have HF : Hid ((rNode ⟨k, ct, f, ⟨lo, ln, ld⟩, ⟨ho, hn, hd⟩⟩) = false) := Lib.hid (by unfold rNode; simp only; simp [H_K4.out, H_EQ.out, H_K3.out, H_C1.out, H_C2.out, H_K1.out, H_K2.out])
        go_enter Tryz.func68, Tryz.ntmps68; go_wp2_with fail; go_ret; first | exact fb HF HB | exact fb HF HB0
      obtain ⟨d_C2, H_C2⟩ := noP h_C2; clear h_C2
      have HF : Hid ((rNode ⟨k, ct, f, ⟨lo, ln, ld⟩, ⟨ho, hn, hd⟩⟩) = false) := Lib.hid (by unfold rNode; simp only; simp [H_K4.out, H_EQ.out, H_K3.out, H_C1.out, H_C2.out])
      go_enter Tryz.func68, Tryz.ntmps68; go_wp2_with fail; go_ret; first | exact fb HF HB | exact fb HF HB0
    obtain ⟨d_K3, e_K3, n_K3, H_K3⟩ := noE h_K3; clear h_K3
    by_cases h_C2 : 2 ≤ ct
    · obtain ⟨d_C2, H_C2⟩ := yesP h_C2; clear h_C2
      by_cases h_K1 : k = 1
      · obtain ⟨d_K1, e_K1, n_K1, H_K1⟩ := yesE h_K1; clear h_K1
        have HF : Hid ((rNode ⟨k, ct, f, ⟨lo, ln, ld⟩, ⟨ho, hn, hd⟩⟩) = true) := Lib.hid (by unfold rNode; simp only; simp [H_K4.out, H_EQ.out, H_K3.out, H_C2.out, H_K1.out])
        go_enter Tryz.func68, Tryz.ntmps68; go_wp2_with fail; go_ret; first | exact fb HF HB | exact fb HF HB0
      obtain ⟨d_K1, e_K1, n_K1, H_K1⟩ := noE h_K1; clear h_K1
      by_cases h_K2 : k = 2
      · obtain ⟨d_K2, e_K2, n_K2, H_K2⟩ := yesE h_K2; clear h_K2
        have HF : Hid ((rNode ⟨k, ct, f, ⟨lo, ln, ld⟩, ⟨ho, hn, hd⟩⟩) = true) := Lib.hid (by unfold rNode; simp only; simp [H_K4.out, H_EQ.out, H_K3.out, H_C2.out, H_K1.out, H_K2.out])
        go_enter Tryz.func68, Tryz.ntmps68; go_wp2_with fail; go_ret; first | exact fb HF HB | exact fb HF HB0
      obtain ⟨d_K2, e_K2, n_K2, H_K2⟩ := noE h_K2; clear h_K2
      have HF : Hid ((rNode ⟨k, ct, f, ⟨lo, ln, ld⟩, ⟨ho, hn, hd⟩⟩) = false) := Lib.hid (by unfold rNode; simp only; simp [H_K4.out, H_EQ.out, H_K3.out, H_C2.out, H_K1.out, H_K2.out])
      go_enter Tryz.func68, Tryz.ntmps68; go_wp2_with fail; go_ret; first | exact fb HF HB | exact fb HF HB0
    obtain ⟨d_C2, H_C2⟩ := noP h_C2; clear h_C2
    have HF : Hid ((rNode ⟨k, ct, f, ⟨lo, ln, ld⟩, ⟨ho, hn, hd⟩⟩) = false) := Lib.hid (by unfold rNode; simp only; simp [H_K4.out, H_EQ.out, H_K3.out, H_C2.out])
    go_enter Tryz.func68, Tryz.ntmps68; go_wp2_with fail; go_ret; first | exact fb HF HB | exact fb HF HB0
  obtain ⟨d_EQ, H_EQ⟩ := noP h_EQ; have E_EQ := nEqN h_EQ; clear h_EQ
  have HF : Hid ((rNode ⟨k, ct, f, ⟨lo, ln, ld⟩, ⟨ho, hn, hd⟩⟩) = false) := Lib.hid (by unfold rNode; simp only; simp [H_K4.out, H_EQ.out])
  go_enter Tryz.func68, Tryz.ntmps68; go_wp2_with fail; go_ret; first | exact fb HF HB | exact fb HF HB0
theorem refReserved_any (s : List UInt8) (w : World) :
    Calls Tryz.prog 67 #[Value.string (bs s)] w fun e w' => e = .returned (.bool (reservedB s)) ∧ Below w.heap.size w w' := by
  have HB := Lib.hid (Below.refl w.heap.size w)
  by_cases h_A : s = andT
  · obtain ⟨d_A, H_A⟩ := yesP h_A; have s_A := strY [97, 110, 100] h_A; clear h_A
    have HF : Hid ((reservedB s) = true) := Lib.hid (by unfold reservedB; simp [H_A.out])
    go_enter Tryz.func67, Tryz.ntmps67; go_wp2_with fail; go_ret; exact fb HF HB
  obtain ⟨d_A, H_A⟩ := noP h_A; have s_A := strN [97, 110, 100] h_A; clear h_A
  by_cases h_O : s = orT
  · obtain ⟨d_O, H_O⟩ := yesP h_O; have s_O := strY [111, 114] h_O; clear h_O
    have HF : Hid ((reservedB s) = true) := Lib.hid (by unfold reservedB; simp [H_A.out, H_O.out])
    go_enter Tryz.func67, Tryz.ntmps67; go_wp2_with fail; go_ret; exact fb HF HB
  obtain ⟨d_O, H_O⟩ := noP h_O; have s_O := strN [111, 114] h_O; clear h_O
  by_cases h_N : s = notT
  · obtain ⟨d_N, H_N⟩ := yesP h_N; have s_N := strY [110, 111, 116] h_N; clear h_N
    have HF : Hid ((reservedB s) = true) := Lib.hid (by unfold reservedB; simp [H_A.out, H_O.out, H_N.out])
    go_enter Tryz.func67, Tryz.ntmps67; go_wp2_with fail; go_ret; exact fb HF HB
  obtain ⟨d_N, H_N⟩ := noP h_N; have s_N := strN [110, 111, 116] h_N; clear h_N
  by_cases h_E : s = noneT
  · obtain ⟨d_E, H_E⟩ := yesP h_E; have s_E := strY [110, 111, 110, 101] h_E; clear h_E
    have HF : Hid ((reservedB s) = true) := Lib.hid (by unfold reservedB; simp [H_A.out, H_O.out, H_N.out, H_E.out])
    go_enter Tryz.func67, Tryz.ntmps67; go_wp2_with fail; go_ret; exact fb HF HB
  obtain ⟨d_E, H_E⟩ := noP h_E; have s_E := strN [110, 111, 110, 101] h_E; clear h_E
  have HF : Hid ((reservedB s) = false) := Lib.hid (by unfold reservedB; simp [H_A.out, H_O.out, H_N.out, H_E.out])
  go_enter Tryz.func67, Tryz.ntmps67; go_wp2_with fail; go_ret; exact fb HF HB
theorem hasQ_and (q : QNodeM) (h : q.kind = 1 ∨ q.kind = 2) : kidsN q = q.count.toNat ∧ ¬ hasQ q < 0 := by
  unfold kidsN hasQ; rw [if_pos h]; omega
theorem hasQ_not (q : QNodeM) (h : q.kind = 3) : kidsN q = 1 ∧ ¬ hasQ q < 0 := by
  unfold kidsN hasQ; rw [if_neg (by omega), if_pos h]; omega
theorem hasQ_feat (q : QNodeM) (h : q.kind = 4) : kidsN q = 0 ∧ ¬ hasQ q < 0 := by
  unfold kidsN hasQ; rw [if_neg (by omega), if_neg (by omega), if_pos h]; omega
theorem hasQ_else (q : QNodeM) (h1 : q.kind ≠ 1) (h2 : q.kind ≠ 2) (h3 : q.kind ≠ 3) (h4 : q.kind ≠ 4) : hasQ q < 0 := by
  unfold hasQ; rw [if_neg (by omega), if_neg h3, if_neg h4]; omega
theorem spA_bad (q : List QNodeM) (i : Nat) (hi : i < q.length) (h : hasQ q[i] < 0) : spA q i = 0 := by rw [spA_go q i hi, if_pos h]
theorem spA_steps (q : List QNodeM) (i k : Nat) (hi : i < q.length) (h : kidsN q[i] = k ∧ ¬ hasQ q[i] < 0) : spA q i = stepsR (spA q) k (i + 1) := by rw [spA_go q i hi, if_neg h.2, h.1]
theorem refSpan_any (nm : ByteArray) (a : Option Addr) (c n : Nat) (q : List QNodeM) (hn : n = q.length) : ∀ (m i : Nat) (w : World), q.length - i ≤ m → SlAt w (.slice a n c) n (q.flatMap nod9) →
    Calls Tryz.prog 69 #[.agg #[.string nm, .slice a n c], .int .i64 i] w fun e w' => e = .returned (.int .i64 (spA q i)) ∧ Below w.heap.size w w' := by
  intro m
  induction m with
  | zero =>
    intro i w hm hs
    have HA := Lib.hid ((Below.refl w.heap.size w).alloc (Nat.le_refl _) (.cells #[.string nm, .slice a n c] 52))
    have d0 : decide ((i : Int) < 0) = false := decide_eq_false (by omega)
    have d1 : decide (n ≤ i) = true := decide_eq_true (by omega)
    have HV := Lib.hid (spA_out q i (by omega))
    clear hm hs hn
    go_enter Tryz.func69, Tryz.ntmps69
    go_wp2_with fail
    go_ret
    exact ⟨by rw [HV.out]; rfl, HA.out⟩
  | succ m ih =>
    intro i w hm hs
    by_cases hin : i < q.length
    · have hA := (Below.refl w.heap.size w).alloc (Nat.le_refl _) (.cells #[.string nm, .slice a n c] 52)
      have HA := Lib.hid hA
      have HX := Lib.hid (BlkL.new w 52 [.string nm, .slice a n c])
      have IH := Lib.hid (fun (j : Nat) (hj : i + 1 ≤ j) (ww : World) (hb : Below w.heap.size w ww) => ih j ww (by omega) (hs.below hb))
      have d0 : decide ((i : Int) < 0) = false := decide_eq_false (by omega)
      have d1 : decide (n ≤ i) = false := decide_eq_false (by omega)
      obtain ⟨a1, c1, e1, hnc, hcm, hcase⟩ := hs
      cases e1
      unfold maxLen at hcm
      obtain ⟨vb, vo, rfl, vB, hC⟩ : ∃ b o, a = some ⟨b, o, none⟩ ∧ b < w.heap.size ∧ CellsAt w b o (q.flatMap nod9) := by
        rcases hcase with ⟨h0, _⟩ | h
        · omega
        exact h
      have hC2 := hC.below hA vB
      have hilt : i < n := by omega
      have hnle : n ≤ 9223372036854775807 := by omega
      have z0 := hC2.get nod9_len i 0 hin (by decide) rfl
      have z1 := hC2.get nod9_len i 1 hin (by decide) rfl
      have z2 := hC2.get nod9_len i 2 hin (by decide) rfl
      have z3 := hC2.get nod9_len i 3 hin (by decide) rfl
      have z4 := hC2.get nod9_len i 4 hin (by decide) rfl
      have z5 := hC2.get nod9_len i 5 hin (by decide) rfl
      have z6 := hC2.get nod9_len i 6 hin (by decide) rfl
      have z7 := hC2.get nod9_len i 7 hin (by decide) rfl
      have z8 := hC2.get nod9_len i 8 hin (by decide) rfl
      rw [Nat.add_zero] at z0
      rw [← Nat.add_assoc] at z1 z2 z3 z4 z5 z6 z7 z8
      have HBAD := spA_bad q i hin
      have HST := fun k => spA_steps q i k hin
      have W1 := hasQ_and q[i]
      have W3 := hasQ_not q[i]
      have W4 := hasQ_feat q[i]
      have W0 := hasQ_else q[i]
      obtain ⟨x, hx⟩ : ∃ x, q[i] = x := ⟨_, rfl⟩
      rw [hx] at z0 z1 z2 z3 z4 z5 z6 z7 z8 HBAD HST W1 W3 W4 W0
      obtain ⟨kd, ct, f, ⟨lo, ln, ld⟩, ⟨ho, h9, hd⟩⟩ := x
      simp only at z0 z1 z2 z3 z4 z5 z6 z7 z8 W1 W3 W4 W0
      have hvW : vb < (w.alloc (.cells #[.string nm, .slice (some ⟨vb, vo, none⟩) n c] 52)).heap.size := Nat.lt_of_lt_of_le vB hA.size
      have HB1 := Lib.hid (hA.alloc (by simp) (.cells #[.int .i64 kd, .int .i64 ct, .int .i64 f, .int .i64 lo, .int .i64 ln, .int .i64 ld, .int .i64 ho, .int .i64 h9, .int .i64 hd] 91))
      have HX1 := Lib.hid (HX.out.low ((Below.refl _ _).alloc (Nat.le_refl _) (.cells #[.int .i64 kd, .int .i64 ct, .int .i64 f, .int .i64 lo, .int .i64 ln, .int .i64 ld, .int .i64 ho, .int .i64 h9, .int .i64 hd] 91)))
      have HY := Lib.hid (BlkL.new (w.alloc (.cells #[.string nm, .slice (some ⟨vb, vo, none⟩) n c] 52)) 91 [.int .i64 kd, .int .i64 ct, .int .i64 f, .int .i64 lo, .int .i64 ln, .int .i64 ld, .int .i64 ho, .int .i64 h9, .int .i64 hd])
      have HN := Lib.hid hn
      clear hx hC hC2 hA hcase ih hm hn
      by_cases k1 : kd = 1
      · subst k1
        have HQ := Lib.hid (HST ct.toNat (W1 (Or.inl rfl)))
        clear HBAD HST W1 W3 W4 W0
        go_enter Tryz.func69, Tryz.ntmps69
        go_wp2_with fail
        change Code.wp _ _ _ _ ((w.alloc (.cells #[.string nm, .slice (some ⟨vb, vo, none⟩) n c] 52)).alloc (.cells #[.int .i64 1, .int .i64 ct, .int .i64 f, .int .i64 lo, .int .i64 ln, .int .i64 ld, .int .i64 ho, .int .i64 h9, .int .i64 hd] 91))
        clear z0 z1 z2 z3 z4 z5 z6 z7 z8 hvW
        have HX := 0
        have HY := 0
        have HA := 0
        generalize (w.alloc (.cells #[.string nm, .slice (some ⟨vb, vo, none⟩) n c] 52)).alloc (.cells #[.int .i64 1, .int .i64 ct, .int .i64 f, .int .i64 lo, .int .i64 ln, .int .i64 ld, .int .i64 ho, .int .i64 h9, .int .i64 hd] 91) = W at *
        go_loopw [7, 8] (fun at_ kk wr => ∃ (A K : Nat), at_ = .int .i64 A ∧ kk = .int .i64 K ∧ K + (i + 1) ≤ A ∧ A ≤ n ∧ K ≤ ct.toNat ∧ Hid (spA q i = stepsR (spA q) (ct.toNat - K) A) ∧ Below W.heap.size W wr) (fun _ kk _ => ct.toNat - (intOf kk).toNat)
        case atStart => exact ⟨i + 1, 0, by go_num, rfl, by omega, by omega, Nat.zero_le _, HQ, Below.refl _ _⟩
        case round =>
          obtain ⟨A, K, rfl, rfl, hA1, hA2, hK, HR, hbl⟩ := hrel
          have HBL := Lib.hid hbl
          have HX2 := Lib.hid (HX1.out.low hbl)
          have q0 := HX2.out.c 0 _ rfl
          have q1 := HX2.out.c 1 _ rfl
          by_cases hlt : (K : Int) < ct
          · have hKN : ct.toNat - K = (ct.toNat - (K + 1)) + 1 := by omega
            have SP := Lib.hid (IH.out A (by omega) wr (HB1.out.trans (hbl.mono HB1.out.size)))
            have hr := HR.out
            rw [hKN] at hr
            by_cases hz : spA q A = 0
            · rw [stepsR_none _ _ _ hz] at hr
              have HV := Lib.hid hr
              rw [hz] at SP
              clear hz hr hKN HR hbl
              go_wp2_with fail
              refine SP.out.mono ?_
              rintro e w1 ⟨rfl, hb1⟩
              have HE := Lib.hid (HB1.out.trans (HBL.out.trans (hb1.mono HBL.out.size) |>.mono HB1.out.size))
              clear hb1 q0 q1
              go_wp2_with fail
              go_ret
              exact ⟨by rw [HV.out]; rfl, HE.out⟩
            · rw [stepsR_some _ _ _ hz] at hr
              have hle := spA_le q A hz
              obtain ⟨A2, hA2e⟩ : ∃ A2, spA q A = A2 := ⟨_, rfl⟩
              rw [hA2e] at SP hr hle hz
              have HV := Lib.hid hr
              have ez : ((A2 : Int) == 0) = false := by simpa using hz
              have hA3 : A2 ≤ n := by have := HN.out; omega
              have hA4 : K + 1 + (i + 1) ≤ A2 := by omega
              have hKn : K + 1 ≤ 9223372036854775807 := by omega
              clear hz hr hKN HR hbl hA2e
              go_wp2_with fail
              refine SP.out.mono ?_
              rintro e w1 ⟨rfl, hb1⟩
              have HE := Lib.hid (HBL.out.trans (hb1.mono HBL.out.size))
              clear hb1 q0 q1
              go_wp2_with fail
              go_roundw
              case rel => exact ⟨A2, K + 1, rfl, by go_num, hA4, hA3, by omega, HV, HE.out⟩
              case measure => simp [intOf]; omega
          · have hKN : ct.toNat - K = 0 := by omega
            have hr := HR.out
            rw [hKN, stepsR_zero] at hr
            have HV := Lib.hid hr
            clear hr hKN HR hbl
            go_wp2_with fail
            go_ret
            exact ⟨by rw [HV.out]; rfl, HB1.out.trans (HBL.out.mono HB1.out.size)⟩
      · by_cases k2 : kd = 2
        · subst k2
          have HQ := Lib.hid (HST ct.toNat (W1 (Or.inr rfl)))
          clear HBAD HST W1 W3 W4 W0
          go_enter Tryz.func69, Tryz.ntmps69
          go_wp2_with fail
          change Code.wp _ _ _ _ ((w.alloc (.cells #[.string nm, .slice (some ⟨vb, vo, none⟩) n c] 52)).alloc (.cells #[.int .i64 2, .int .i64 ct, .int .i64 f, .int .i64 lo, .int .i64 ln, .int .i64 ld, .int .i64 ho, .int .i64 h9, .int .i64 hd] 91))
          clear z0 z1 z2 z3 z4 z5 z6 z7 z8 hvW
          have HX := 0
          have HY := 0
          have HA := 0
          generalize (w.alloc (.cells #[.string nm, .slice (some ⟨vb, vo, none⟩) n c] 52)).alloc (.cells #[.int .i64 2, .int .i64 ct, .int .i64 f, .int .i64 lo, .int .i64 ln, .int .i64 ld, .int .i64 ho, .int .i64 h9, .int .i64 hd] 91) = W at *
          go_loopw [7, 8] (fun at_ kk wr => ∃ (A K : Nat), at_ = .int .i64 A ∧ kk = .int .i64 K ∧ K + (i + 1) ≤ A ∧ A ≤ n ∧ K ≤ ct.toNat ∧ Hid (spA q i = stepsR (spA q) (ct.toNat - K) A) ∧ Below W.heap.size W wr) (fun _ kk _ => ct.toNat - (intOf kk).toNat)
          case atStart => exact ⟨i + 1, 0, by go_num, rfl, by omega, by omega, Nat.zero_le _, HQ, Below.refl _ _⟩
          case round =>
            obtain ⟨A, K, rfl, rfl, hA1, hA2, hK, HR, hbl⟩ := hrel
            have HBL := Lib.hid hbl
            have HX2 := Lib.hid (HX1.out.low hbl)
            have q0 := HX2.out.c 0 _ rfl
            have q1 := HX2.out.c 1 _ rfl
            by_cases hlt : (K : Int) < ct
            · have hKN : ct.toNat - K = (ct.toNat - (K + 1)) + 1 := by omega
              have SP := Lib.hid (IH.out A (by omega) wr (HB1.out.trans (hbl.mono HB1.out.size)))
              have hr := HR.out
              rw [hKN] at hr
              by_cases hz : spA q A = 0
              · rw [stepsR_none _ _ _ hz] at hr
                have HV := Lib.hid hr
                rw [hz] at SP
                clear hz hr hKN HR hbl
                go_wp2_with fail
                refine SP.out.mono ?_
                rintro e w1 ⟨rfl, hb1⟩
                have HE := Lib.hid (HB1.out.trans (HBL.out.trans (hb1.mono HBL.out.size) |>.mono HB1.out.size))
                clear hb1 q0 q1
                go_wp2_with fail
                go_ret
                exact ⟨by rw [HV.out]; rfl, HE.out⟩
              · rw [stepsR_some _ _ _ hz] at hr
                have hle := spA_le q A hz
                obtain ⟨A2, hA2e⟩ : ∃ A2, spA q A = A2 := ⟨_, rfl⟩
                rw [hA2e] at SP hr hle hz
                have HV := Lib.hid hr
                have ez : ((A2 : Int) == 0) = false := by simpa using hz
                have hA3 : A2 ≤ n := by have := HN.out; omega
                have hA4 : K + 1 + (i + 1) ≤ A2 := by omega
                have hKn : K + 1 ≤ 9223372036854775807 := by omega
                clear hz hr hKN HR hbl hA2e
                go_wp2_with fail
                refine SP.out.mono ?_
                rintro e w1 ⟨rfl, hb1⟩
                have HE := Lib.hid (HBL.out.trans (hb1.mono HBL.out.size))
                clear hb1 q0 q1
                go_wp2_with fail
                go_roundw
                case rel => exact ⟨A2, K + 1, rfl, by go_num, hA4, hA3, by omega, HV, HE.out⟩
                case measure => simp [intOf]; omega
            · have hKN : ct.toNat - K = 0 := by omega
              have hr := HR.out
              rw [hKN, stepsR_zero] at hr
              have HV := Lib.hid hr
              clear hr hKN HR hbl
              go_wp2_with fail
              go_ret
              exact ⟨by rw [HV.out]; rfl, HB1.out.trans (HBL.out.mono HB1.out.size)⟩
        · by_cases k3 : kd = 3
          · subst k3
            have HQ := Lib.hid (HST 1 (W3 rfl))
            clear HBAD HST W1 W3 W4 W0
            go_enter Tryz.func69, Tryz.ntmps69
            go_wp2_with fail
            change Code.wp _ _ _ _ ((w.alloc (.cells #[.string nm, .slice (some ⟨vb, vo, none⟩) n c] 52)).alloc (.cells #[.int .i64 3, .int .i64 ct, .int .i64 f, .int .i64 lo, .int .i64 ln, .int .i64 ld, .int .i64 ho, .int .i64 h9, .int .i64 hd] 91))
            clear z0 z1 z2 z3 z4 z5 z6 z7 z8 hvW
            have HX := 0
            have HY := 0
            have HA := 0
            generalize (w.alloc (.cells #[.string nm, .slice (some ⟨vb, vo, none⟩) n c] 52)).alloc (.cells #[.int .i64 3, .int .i64 ct, .int .i64 f, .int .i64 lo, .int .i64 ln, .int .i64 ld, .int .i64 ho, .int .i64 h9, .int .i64 hd] 91) = W at *
            go_loopw [7, 8] (fun at_ kk wr => ∃ (A K : Nat), at_ = .int .i64 A ∧ kk = .int .i64 K ∧ K + (i + 1) ≤ A ∧ A ≤ n ∧ K ≤ 1 ∧ Hid (spA q i = stepsR (spA q) (1 - K) A) ∧ Below W.heap.size W wr) (fun _ kk _ => 1 - (intOf kk).toNat)
            case atStart => exact ⟨i + 1, 0, by go_num, rfl, by omega, by omega, Nat.zero_le _, HQ, Below.refl _ _⟩
            case round =>
              obtain ⟨A, K, rfl, rfl, hA1, hA2, hK, HR, hbl⟩ := hrel
              have HBL := Lib.hid hbl
              have HX2 := Lib.hid (HX1.out.low hbl)
              have q0 := HX2.out.c 0 _ rfl
              have q1 := HX2.out.c 1 _ rfl
              by_cases hlt : (K : Int) < (1 : Int)
              · have hKN : 1 - K = (1 - (K + 1)) + 1 := by omega
                have SP := Lib.hid (IH.out A (by omega) wr (HB1.out.trans (hbl.mono HB1.out.size)))
                have hr := HR.out
                rw [hKN] at hr
                by_cases hz : spA q A = 0
                · rw [stepsR_none _ _ _ hz] at hr
                  have HV := Lib.hid hr
                  rw [hz] at SP
                  clear hz hr hKN HR hbl
                  go_wp2_with fail
                  refine SP.out.mono ?_
                  rintro e w1 ⟨rfl, hb1⟩
                  have HE := Lib.hid (HB1.out.trans (HBL.out.trans (hb1.mono HBL.out.size) |>.mono HB1.out.size))
                  clear hb1 q0 q1
                  go_wp2_with fail
                  go_ret
                  exact ⟨by rw [HV.out]; rfl, HE.out⟩
                · rw [stepsR_some _ _ _ hz] at hr
                  have hle := spA_le q A hz
                  obtain ⟨A2, hA2e⟩ : ∃ A2, spA q A = A2 := ⟨_, rfl⟩
                  rw [hA2e] at SP hr hle hz
                  have HV := Lib.hid hr
                  have ez : ((A2 : Int) == 0) = false := by simpa using hz
                  have hA3 : A2 ≤ n := by have := HN.out; omega
                  have hA4 : K + 1 + (i + 1) ≤ A2 := by omega
                  have hKn : K + 1 ≤ 9223372036854775807 := by omega
                  clear hz hr hKN HR hbl hA2e
                  go_wp2_with fail
                  refine SP.out.mono ?_
                  rintro e w1 ⟨rfl, hb1⟩
                  have HE := Lib.hid (HBL.out.trans (hb1.mono HBL.out.size))
                  clear hb1 q0 q1
                  go_wp2_with fail
                  go_roundw
                  case rel => exact ⟨A2, K + 1, rfl, by go_num, hA4, hA3, by omega, HV, HE.out⟩
                  case measure => simp [intOf]; omega
              · have hKN : 1 - K = 0 := by omega
                have hr := HR.out
                rw [hKN, stepsR_zero] at hr
                have HV := Lib.hid hr
                clear hr hKN HR hbl
                go_wp2_with fail
                go_ret
                exact ⟨by rw [HV.out]; rfl, HB1.out.trans (HBL.out.mono HB1.out.size)⟩
          · by_cases k4 : kd = 4
            · subst k4
              have HQ := Lib.hid (HST 0 (W4 rfl))
              clear HBAD HST W1 W3 W4 W0
              go_enter Tryz.func69, Tryz.ntmps69
              go_wp2_with fail
              change Code.wp _ _ _ _ ((w.alloc (.cells #[.string nm, .slice (some ⟨vb, vo, none⟩) n c] 52)).alloc (.cells #[.int .i64 4, .int .i64 ct, .int .i64 f, .int .i64 lo, .int .i64 ln, .int .i64 ld, .int .i64 ho, .int .i64 h9, .int .i64 hd] 91))
              clear z0 z1 z2 z3 z4 z5 z6 z7 z8 hvW
              have HX := 0
              have HY := 0
              have HA := 0
              generalize (w.alloc (.cells #[.string nm, .slice (some ⟨vb, vo, none⟩) n c] 52)).alloc (.cells #[.int .i64 4, .int .i64 ct, .int .i64 f, .int .i64 lo, .int .i64 ln, .int .i64 ld, .int .i64 ho, .int .i64 h9, .int .i64 hd] 91) = W at *
              go_loopw [7, 8] (fun at_ kk wr => ∃ (A K : Nat), at_ = .int .i64 A ∧ kk = .int .i64 K ∧ K + (i + 1) ≤ A ∧ A ≤ n ∧ K ≤ 0 ∧ Hid (spA q i = stepsR (spA q) (0 - K) A) ∧ Below W.heap.size W wr) (fun _ kk _ => 0 - (intOf kk).toNat)
              case atStart => exact ⟨i + 1, 0, by go_num, rfl, by omega, by omega, Nat.zero_le _, HQ, Below.refl _ _⟩
              case round =>
                obtain ⟨A, K, rfl, rfl, hA1, hA2, hK, HR, hbl⟩ := hrel
                have HBL := Lib.hid hbl
                have HX2 := Lib.hid (HX1.out.low hbl)
                have q0 := HX2.out.c 0 _ rfl
                have q1 := HX2.out.c 1 _ rfl
                by_cases hlt : (K : Int) < (0 : Int)
                · have hKN : 0 - K = (0 - (K + 1)) + 1 := by omega
                  have SP := Lib.hid (IH.out A (by omega) wr (HB1.out.trans (hbl.mono HB1.out.size)))
                  have hr := HR.out
                  rw [hKN] at hr
                  by_cases hz : spA q A = 0
                  · rw [stepsR_none _ _ _ hz] at hr
                    have HV := Lib.hid hr
                    rw [hz] at SP
                    clear hz hr hKN HR hbl
                    go_wp2_with fail
                    refine SP.out.mono ?_
                    rintro e w1 ⟨rfl, hb1⟩
                    have HE := Lib.hid (HB1.out.trans (HBL.out.trans (hb1.mono HBL.out.size) |>.mono HB1.out.size))
                    clear hb1 q0 q1
                    go_wp2_with fail
                    go_ret
                    exact ⟨by rw [HV.out]; rfl, HE.out⟩
                  · rw [stepsR_some _ _ _ hz] at hr
                    have hle := spA_le q A hz
                    obtain ⟨A2, hA2e⟩ : ∃ A2, spA q A = A2 := ⟨_, rfl⟩
                    rw [hA2e] at SP hr hle hz
                    have HV := Lib.hid hr
                    have ez : ((A2 : Int) == 0) = false := by simpa using hz
                    have hA3 : A2 ≤ n := by have := HN.out; omega
                    have hA4 : K + 1 + (i + 1) ≤ A2 := by omega
                    have hKn : K + 1 ≤ 9223372036854775807 := by omega
                    clear hz hr hKN HR hbl hA2e
                    go_wp2_with fail
                    refine SP.out.mono ?_
                    rintro e w1 ⟨rfl, hb1⟩
                    have HE := Lib.hid (HBL.out.trans (hb1.mono HBL.out.size))
                    clear hb1 q0 q1
                    go_wp2_with fail
                    go_roundw
                    case rel => exact ⟨A2, K + 1, rfl, by go_num, hA4, hA3, by omega, HV, HE.out⟩
                    case measure => simp [intOf]; omega
                · have hKN : 0 - K = 0 := by omega
                  have hr := HR.out
                  rw [hKN, stepsR_zero] at hr
                  have HV := Lib.hid hr
                  clear hr hKN HR hbl
                  go_wp2_with fail
                  go_ret
                  exact ⟨by rw [HV.out]; rfl, HB1.out.trans (HBL.out.mono HB1.out.size)⟩
            · have f1 : (kd == 1) = false := by simpa using k1
              have f2 : (kd == 2) = false := by simpa using k2
              have f3 : (kd == 3) = false := by simpa using k3
              have f4 : (kd == 4) = false := by simpa using k4
              have HV := Lib.hid (HBAD (W0 k1 k2 k3 k4))
              clear HBAD HST W1 W3 W4 W0 k1 k2 k3 k4
              go_enter Tryz.func69, Tryz.ntmps69
              go_wp2_with fail
              go_ret
              exact ⟨by rw [HV.out]; rfl, HB1.out⟩
    have HA := Lib.hid ((Below.refl w.heap.size w).alloc (Nat.le_refl _) (.cells #[.string nm, .slice a n c] 52))
    have d0 : decide ((i : Int) < 0) = false := decide_eq_false (by omega)
    have d1 : decide (n ≤ i) = true := decide_eq_true (by omega)
    have HV := Lib.hid (spA_out q i hin)
    clear hm hs hn ih
    go_enter Tryz.func69, Tryz.ntmps69
    go_wp2_with fail
    go_ret
    exact ⟨by rw [HV.out]; rfl, HA.out⟩
theorem all_take_go {α : Type} (p : α → Bool) (l : List α) (k : Nat) (h : k < l.length) (ht : (l.take k).all p = true) (hp : p l[k] = true) : (l.take (k + 1)).all p = true := by
  rw [List.take_succ_eq_append_getElem h, List.all_append, ht]; simp [hp]
theorem all_bad {α : Type} (p : α → Bool) (l : List α) (k : Nat) (h : k < l.length) (hp : p l[k] = false) : l.all p = false := List.all_eq_false.2 ⟨l[k], List.getElem_mem h, by simp [hp]⟩
theorem all_done {α : Type} (p : α → Bool) (l : List α) (k : Nat) (h : l.length ≤ k) (ht : (l.take k).all p = true) : l.all p = true := by rwa [List.take_of_length_le h] at ht
theorem refQryRight_bad (nm : List UInt8) (a : Option Addr) (c n : Nat) (w : World) (hz : nm.length ≤ 9223372036854775807) (h : nm ≠ []) (hb : nameB nm = false ∨ nameB nm = true ∧ reservedB nm = true) :
    Calls Tryz.prog 31 #[.agg #[.string (bs nm), .slice a n c]] w fun e w' => e = .returned (.bool false) ∧ Below w.heap.size w w' := by
  have HA := Lib.hid ((Below.refl w.heap.size w).alloc (Nat.le_refl _) (.cells #[.string (bs nm), .slice a n c] 52))
  obtain ⟨x1, x2, x3⟩ := nonempty_of7 nm h
  have NC := refNameC nm hz
  have RC := fun ww => refReserved_any nm ww
  clear h hz
  rcases hb with hb | ⟨hb, hr⟩
  · rw [hb] at NC
    have NC := Lib.hid NC
    clear hb RC
    go_enter Tryz.func31, Tryz.ntmps31
    go_wp2_with (first | (go_at_call 66; refine (NC.out _).mono ?_; rintro e w9 ⟨rfl, rfl⟩))
    go_ret
    exact ⟨rfl, HA.out⟩
  rw [hb] at NC
  rw [hr] at RC
  have NC := Lib.hid NC
  have RC := Lib.hid RC
  clear hb hr
  go_enter Tryz.func31, Tryz.ntmps31
  go_wp2_with (first | (go_at_call 66; refine (NC.out _).mono ?_; rintro e w9 ⟨rfl, rfl⟩) | (go_at_call 67; refine (RC.out _).mono ?_; rintro e w9 ⟨rfl, hb9⟩; have HA := Lib.hid (HA.out.trans (hb9.mono HA.out.size)); clear hb9))
  go_ret
  exact ⟨rfl, HA.out⟩
theorem refQryRight_ok (nm : List UInt8) (a : Option Addr) (c n : Nat) (l : List QNodeM) (w : World) (hz : nm.length ≤ 9223372036854775807) (h : nm = [] ∨ nm ≠ [] ∧ nameB nm = true ∧ reservedB nm = false) (hn : n = l.length) (hs : SlAt w (.slice a n c) n (l.flatMap nod9)) :
    Calls Tryz.prog 31 #[.agg #[.string (bs nm), .slice a n c]] w fun e w' => e = .returned (.bool (decide (l ≠ [] ∧ l.length ≤ 32 ∧ spanP l = l.length) && l.all rightQ)) ∧ Below w.heap.size w w' := by
  have hA := (Below.refl w.heap.size w).alloc (Nat.le_refl _) (.cells #[.string (bs nm), .slice a n c] 52)
  have HX := Lib.hid (BlkL.new w 52 [.string (bs nm), .slice a n c])
  have HA := Lib.hid hA
  have HS := Lib.hid (hs.below hA)
  have HN := Lib.hid hn
  have hcap : n ≤ c ∧ c ≤ 9223372036854775807 := by obtain ⟨_, _, e, h1, h2, _⟩ := hs; cases e; exact ⟨h1, h2⟩
  have NC := refNameC nm hz
  have RC := fun ww => refReserved_any nm ww
  have SP := Lib.hid (fun (ww : World) (hh : SlAt ww (.slice a n c) n (l.flatMap nod9)) => refSpan_any (bs nm) a c n l hn _ 0 ww (Nat.le_refl _) hh)
  rw [← spanP_spA] at SP
  have hl0 : l = [] ↔ n = 0 := by rw [hn]; exact List.length_eq_zero_iff.symm
  have hv : (decide (l ≠ [] ∧ l.length ≤ 32 ∧ spanP l = l.length) && l.all rightQ) = (decide (n ≠ 0 ∧ n ≤ 32 ∧ spanP l = n) && l.all rightQ) := by
    rw [← hn]; simp only [ne_eq, hl0]
  rw [hv]
  obtain ⟨sp, hsp⟩ : ∃ sp, spanP l = sp := ⟨_, rfl⟩
  rw [hsp] at SP ⊢
  have hn0 : n ≤ 9223372036854775807 := by omega
  clear hs hn hl0 hv hA hsp hz
  rcases h with h | ⟨h, hb, hr⟩
  · obtain ⟨x1, x2, x3⟩ := empty_of7 nm h
    clear h NC RC
    have q0 := HX.out.c 0 _ rfl
    have q1 := HX.out.c 1 _ rfl
    have gx := HX.out.lt
    go_enter Tryz.func31, Tryz.ntmps31
    go_wp2_with fail
    change Code.wp _ _ _ _ (w.alloc (.cells #[.string (bs nm), .slice a n c] 52))
    generalize w.alloc (.cells #[.string (bs nm), .slice a n c] 52) = W at *
    clear q0 q1 gx
    go_loopw [3] (fun i wr => ∃ k : Nat, i = .int .i64 k ∧ k ≤ n ∧ Hid ((l.take k).all rightQ = true) ∧ Below W.heap.size W wr) (fun i _ => n - (intOf i).toNat)
    case atStart => exact ⟨0, rfl, by omega, Lib.hid rfl, Below.refl _ _⟩
    case round =>
      obtain ⟨k, rfl, hk, HR, hbl⟩ := hrel
      have HBL := Lib.hid hbl
      have HE := Lib.hid (HA.out.trans (hbl.mono HA.out.size))
      have HX2 := Lib.hid (HX.out.low hbl)
      have HS2 := Lib.hid (HS.out.below hbl)
      have q0 := HX2.out.c 0 _ rfl
      have q1 := HX2.out.c 1 _ rfl
      have gx := HX2.out.lt
      by_cases hlt : k < n
      · have hkl : k < l.length := by have := HN.out; omega
        obtain ⟨_, _, e0, _, _, hcase⟩ := HS2.out
        cases e0
        obtain ⟨vb, vo, rfl, vB, hC⟩ : ∃ b o, a = some ⟨b, o, none⟩ ∧ b < wr.heap.size ∧ CellsAt wr b o (l.flatMap nod9) := by
          rcases hcase with ⟨h0, _⟩ | h
          · omega
          exact h
        have z0 := hC.get nod9_len k 0 hkl (by decide) rfl
        have z1 := hC.get nod9_len k 1 hkl (by decide) rfl
        have z2 := hC.get nod9_len k 2 hkl (by decide) rfl
        have z3 := hC.get nod9_len k 3 hkl (by decide) rfl
        have z4 := hC.get nod9_len k 4 hkl (by decide) rfl
        have z5 := hC.get nod9_len k 5 hkl (by decide) rfl
        have z6 := hC.get nod9_len k 6 hkl (by decide) rfl
        have z7 := hC.get nod9_len k 7 hkl (by decide) rfl
        have z8 := hC.get nod9_len k 8 hkl (by decide) rfl
        rw [Nat.add_zero] at z0
        rw [← Nat.add_assoc] at z1 z2 z3 z4 z5 z6 z7 z8
        have AS := all_take_go rightQ l k hkl HR.out
        have AA := all_bad rightQ l k hkl
        obtain ⟨x, hx⟩ : ∃ x, l[k] = x := ⟨_, rfl⟩
        rw [hx] at z0 z1 z2 z3 z4 z5 z6 z7 z8 AS AA
        obtain ⟨kd, ct, f, ⟨lo, ln, ld⟩, ⟨ho, h9, hd⟩⟩ := x
        simp only at z0 z1 z2 z3 z4 z5 z6 z7 z8
        have RN := fun ww => refNode_any kd ct f lo ln ld ho h9 hd ww
        rw [rNode_eq] at RN
        clear hx hC hcase hkl hbl HR
        cases hr9 : rightQ ⟨kd, ct, f, ⟨lo, ln, ld⟩, ⟨ho, h9, hd⟩⟩
        · rw [hr9] at RN
          have RN := Lib.hid RN
          have HF := Lib.hid (show (decide (n ≠ 0 ∧ n ≤ 32 ∧ sp = n) && l.all rightQ) = false by rw [AA hr9, Bool.and_false])
          clear AS AA hr9
          go_wp2_with fail
          refine (RN.out _).mono ?_
          rintro e w1 ⟨rfl, hb1⟩
          have HE1 := Lib.hid (HE.out.trans (hb1.mono HE.out.size))
          clear hb1 z0 z1 z2 z3 z4 z5 z6 z7 z8 q0 q1
          go_wp2_with fail
          go_ret
          exact ⟨by rw [HF.out]; rfl, HE1.out⟩
        · rw [hr9] at RN
          have RN := Lib.hid RN
          have HF := Lib.hid (AS hr9)
          clear AS AA hr9
          go_wp2_with fail
          refine (RN.out _).mono ?_
          rintro e w1 ⟨rfl, hb1⟩
          have HE1 := Lib.hid (HBL.out.trans (hb1.mono HBL.out.size))
          clear hb1 z0 z1 z2 z3 z4 z5 z6 z7 z8 q0 q1
          go_wp2_with fail
          go_roundw
          case rel => exact ⟨k + 1, by go_num, by omega, HF, HE1.out⟩
          case measure => simp [intOf]; omega
      · have HT := Lib.hid (all_done rightQ l k (by have := HN.out; omega) HR.out)
        have dk : decide ((k : Int) < (n : Int)) = false := decide_eq_false (by omega)
        clear HR hbl
        by_cases h0 : n = 0
        · have p0 : decide ((0 : Int) < (n : Int)) = false := decide_eq_false (by omega)
          have p1 : decide (0 < n) = false := decide_eq_false (by omega)
          have HF := Lib.hid (show (decide (n ≠ 0 ∧ n ≤ 32 ∧ sp = n) && l.all rightQ) = false by simp [h0])
          clear h0 SP
          go_wp2_with fail
          go_quiet (fail)
          go_wp2_with fail
          go_ret
          exact ⟨by rw [HF.out]; rfl, below_drewN HE.out _⟩
        · have p0 : decide ((0 : Int) < (n : Int)) = true := decide_eq_true (by omega)
          have p1 : decide (0 < n) = true := decide_eq_true (by omega)
          have p2 : (0 < n) = True := eq_true (by omega)
          by_cases h32 : n ≤ 32
          · have d32 : decide ((n : Int) ≤ 32) = true := decide_eq_true (by omega)
            have HF := Lib.hid (show (decide (n ≠ 0 ∧ n ≤ 32 ∧ sp = n) && l.all rightQ) = decide (sp = n) by rw [HT.out]; simp [h0, h32])
            clear h0
            have hse : ((sp : Int) == (n : Int)) = decide (sp = n) := by rw [Bool.eq_iff_iff]; simp; omega
            go_wp2_with fail
            go_region_with ((go_at_call 69; refine (SP.out _ (HS2.out.below (Below.refl _ _).drew)).mono ?_; rintro e w2 ⟨rfl, hb2⟩; have q1' := (hb2.cell (p := ⟨w.heap.size, 1, none⟩) (by simp [gx])).trans q1; have HE2 := Lib.hid (HE.out.drew.trans (hb2.mono HE.out.drew.size)); clear hb2))
            all_goals
              go_wp2_with fail
              go_ret
              exact ⟨by rw [HF.out]; first | rfl | (simp only [hse]; done), HE2.out⟩
          · have d32 : decide ((n : Int) ≤ 32) = false := decide_eq_false (by omega)
            have HF := Lib.hid (show (decide (n ≠ 0 ∧ n ≤ 32 ∧ sp = n) && l.all rightQ) = false by simp [h32])
            clear h0 h32 SP
            go_wp2_with fail
            go_quiet (fail)
            go_wp2_with fail
            go_ret
            exact ⟨by rw [HF.out]; rfl, below_drewN HE.out _⟩
  obtain ⟨x1, x2, x3⟩ := nonempty_of7 nm h
  rw [hb] at NC
  rw [hr] at RC
  have NC := Lib.hid NC
  have RC := Lib.hid RC
  clear h hb hr
  have q0 := HX.out.c 0 _ rfl
  have q1 := HX.out.c 1 _ rfl
  have gx := HX.out.lt
  go_enter Tryz.func31, Tryz.ntmps31
  go_wp2_with (first | (go_at_call 66; refine (NC.out _).mono ?_; rintro e w9 ⟨rfl, rfl⟩) | (go_at_call 67; refine (RC.out _).mono ?_; rintro e W ⟨rfl, hb9⟩; have HX := Lib.hid (HX.out.low hb9); have HS := Lib.hid (HS.out.below hb9); have HA := Lib.hid (HA.out.trans (hb9.mono HA.out.size)); have q0 := HX.out.c 0 _ rfl; have q1 := HX.out.c 1 _ rfl; have gx := HX.out.lt; clear hb9))
  clear q0 q1 gx
  go_loopw [3] (fun i wr => ∃ k : Nat, i = .int .i64 k ∧ k ≤ n ∧ Hid ((l.take k).all rightQ = true) ∧ Below W.heap.size W wr) (fun i _ => n - (intOf i).toNat)
  case atStart => exact ⟨0, rfl, by omega, Lib.hid rfl, Below.refl _ _⟩
  case round =>
    obtain ⟨k, rfl, hk, HR, hbl⟩ := hrel
    have HBL := Lib.hid hbl
    have HE := Lib.hid (HA.out.trans (hbl.mono HA.out.size))
    have HX2 := Lib.hid (HX.out.low hbl)
    have HS2 := Lib.hid (HS.out.below hbl)
    have q0 := HX2.out.c 0 _ rfl
    have q1 := HX2.out.c 1 _ rfl
    have gx := HX2.out.lt
    by_cases hlt : k < n
    · have hkl : k < l.length := by have := HN.out; omega
      obtain ⟨_, _, e0, _, _, hcase⟩ := HS2.out
      cases e0
      obtain ⟨vb, vo, rfl, vB, hC⟩ : ∃ b o, a = some ⟨b, o, none⟩ ∧ b < wr.heap.size ∧ CellsAt wr b o (l.flatMap nod9) := by
        rcases hcase with ⟨h0, _⟩ | h
        · omega
        exact h
      have z0 := hC.get nod9_len k 0 hkl (by decide) rfl
      have z1 := hC.get nod9_len k 1 hkl (by decide) rfl
      have z2 := hC.get nod9_len k 2 hkl (by decide) rfl
      have z3 := hC.get nod9_len k 3 hkl (by decide) rfl
      have z4 := hC.get nod9_len k 4 hkl (by decide) rfl
      have z5 := hC.get nod9_len k 5 hkl (by decide) rfl
      have z6 := hC.get nod9_len k 6 hkl (by decide) rfl
      have z7 := hC.get nod9_len k 7 hkl (by decide) rfl
      have z8 := hC.get nod9_len k 8 hkl (by decide) rfl
      rw [Nat.add_zero] at z0
      rw [← Nat.add_assoc] at z1 z2 z3 z4 z5 z6 z7 z8
      have AS := all_take_go rightQ l k hkl HR.out
      have AA := all_bad rightQ l k hkl
      obtain ⟨x, hx⟩ : ∃ x, l[k] = x := ⟨_, rfl⟩
      rw [hx] at z0 z1 z2 z3 z4 z5 z6 z7 z8 AS AA
      obtain ⟨kd, ct, f, ⟨lo, ln, ld⟩, ⟨ho, h9, hd⟩⟩ := x
      simp only at z0 z1 z2 z3 z4 z5 z6 z7 z8
      have RN := fun ww => refNode_any kd ct f lo ln ld ho h9 hd ww
      rw [rNode_eq] at RN
      clear hx hC hcase hkl hbl HR
      cases hr9 : rightQ ⟨kd, ct, f, ⟨lo, ln, ld⟩, ⟨ho, h9, hd⟩⟩
      · rw [hr9] at RN
        have RN := Lib.hid RN
        have HF := Lib.hid (show (decide (n ≠ 0 ∧ n ≤ 32 ∧ sp = n) && l.all rightQ) = false by rw [AA hr9, Bool.and_false])
        clear AS AA hr9
        go_wp2_with fail
        refine (RN.out _).mono ?_
        rintro e w1 ⟨rfl, hb1⟩
        have HE1 := Lib.hid (HE.out.trans (hb1.mono HE.out.size))
        clear hb1 z0 z1 z2 z3 z4 z5 z6 z7 z8 q0 q1
        go_wp2_with fail
        go_ret
        exact ⟨by rw [HF.out]; rfl, HE1.out⟩
      · rw [hr9] at RN
        have RN := Lib.hid RN
        have HF := Lib.hid (AS hr9)
        clear AS AA hr9
        go_wp2_with fail
        refine (RN.out _).mono ?_
        rintro e w1 ⟨rfl, hb1⟩
        have HE1 := Lib.hid (HBL.out.trans (hb1.mono HBL.out.size))
        clear hb1 z0 z1 z2 z3 z4 z5 z6 z7 z8 q0 q1
        go_wp2_with fail
        go_roundw
        case rel => exact ⟨k + 1, by go_num, by omega, HF, HE1.out⟩
        case measure => simp [intOf]; omega
    have HT := Lib.hid (all_done rightQ l k (by have := HN.out; omega) HR.out)
    have dk : decide ((k : Int) < (n : Int)) = false := decide_eq_false (by omega)
    clear HR hbl
    by_cases h0 : n = 0
    · have p0 : decide ((0 : Int) < (n : Int)) = false := decide_eq_false (by omega)
      have p1 : decide (0 < n) = false := decide_eq_false (by omega)
      have HF := Lib.hid (show (decide (n ≠ 0 ∧ n ≤ 32 ∧ sp = n) && l.all rightQ) = false by simp [h0])
      clear h0 SP
      go_wp2_with fail
      go_quiet (fail)
      go_wp2_with fail
      go_ret
      exact ⟨by rw [HF.out]; rfl, below_drewN HE.out _⟩
    have p0 : decide ((0 : Int) < (n : Int)) = true := decide_eq_true (by omega)
    have p1 : decide (0 < n) = true := decide_eq_true (by omega)
    have p2 : (0 < n) = True := eq_true (by omega)
    by_cases h32 : n ≤ 32
    · have d32 : decide ((n : Int) ≤ 32) = true := decide_eq_true (by omega)
      have HF := Lib.hid (show (decide (n ≠ 0 ∧ n ≤ 32 ∧ sp = n) && l.all rightQ) = decide (sp = n) by rw [HT.out]; simp [h0, h32])
      clear h0
      have hse : ((sp : Int) == (n : Int)) = decide (sp = n) := by rw [Bool.eq_iff_iff]; simp; omega
      go_wp2_with fail
      go_region_with ((go_at_call 69; refine (SP.out _ (HS2.out.below (Below.refl _ _).drew)).mono ?_; rintro e w2 ⟨rfl, hb2⟩; have q1' := (hb2.cell (p := ⟨w.heap.size, 1, none⟩) (by simp [gx])).trans q1; have HE2 := Lib.hid (HE.out.drew.trans (hb2.mono HE.out.drew.size)); clear hb2))
      all_goals
        go_wp2_with fail
        go_ret
        exact ⟨by rw [HF.out]; first | rfl | (simp only [hse]; done), HE2.out⟩
    have d32 : decide ((n : Int) ≤ 32) = false := decide_eq_false (by omega)
    have HF := Lib.hid (show (decide (n ≠ 0 ∧ n ≤ 32 ∧ sp = n) && l.all rightQ) = false by simp [h32])
    clear h0 h32 SP
    go_wp2_with fail
    go_quiet (fail)
    go_wp2_with fail
    go_ret
    exact ⟨by rw [HF.out]; rfl, below_drewN HE.out _⟩
theorem refQryRight_any (w0 ww : World) (hb : Below w0.heap.size w0 ww) (cs : List Value) (q : QueryM) (h : QryR w0 cs q) :
    Calls Tryz.prog 31 #[.agg cs.toArray] ww fun e w' => e = .returned (.bool (queryB q)) ∧ Below ww.heap.size ww w' := by
  obtain ⟨a, c, rfl, hs, hz⟩ := h.below hb
  obtain ⟨nm, l⟩ := q
  simp only at hs hz ⊢
  unfold queryB
  simp only
  by_cases hn : nm = []
  · have e : (decide (nm = []) || (nameB nm && !(reservedB nm))) = true := by simp [hn]
    rw [e, Bool.true_and]
    exact refQryRight_ok nm a c _ l ww hz (Or.inl hn) rfl hs
  cases h1 : nameB nm
  · have e : (decide (nm = []) || (false && !(reservedB nm))) = false := by simp [hn]
    rw [e, Bool.false_and, Bool.false_and]
    exact refQryRight_bad nm a c _ ww hz hn (Or.inl h1)
  cases h2 : reservedB nm
  · have e : (decide (nm = []) || (true && !false)) = true := by simp
    rw [e, Bool.true_and]
    exact refQryRight_ok nm a c _ l ww hz (Or.inr ⟨hn, h1, h2⟩) rfl hs
  have e : (decide (nm = []) || (true && !true)) = false := by simp [hn]
  rw [e, Bool.false_and, Bool.false_and]
  exact refQryRight_bad nm a c _ ww hz hn (Or.inr ⟨h1, h2⟩)
end Go.Proofs.YtabhokgefpilkaaGreatDoor
