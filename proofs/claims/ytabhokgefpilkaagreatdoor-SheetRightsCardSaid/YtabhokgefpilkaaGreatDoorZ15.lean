/-
  Texts of the proof, merged: Walks of layer 8: may a query's node be? Walks of layer 8: may a query's node be? Walks of layer 8: reserved words; how
-/
import Derived.Test.YtabhokgefpilkaaGreatDoorZ13
import Derived.Test.YtabhokgefpilkaaGreatDoorZ14
set_option linter.all false
set_option maxHeartbeats 4000000
set_option maxRecDepth 100000
namespace Go.Proofs.YtabhokgefpilkaaGreatDoor
open Go.RowKit Wsc
theorem qryfits_any (k ct f lo ln ld ho hn hd : Int) (w : World) :
    Calls Tryz.prog 123 #[Value.agg #[Value.int .i64 k, Value.int .i64 ct, Value.int .i64 f, Value.int .i64 lo, Value.int .i64 ln, Value.int .i64 ld, Value.int .i64 ho, Value.int .i64 hn, Value.int .i64 hd]] w fun e w' => e = .returned (.bool (fitsB ⟨k, ct, f, ⟨lo, ln, ld⟩, ⟨ho, hn, hd⟩⟩)) ∧ Below w.heap.size w w' := by
  have HB := Lib.hid (((Below.refl w.heap.size w).alloc (Nat.le_refl _) (.cells #[Value.int .i64 k, Value.int .i64 ct, Value.int .i64 f, Value.int .i64 lo, Value.int .i64 ln, Value.int .i64 ld, Value.int .i64 ho, Value.int .i64 hn, Value.int .i64 hd] 91)).alloc (by simp) (.cells #[Value.int .i64 0, Value.int .i64 0, Value.int .i64 0] 89))
  have HX0 := Lib.hid ((BlkL.new w 91 [Value.int .i64 k, Value.int .i64 ct, Value.int .i64 f, Value.int .i64 lo, Value.int .i64 ln, Value.int .i64 ld, Value.int .i64 ho, Value.int .i64 hn, Value.int .i64 hd]).low ((Below.refl _ _).alloc (Nat.le_refl _) (.cells #[Value.int .i64 0, Value.int .i64 0, Value.int .i64 0] 89)))
  have hx1 := (BlkL.new (w.alloc (.cells #[Value.int .i64 k, Value.int .i64 ct, Value.int .i64 f, Value.int .i64 lo, Value.int .i64 ln, Value.int .i64 ld, Value.int .i64 ho, Value.int .i64 hn, Value.int .i64 hd] 91)) 89 [Value.int .i64 0, Value.int .i64 0, Value.int .i64 0])
  rw [World.size_alloc] at hx1
  have HX1 := Lib.hid hx1
  clear hx1
  by_cases h_HZ : (⟨ho, hn, hd⟩ : BoundM) = noBound
  · obtain ⟨d_HZ, H_HZ⟩ := yesP h_HZ; have E_HZ := bEqY h_HZ; clear h_HZ
    by_cases h_LZ : (⟨lo, ln, ld⟩ : BoundM) = noBound
    · obtain ⟨d_LZ, H_LZ⟩ := yesP h_LZ; have E_LZ := bEqY h_LZ; clear h_LZ
      have HF : Hid ((fitsB ⟨k, ct, f, ⟨lo, ln, ld⟩, ⟨ho, hn, hd⟩⟩) = true) := Lib.hid (by unfold fitsB; simp only; simp [H_HZ.out, H_LZ.out])
      go_enter Tryz.func123, Tryz.ntmps123; go_wp2_with fail; go_ret; exact fb HF HB
    obtain ⟨d_LZ, H_LZ⟩ := noP h_LZ; have E_LZ := bEqN h_LZ; clear h_LZ
    have HF : Hid ((fitsB ⟨k, ct, f, ⟨lo, ln, ld⟩, ⟨ho, hn, hd⟩⟩) = false) := Lib.hid (by unfold fitsB; simp only; simp [H_HZ.out, H_LZ.out])
    go_enter Tryz.func123, Tryz.ntmps123; go_wp2_with fail; go_ret; exact fb HF HB
  obtain ⟨d_HZ, H_HZ⟩ := noP h_HZ; have E_HZ := bEqN h_HZ; clear h_HZ
  by_cases h_H1 : ho < 1
  · obtain ⟨d_H1, H_H1⟩ := yesP h_H1; clear h_H1
    have HF : Hid ((fitsB ⟨k, ct, f, ⟨lo, ln, ld⟩, ⟨ho, hn, hd⟩⟩) = false) := Lib.hid (by unfold fitsB; simp only; simp [H_HZ.out, H_H1.out])
    go_enter Tryz.func123, Tryz.ntmps123; go_wp2_with fail; go_ret; exact fb HF HB
  obtain ⟨d_H1, H_H1⟩ := noP h_H1; clear h_H1
  by_cases h_H5 : 5 < ho
  · obtain ⟨d_H5, H_H5⟩ := yesP h_H5; clear h_H5
    have HF : Hid ((fitsB ⟨k, ct, f, ⟨lo, ln, ld⟩, ⟨ho, hn, hd⟩⟩) = false) := Lib.hid (by unfold fitsB; simp only; simp [H_HZ.out, H_H1.out, H_H5.out])
    go_enter Tryz.func123, Tryz.ntmps123; go_wp2_with fail; go_ret; exact fb HF HB
  obtain ⟨d_H5, H_H5⟩ := noP h_H5; clear h_H5
  cases h_VH : valueB f ⟨ho, hn, hd⟩
  · have C_VH := Lib.hid (by have q := (fun ww => qryvalue_any f ho hn hd ww); rw [h_VH] at q; exact q)
    have HF : Hid ((fitsB ⟨k, ct, f, ⟨lo, ln, ld⟩, ⟨ho, hn, hd⟩⟩) = false) := Lib.hid (by unfold fitsB; simp only; simp [H_HZ.out, H_H1.out, H_H5.out, h_VH])
    go_enter Tryz.func123, Tryz.ntmps123; go_wp2_with (first | (go_at_call_of 181 (Value.agg #[Value.int IntKind.i64 ho, Value.int IntKind.i64 hn, Value.int IntKind.i64 hd]); refine (C_VH.out _ ).mono ?_; rintro e w9 ⟨rfl, hb9⟩; have HB := bT HB hb9; have HX0 := bL HX0 hb9; obtain ⟨q0_0, q0_1, q0_2, q0_3, q0_4, q0_5, q0_6, q0_7, q0_8⟩ := HX0.out.c9; have HX1 := bL HX1 hb9; obtain ⟨q1_0, q1_1, q1_2⟩ := HX1.out.c3; clear hb9)); go_ret; exact fb HF HB
  have C_VH := Lib.hid (by have q := (fun ww => qryvalue_any f ho hn hd ww); rw [h_VH] at q; exact q)
  by_cases h_LZ : (⟨lo, ln, ld⟩ : BoundM) = noBound
  · obtain ⟨d_LZ, H_LZ⟩ := yesP h_LZ; have E_LZ := bEqY h_LZ; clear h_LZ
    have HF : Hid ((fitsB ⟨k, ct, f, ⟨lo, ln, ld⟩, ⟨ho, hn, hd⟩⟩) = true) := Lib.hid (by unfold fitsB; simp only; simp [H_HZ.out, H_H1.out, H_H5.out, h_VH, H_LZ.out])
    go_enter Tryz.func123, Tryz.ntmps123; go_wp2_with (first | (go_at_call_of 181 (Value.agg #[Value.int IntKind.i64 ho, Value.int IntKind.i64 hn, Value.int IntKind.i64 hd]); refine (C_VH.out _ ).mono ?_; rintro e w9 ⟨rfl, hb9⟩; have HB := bT HB hb9; have HX0 := bL HX0 hb9; obtain ⟨q0_0, q0_1, q0_2, q0_3, q0_4, q0_5, q0_6, q0_7, q0_8⟩ := HX0.out.c9; have HX1 := bL HX1 hb9; obtain ⟨q1_0, q1_1, q1_2⟩ := HX1.out.c3; clear hb9)); go_ret; exact fb HF HB
  obtain ⟨d_LZ, H_LZ⟩ := noP h_LZ; have E_LZ := bEqN h_LZ; clear h_LZ
  cases h_DL : downB lo
  · have C_DL := Lib.hid (by have q := (fun ww => qrydown_any lo ww); rw [h_DL] at q; exact q)
    cases h_UL : upQ lo
    · have C_UL := Lib.hid (by have q := (fun ww => qryup_any lo ww); rw [h_UL] at q; exact q)
      have HF : Hid ((fitsB ⟨k, ct, f, ⟨lo, ln, ld⟩, ⟨ho, hn, hd⟩⟩) = false) := Lib.hid (by unfold fitsB; simp only; simp [H_HZ.out, H_H1.out, H_H5.out, h_VH, H_LZ.out, h_DL, h_UL])
      go_enter Tryz.func123, Tryz.ntmps123; go_wp2_with (first | (go_at_call_of 181 (Value.agg #[Value.int IntKind.i64 ho, Value.int IntKind.i64 hn, Value.int IntKind.i64 hd]); refine (C_VH.out _ ).mono ?_; rintro e w9 ⟨rfl, hb9⟩; have HB := bT HB hb9; have HX0 := bL HX0 hb9; obtain ⟨q0_0, q0_1, q0_2, q0_3, q0_4, q0_5, q0_6, q0_7, q0_8⟩ := HX0.out.c9; have HX1 := bL HX1 hb9; obtain ⟨q1_0, q1_1, q1_2⟩ := HX1.out.c3; clear hb9) | (go_at_call_of 182 (Value.int IntKind.i64 lo); refine (C_DL.out _).mono ?_; rintro e w9 ⟨rfl, rfl⟩) | (go_at_call_of 183 (Value.int IntKind.i64 lo); refine (C_UL.out _).mono ?_; rintro e w9 ⟨rfl, rfl⟩)); go_ret; exact fb HF HB
    have C_UL := Lib.hid (by have q := (fun ww => qryup_any lo ww); rw [h_UL] at q; exact q)
    cases h_UH : upQ ho
    · have C_UH := Lib.hid (by have q := (fun ww => qryup_any ho ww); rw [h_UH] at q; exact q)
      have HF : Hid ((fitsB ⟨k, ct, f, ⟨lo, ln, ld⟩, ⟨ho, hn, hd⟩⟩) = false) := Lib.hid (by unfold fitsB; simp only; simp [H_HZ.out, H_H1.out, H_H5.out, h_VH, H_LZ.out, h_DL, h_UL, h_UH])
      go_enter Tryz.func123, Tryz.ntmps123; go_wp2_with (first | (go_at_call_of 181 (Value.agg #[Value.int IntKind.i64 ho, Value.int IntKind.i64 hn, Value.int IntKind.i64 hd]); refine (C_VH.out _ ).mono ?_; rintro e w9 ⟨rfl, hb9⟩; have HB := bT HB hb9; have HX0 := bL HX0 hb9; obtain ⟨q0_0, q0_1, q0_2, q0_3, q0_4, q0_5, q0_6, q0_7, q0_8⟩ := HX0.out.c9; have HX1 := bL HX1 hb9; obtain ⟨q1_0, q1_1, q1_2⟩ := HX1.out.c3; clear hb9) | (go_at_call_of 182 (Value.int IntKind.i64 lo); refine (C_DL.out _).mono ?_; rintro e w9 ⟨rfl, rfl⟩) | (go_at_call_of 183 (Value.int IntKind.i64 lo); refine (C_UL.out _).mono ?_; rintro e w9 ⟨rfl, rfl⟩) | (go_at_call_of 183 (Value.int IntKind.i64 ho); refine (C_UH.out _).mono ?_; rintro e w9 ⟨rfl, rfl⟩)); go_ret; exact fb HF HB
    have C_UH := Lib.hid (by have q := (fun ww => qryup_any ho ww); rw [h_UH] at q; exact q)
    by_cases h_F6 : f = 6
    · obtain ⟨d_F6, e_F6, n_F6, H_F6⟩ := yesE h_F6; clear h_F6
      have HF : Hid ((fitsB ⟨k, ct, f, ⟨lo, ln, ld⟩, ⟨ho, hn, hd⟩⟩) = false) := Lib.hid (by unfold fitsB; simp only; simp [H_HZ.out, H_H1.out, H_H5.out, h_VH, H_LZ.out, h_DL, h_UL, h_UH, H_F6.out])
      go_enter Tryz.func123, Tryz.ntmps123; go_wp2_with (first | (go_at_call_of 181 (Value.agg #[Value.int IntKind.i64 ho, Value.int IntKind.i64 hn, Value.int IntKind.i64 hd]); refine (C_VH.out _ ).mono ?_; rintro e w9 ⟨rfl, hb9⟩; have HB := bT HB hb9; have HX0 := bL HX0 hb9; obtain ⟨q0_0, q0_1, q0_2, q0_3, q0_4, q0_5, q0_6, q0_7, q0_8⟩ := HX0.out.c9; have HX1 := bL HX1 hb9; obtain ⟨q1_0, q1_1, q1_2⟩ := HX1.out.c3; clear hb9) | (go_at_call_of 182 (Value.int IntKind.i64 lo); refine (C_DL.out _).mono ?_; rintro e w9 ⟨rfl, rfl⟩) | (go_at_call_of 183 (Value.int IntKind.i64 lo); refine (C_UL.out _).mono ?_; rintro e w9 ⟨rfl, rfl⟩) | (go_at_call_of 183 (Value.int IntKind.i64 ho); refine (C_UH.out _).mono ?_; rintro e w9 ⟨rfl, rfl⟩)); go_ret; exact fb HF HB
    obtain ⟨d_F6, e_F6, n_F6, H_F6⟩ := noE h_F6; clear h_F6
    cases h_VL : valueB f ⟨lo, ln, ld⟩
    · have C_VL := Lib.hid (by have q := (fun ww => qryvalue_any f lo ln ld ww); rw [h_VL] at q; exact q)
      have HF : Hid ((fitsB ⟨k, ct, f, ⟨lo, ln, ld⟩, ⟨ho, hn, hd⟩⟩) = false) := Lib.hid (by unfold fitsB; simp only; simp [H_HZ.out, H_H1.out, H_H5.out, h_VH, H_LZ.out, h_DL, h_UL, h_UH, H_F6.out, h_VL])
      go_enter Tryz.func123, Tryz.ntmps123; go_wp2_with (first | (go_at_call_of 181 (Value.agg #[Value.int IntKind.i64 ho, Value.int IntKind.i64 hn, Value.int IntKind.i64 hd]); refine (C_VH.out _ ).mono ?_; rintro e w9 ⟨rfl, hb9⟩; have HB := bT HB hb9; have HX0 := bL HX0 hb9; obtain ⟨q0_0, q0_1, q0_2, q0_3, q0_4, q0_5, q0_6, q0_7, q0_8⟩ := HX0.out.c9; have HX1 := bL HX1 hb9; obtain ⟨q1_0, q1_1, q1_2⟩ := HX1.out.c3; clear hb9) | (go_at_call_of 181 (Value.agg #[Value.int IntKind.i64 lo, Value.int IntKind.i64 ln, Value.int IntKind.i64 ld]); refine (C_VL.out _ ).mono ?_; rintro e w9 ⟨rfl, hb9⟩; have HB := bT HB hb9; have HX0 := bL HX0 hb9; obtain ⟨q0_0, q0_1, q0_2, q0_3, q0_4, q0_5, q0_6, q0_7, q0_8⟩ := HX0.out.c9; have HX1 := bL HX1 hb9; obtain ⟨q1_0, q1_1, q1_2⟩ := HX1.out.c3; clear hb9) | (go_at_call_of 182 (Value.int IntKind.i64 lo); refine (C_DL.out _).mono ?_; rintro e w9 ⟨rfl, rfl⟩) | (go_at_call_of 183 (Value.int IntKind.i64 lo); refine (C_UL.out _).mono ?_; rintro e w9 ⟨rfl, rfl⟩) | (go_at_call_of 183 (Value.int IntKind.i64 ho); refine (C_UH.out _).mono ?_; rintro e w9 ⟨rfl, rfl⟩)); go_ret; exact fb HF HB
    have C_VL := Lib.hid (by have q := (fun ww => qryvalue_any f lo ln ld ww); rw [h_VL] at q; exact q)
    have HF : Hid ((fitsB ⟨k, ct, f, ⟨lo, ln, ld⟩, ⟨ho, hn, hd⟩⟩) = true) := Lib.hid (by unfold fitsB; simp only; simp [H_HZ.out, H_H1.out, H_H5.out, h_VH, H_LZ.out, h_DL, h_UL, h_UH, H_F6.out, h_VL])
    go_enter Tryz.func123, Tryz.ntmps123; go_wp2_with (first | (go_at_call_of 181 (Value.agg #[Value.int IntKind.i64 ho, Value.int IntKind.i64 hn, Value.int IntKind.i64 hd]); refine (C_VH.out _ ).mono ?_; rintro e w9 ⟨rfl, hb9⟩; have HB := bT HB hb9; have HX0 := bL HX0 hb9; obtain ⟨q0_0, q0_1, q0_2, q0_3, q0_4, q0_5, q0_6, q0_7, q0_8⟩ := HX0.out.c9; have HX1 := bL HX1 hb9; obtain ⟨q1_0, q1_1, q1_2⟩ := HX1.out.c3; clear hb9) | (go_at_call_of 181 (Value.agg #[Value.int IntKind.i64 lo, Value.int IntKind.i64 ln, Value.int IntKind.i64 ld]); refine (C_VL.out _ ).mono ?_; rintro e w9 ⟨rfl, hb9⟩; have HB := bT HB hb9; have HX0 := bL HX0 hb9; obtain ⟨q0_0, q0_1, q0_2, q0_3, q0_4, q0_5, q0_6, q0_7, q0_8⟩ := HX0.out.c9; have HX1 := bL HX1 hb9; obtain ⟨q1_0, q1_1, q1_2⟩ := HX1.out.c3; clear hb9) | (go_at_call_of 182 (Value.int IntKind.i64 lo); refine (C_DL.out _).mono ?_; rintro e w9 ⟨rfl, rfl⟩) | (go_at_call_of 183 (Value.int IntKind.i64 lo); refine (C_UL.out _).mono ?_; rintro e w9 ⟨rfl, rfl⟩) | (go_at_call_of 183 (Value.int IntKind.i64 ho); refine (C_UH.out _).mono ?_; rintro e w9 ⟨rfl, rfl⟩)); go_ret; exact fb HF HB
  have C_DL := Lib.hid (by have q := (fun ww => qrydown_any lo ww); rw [h_DL] at q; exact q)
  cases h_DH : downB ho
  · have C_DH := Lib.hid (by have q := (fun ww => qrydown_any ho ww); rw [h_DH] at q; exact q)
    cases h_UL : upQ lo
    · have C_UL := Lib.hid (by have q := (fun ww => qryup_any lo ww); rw [h_UL] at q; exact q)
      have HF : Hid ((fitsB ⟨k, ct, f, ⟨lo, ln, ld⟩, ⟨ho, hn, hd⟩⟩) = false) := Lib.hid (by unfold fitsB; simp only; simp [H_HZ.out, H_H1.out, H_H5.out, h_VH, H_LZ.out, h_DL, h_DH, h_UL])
      go_enter Tryz.func123, Tryz.ntmps123; go_wp2_with (first | (go_at_call_of 181 (Value.agg #[Value.int IntKind.i64 ho, Value.int IntKind.i64 hn, Value.int IntKind.i64 hd]); refine (C_VH.out _ ).mono ?_; rintro e w9 ⟨rfl, hb9⟩; have HB := bT HB hb9; have HX0 := bL HX0 hb9; obtain ⟨q0_0, q0_1, q0_2, q0_3, q0_4, q0_5, q0_6, q0_7, q0_8⟩ := HX0.out.c9; have HX1 := bL HX1 hb9; obtain ⟨q1_0, q1_1, q1_2⟩ := HX1.out.c3; clear hb9) | (go_at_call_of 182 (Value.int IntKind.i64 lo); refine (C_DL.out _).mono ?_; rintro e w9 ⟨rfl, rfl⟩) | (go_at_call_of 182 (Value.int IntKind.i64 ho); refine (C_DH.out _).mono ?_; rintro e w9 ⟨rfl, rfl⟩) | (go_at_call_of 183 (Value.int IntKind.i64 lo); refine (C_UL.out _).mono ?_; rintro e w9 ⟨rfl, rfl⟩)); go_ret; exact fb HF HB
    have C_UL := Lib.hid (by have q := (fun ww => qryup_any lo ww); rw [h_UL] at q; exact q)
    cases h_UH : upQ ho
    · have C_UH := Lib.hid (by have q := (fun ww => qryup_any ho ww); rw [h_UH] at q; exact q)
      have HF : Hid ((fitsB ⟨k, ct, f, ⟨lo, ln, ld⟩, ⟨ho, hn, hd⟩⟩) = false) := Lib.hid (by unfold fitsB; simp only; simp [H_HZ.out, H_H1.out, H_H5.out, h_VH, H_LZ.out, h_DL, h_DH, h_UL, h_UH])
      go_enter Tryz.func123, Tryz.ntmps123; go_wp2_with (first | (go_at_call_of 181 (Value.agg #[Value.int IntKind.i64 ho, Value.int IntKind.i64 hn, Value.int IntKind.i64 hd]); refine (C_VH.out _ ).mono ?_; rintro e w9 ⟨rfl, hb9⟩; have HB := bT HB hb9; have HX0 := bL HX0 hb9; obtain ⟨q0_0, q0_1, q0_2, q0_3, q0_4, q0_5, q0_6, q0_7, q0_8⟩ := HX0.out.c9; have HX1 := bL HX1 hb9; obtain ⟨q1_0, q1_1, q1_2⟩ := HX1.out.c3; clear hb9) | (go_at_call_of 182 (Value.int IntKind.i64 lo); refine (C_DL.out _).mono ?_; rintro e w9 ⟨rfl, rfl⟩) | (go_at_call_of 182 (Value.int IntKind.i64 ho); refine (C_DH.out _).mono ?_; rintro e w9 ⟨rfl, rfl⟩) | (go_at_call_of 183 (Value.int IntKind.i64 lo); refine (C_UL.out _).mono ?_; rintro e w9 ⟨rfl, rfl⟩) | (go_at_call_of 183 (Value.int IntKind.i64 ho); refine (C_UH.out _).mono ?_; rintro e w9 ⟨rfl, rfl⟩)); go_ret; exact fb HF HB
    have C_UH := Lib.hid (by have q := (fun ww => qryup_any ho ww); rw [h_UH] at q; exact q)
    by_cases h_F6 : f = 6
    · obtain ⟨d_F6, e_F6, n_F6, H_F6⟩ := yesE h_F6; clear h_F6
      have HF : Hid ((fitsB ⟨k, ct, f, ⟨lo, ln, ld⟩, ⟨ho, hn, hd⟩⟩) = false) := Lib.hid (by unfold fitsB; simp only; simp [H_HZ.out, H_H1.out, H_H5.out, h_VH, H_LZ.out, h_DL, h_DH, h_UL, h_UH, H_F6.out])
      go_enter Tryz.func123, Tryz.ntmps123; go_wp2_with (first | (go_at_call_of 181 (Value.agg #[Value.int IntKind.i64 ho, Value.int IntKind.i64 hn, Value.int IntKind.i64 hd]); refine (C_VH.out _ ).mono ?_; rintro e w9 ⟨rfl, hb9⟩; have HB := bT HB hb9; have HX0 := bL HX0 hb9; obtain ⟨q0_0, q0_1, q0_2, q0_3, q0_4, q0_5, q0_6, q0_7, q0_8⟩ := HX0.out.c9; have HX1 := bL HX1 hb9; obtain ⟨q1_0, q1_1, q1_2⟩ := HX1.out.c3; clear hb9) | (go_at_call_of 182 (Value.int IntKind.i64 lo); refine (C_DL.out _).mono ?_; rintro e w9 ⟨rfl, rfl⟩) | (go_at_call_of 182 (Value.int IntKind.i64 ho); refine (C_DH.out _).mono ?_; rintro e w9 ⟨rfl, rfl⟩) | (go_at_call_of 183 (Value.int IntKind.i64 lo); refine (C_UL.out _).mono ?_; rintro e w9 ⟨rfl, rfl⟩) | (go_at_call_of 183 (Value.int IntKind.i64 ho); refine (C_UH.out _).mono ?_; rintro e w9 ⟨rfl, rfl⟩)); go_ret; exact fb HF HB
    obtain ⟨d_F6, e_F6, n_F6, H_F6⟩ := noE h_F6; clear h_F6
    cases h_VL : valueB f ⟨lo, ln, ld⟩
    · have C_VL := Lib.hid (by have q := (fun ww => qryvalue_any f lo ln ld ww); rw [h_VL] at q; exact q)
      have HF : Hid ((fitsB ⟨k, ct, f, ⟨lo, ln, ld⟩, ⟨ho, hn, hd⟩⟩) = false) := Lib.hid (by unfold fitsB; simp only; simp [H_HZ.out, H_H1.out, H_H5.out, h_VH, H_LZ.out, h_DL, h_DH, h_UL, h_UH, H_F6.out, h_VL])
      go_enter Tryz.func123, Tryz.ntmps123; go_wp2_with (first | (go_at_call_of 181 (Value.agg #[Value.int IntKind.i64 ho, Value.int IntKind.i64 hn, Value.int IntKind.i64 hd]); refine (C_VH.out _ ).mono ?_; rintro e w9 ⟨rfl, hb9⟩; have HB := bT HB hb9; have HX0 := bL HX0 hb9; obtain ⟨q0_0, q0_1, q0_2, q0_3, q0_4, q0_5, q0_6, q0_7, q0_8⟩ := HX0.out.c9; have HX1 := bL HX1 hb9; obtain ⟨q1_0, q1_1, q1_2⟩ := HX1.out.c3; clear hb9) | (go_at_call_of 181 (Value.agg #[Value.int IntKind.i64 lo, Value.int IntKind.i64 ln, Value.int IntKind.i64 ld]); refine (C_VL.out _ ).mono ?_; rintro e w9 ⟨rfl, hb9⟩; have HB := bT HB hb9; have HX0 := bL HX0 hb9; obtain ⟨q0_0, q0_1, q0_2, q0_3, q0_4, q0_5, q0_6, q0_7, q0_8⟩ := HX0.out.c9; have HX1 := bL HX1 hb9; obtain ⟨q1_0, q1_1, q1_2⟩ := HX1.out.c3; clear hb9) | (go_at_call_of 182 (Value.int IntKind.i64 lo); refine (C_DL.out _).mono ?_; rintro e w9 ⟨rfl, rfl⟩) | (go_at_call_of 182 (Value.int IntKind.i64 ho); refine (C_DH.out _).mono ?_; rintro e w9 ⟨rfl, rfl⟩) | (go_at_call_of 183 (Value.int IntKind.i64 lo); refine (C_UL.out _).mono ?_; rintro e w9 ⟨rfl, rfl⟩) | (go_at_call_of 183 (Value.int IntKind.i64 ho); refine (C_UH.out _).mono ?_; rintro e w9 ⟨rfl, rfl⟩)); go_ret; exact fb HF HB
    have C_VL := Lib.hid (by have q := (fun ww => qryvalue_any f lo ln ld ww); rw [h_VL] at q; exact q)
    have HF : Hid ((fitsB ⟨k, ct, f, ⟨lo, ln, ld⟩, ⟨ho, hn, hd⟩⟩) = true) := Lib.hid (by unfold fitsB; simp only; simp [H_HZ.out, H_H1.out, H_H5.out, h_VH, H_LZ.out, h_DL, h_DH, h_UL, h_UH, H_F6.out, h_VL])
    go_enter Tryz.func123, Tryz.ntmps123; go_wp2_with (first | (go_at_call_of 181 (Value.agg #[Value.int IntKind.i64 ho, Value.int IntKind.i64 hn, Value.int IntKind.i64 hd]); refine (C_VH.out _ ).mono ?_; rintro e w9 ⟨rfl, hb9⟩; have HB := bT HB hb9; have HX0 := bL HX0 hb9; obtain ⟨q0_0, q0_1, q0_2, q0_3, q0_4, q0_5, q0_6, q0_7, q0_8⟩ := HX0.out.c9; have HX1 := bL HX1 hb9; obtain ⟨q1_0, q1_1, q1_2⟩ := HX1.out.c3; clear hb9) | (go_at_call_of 181 (Value.agg #[Value.int IntKind.i64 lo, Value.int IntKind.i64 ln, Value.int IntKind.i64 ld]); refine (C_VL.out _ ).mono ?_; rintro e w9 ⟨rfl, hb9⟩; have HB := bT HB hb9; have HX0 := bL HX0 hb9; obtain ⟨q0_0, q0_1, q0_2, q0_3, q0_4, q0_5, q0_6, q0_7, q0_8⟩ := HX0.out.c9; have HX1 := bL HX1 hb9; obtain ⟨q1_0, q1_1, q1_2⟩ := HX1.out.c3; clear hb9) | (go_at_call_of 182 (Value.int IntKind.i64 lo); refine (C_DL.out _).mono ?_; rintro e w9 ⟨rfl, rfl⟩) | (go_at_call_of 182 (Value.int IntKind.i64 ho); refine (C_DH.out _).mono ?_; rintro e w9 ⟨rfl, rfl⟩) | (go_at_call_of 183 (Value.int IntKind.i64 lo); refine (C_UL.out _).mono ?_; rintro e w9 ⟨rfl, rfl⟩) | (go_at_call_of 183 (Value.int IntKind.i64 ho); refine (C_UH.out _).mono ?_; rintro e w9 ⟨rfl, rfl⟩)); go_ret; exact fb HF HB
  have C_DH := Lib.hid (by have q := (fun ww => qrydown_any ho ww); rw [h_DH] at q; exact q)
  by_cases h_F6 : f = 6
  · obtain ⟨d_F6, e_F6, n_F6, H_F6⟩ := yesE h_F6; clear h_F6
    have HF : Hid ((fitsB ⟨k, ct, f, ⟨lo, ln, ld⟩, ⟨ho, hn, hd⟩⟩) = false) := Lib.hid (by unfold fitsB; simp only; simp [H_HZ.out, H_H1.out, H_H5.out, h_VH, H_LZ.out, h_DL, h_DH, H_F6.out])
    go_enter Tryz.func123, Tryz.ntmps123; go_wp2_with (first | (go_at_call_of 181 (Value.agg #[Value.int IntKind.i64 ho, Value.int IntKind.i64 hn, Value.int IntKind.i64 hd]); refine (C_VH.out _ ).mono ?_; rintro e w9 ⟨rfl, hb9⟩; have HB := bT HB hb9; have HX0 := bL HX0 hb9; obtain ⟨q0_0, q0_1, q0_2, q0_3, q0_4, q0_5, q0_6, q0_7, q0_8⟩ := HX0.out.c9; have HX1 := bL HX1 hb9; obtain ⟨q1_0, q1_1, q1_2⟩ := HX1.out.c3; clear hb9) | (go_at_call_of 182 (Value.int IntKind.i64 lo); refine (C_DL.out _).mono ?_; rintro e w9 ⟨rfl, rfl⟩) | (go_at_call_of 182 (Value.int IntKind.i64 ho); refine (C_DH.out _).mono ?_; rintro e w9 ⟨rfl, rfl⟩)); go_ret; exact fb HF HB
  obtain ⟨d_F6, e_F6, n_F6, H_F6⟩ := noE h_F6; clear h_F6
  cases h_VL : valueB f ⟨lo, ln, ld⟩
  · have C_VL := Lib.hid (by have q := (fun ww => qryvalue_any f lo ln ld ww); rw [h_VL] at q; exact q)
    have HF : Hid ((fitsB ⟨k, ct, f, ⟨lo, ln, ld⟩, ⟨ho, hn, hd⟩⟩) = false) := Lib.hid (by unfold fitsB; simp only; simp [H_HZ.out, H_H1.out, H_H5.out, h_VH, H_LZ.out, h_DL, h_DH, H_F6.out, h_VL])
    go_enter Tryz.func123, Tryz.ntmps123; go_wp2_with (first | (go_at_call_of 181 (Value.agg #[Value.int IntKind.i64 ho, Value.int IntKind.i64 hn, Value.int IntKind.i64 hd]); refine (C_VH.out _ ).mono ?_; rintro e w9 ⟨rfl, hb9⟩; have HB := bT HB hb9; have HX0 := bL HX0 hb9; obtain ⟨q0_0, q0_1, q0_2, q0_3, q0_4, q0_5, q0_6, q0_7, q0_8⟩ := HX0.out.c9; have HX1 := bL HX1 hb9; obtain ⟨q1_0, q1_1, q1_2⟩ := HX1.out.c3; clear hb9) | (go_at_call_of 181 (Value.agg #[Value.int IntKind.i64 lo, Value.int IntKind.i64 ln, Value.int IntKind.i64 ld]); refine (C_VL.out _ ).mono ?_; rintro e w9 ⟨rfl, hb9⟩; have HB := bT HB hb9; have HX0 := bL HX0 hb9; obtain ⟨q0_0, q0_1, q0_2, q0_3, q0_4, q0_5, q0_6, q0_7, q0_8⟩ := HX0.out.c9; have HX1 := bL HX1 hb9; obtain ⟨q1_0, q1_1, q1_2⟩ := HX1.out.c3; clear hb9) | (go_at_call_of 182 (Value.int IntKind.i64 lo); refine (C_DL.out _).mono ?_; rintro e w9 ⟨rfl, rfl⟩) | (go_at_call_of 182 (Value.int IntKind.i64 ho); refine (C_DH.out _).mono ?_; rintro e w9 ⟨rfl, rfl⟩)); go_ret; exact fb HF HB
  have C_VL := Lib.hid (by have q := (fun ww => qryvalue_any f lo ln ld ww); rw [h_VL] at q; exact q)
  have HF : Hid ((fitsB ⟨k, ct, f, ⟨lo, ln, ld⟩, ⟨ho, hn, hd⟩⟩) = true) := Lib.hid (by unfold fitsB; simp only; simp [H_HZ.out, H_H1.out, H_H5.out, h_VH, H_LZ.out, h_DL, h_DH, H_F6.out, h_VL])
  go_enter Tryz.func123, Tryz.ntmps123; go_wp2_with (first | (go_at_call_of 181 (Value.agg #[Value.int IntKind.i64 ho, Value.int IntKind.i64 hn, Value.int IntKind.i64 hd]); refine (C_VH.out _ ).mono ?_; rintro e w9 ⟨rfl, hb9⟩; have HB := bT HB hb9; have HX0 := bL HX0 hb9; obtain ⟨q0_0, q0_1, q0_2, q0_3, q0_4, q0_5, q0_6, q0_7, q0_8⟩ := HX0.out.c9; have HX1 := bL HX1 hb9; obtain ⟨q1_0, q1_1, q1_2⟩ := HX1.out.c3; clear hb9) | (go_at_call_of 181 (Value.agg #[Value.int IntKind.i64 lo, Value.int IntKind.i64 ln, Value.int IntKind.i64 ld]); refine (C_VL.out _ ).mono ?_; rintro e w9 ⟨rfl, hb9⟩; have HB := bT HB hb9; have HX0 := bL HX0 hb9; obtain ⟨q0_0, q0_1, q0_2, q0_3, q0_4, q0_5, q0_6, q0_7, q0_8⟩ := HX0.out.c9; have HX1 := bL HX1 hb9; obtain ⟨q1_0, q1_1, q1_2⟩ := HX1.out.c3; clear hb9) | (go_at_call_of 182 (Value.int IntKind.i64 lo); refine (C_DL.out _).mono ?_; rintro e w9 ⟨rfl, rfl⟩) | (go_at_call_of 182 (Value.int IntKind.i64 ho); refine (C_DH.out _).mono ?_; rintro e w9 ⟨rfl, rfl⟩)); go_ret; exact fb HF HB
theorem qryright_any (k ct f lo ln ld ho hn hd : Int) (w : World) :
    Calls Tryz.prog 54 #[Value.agg #[Value.int .i64 k, Value.int .i64 ct, Value.int .i64 f, Value.int .i64 lo, Value.int .i64 ln, Value.int .i64 ld, Value.int .i64 ho, Value.int .i64 hn, Value.int .i64 hd]] w fun e w' => e = .returned (.bool (rightQ ⟨k, ct, f, ⟨lo, ln, ld⟩, ⟨ho, hn, hd⟩⟩)) ∧ Below w.heap.size w w' := by
  have HB := Lib.hid ((Below.refl w.heap.size w).alloc (Nat.le_refl _) (.cells #[Value.int .i64 k, Value.int .i64 ct, Value.int .i64 f, Value.int .i64 lo, Value.int .i64 ln, Value.int .i64 ld, Value.int .i64 ho, Value.int .i64 hn, Value.int .i64 hd] 91))
  have HX0 := Lib.hid (BlkL.new w 91 [Value.int .i64 k, Value.int .i64 ct, Value.int .i64 f, Value.int .i64 lo, Value.int .i64 ln, Value.int .i64 ld, Value.int .i64 ho, Value.int .i64 hn, Value.int .i64 hd])
  by_cases h_K4 : k = 4
  · obtain ⟨d_K4, e_K4, n_K4, H_K4⟩ := yesE h_K4; clear h_K4
    by_cases h_C0 : ct = 0
    · obtain ⟨d_C0, e_C0, n_C0, H_C0⟩ := yesE h_C0; clear h_C0
      by_cases h_F1 : 1 ≤ f
      · obtain ⟨d_F1, H_F1⟩ := yesP h_F1; clear h_F1
        by_cases h_F6 : f ≤ 6
        · obtain ⟨d_F6, H_F6⟩ := yesP h_F6; clear h_F6
          cases h_FT : fitsB ⟨k, ct, f, ⟨lo, ln, ld⟩, ⟨ho, hn, hd⟩⟩
          · have C_FT := Lib.hid (by have q := (fun ww => qryfits_any k ct f lo ln ld ho hn hd ww); rw [h_FT] at q; exact q)
            have HF : Hid ((rightQ ⟨k, ct, f, ⟨lo, ln, ld⟩, ⟨ho, hn, hd⟩⟩) = false) := Lib.hid (by unfold rightQ; simp only; simp [H_K4.out, H_C0.out, H_F1.out, H_F6.out, h_FT])
            go_enter Tryz.func54, Tryz.ntmps54; go_wp2_with (first | (go_at_call 123; refine (C_FT.out _ ).mono ?_; rintro e w9 ⟨rfl, hb9⟩; have HB := bT HB hb9; have HX0 := bL HX0 hb9; obtain ⟨q0_0, q0_1, q0_2, q0_3, q0_4, q0_5, q0_6, q0_7, q0_8⟩ := HX0.out.c9; clear hb9)); go_ret; exact fb HF HB
          have C_FT := Lib.hid (by have q := (fun ww => qryfits_any k ct f lo ln ld ho hn hd ww); rw [h_FT] at q; exact q)
          have HF : Hid ((rightQ ⟨k, ct, f, ⟨lo, ln, ld⟩, ⟨ho, hn, hd⟩⟩) = true) := Lib.hid (by unfold rightQ; simp only; simp [H_K4.out, H_C0.out, H_F1.out, H_F6.out, h_FT])
          go_enter Tryz.func54, Tryz.ntmps54; go_wp2_with (first | (go_at_call 123; refine (C_FT.out _ ).mono ?_; rintro e w9 ⟨rfl, hb9⟩; have HB := bT HB hb9; have HX0 := bL HX0 hb9; obtain ⟨q0_0, q0_1, q0_2, q0_3, q0_4, q0_5, q0_6, q0_7, q0_8⟩ := HX0.out.c9; clear hb9)); go_ret; exact fb HF HB
        obtain ⟨d_F6, H_F6⟩ := noP h_F6; clear h_F6
        have HF : Hid ((rightQ ⟨k, ct, f, ⟨lo, ln, ld⟩, ⟨ho, hn, hd⟩⟩) = false) := Lib.hid (by unfold rightQ; simp only; simp [H_K4.out, H_C0.out, H_F1.out, H_F6.out])
        go_enter Tryz.func54, Tryz.ntmps54; go_wp2_with fail; go_ret; exact fb HF HB
      obtain ⟨d_F1, H_F1⟩ := noP h_F1; clear h_F1
      have HF : Hid ((rightQ ⟨k, ct, f, ⟨lo, ln, ld⟩, ⟨ho, hn, hd⟩⟩) = false) := Lib.hid (by unfold rightQ; simp only; simp [H_K4.out, H_C0.out, H_F1.out])
      go_enter Tryz.func54, Tryz.ntmps54; go_wp2_with fail; go_ret; exact fb HF HB
    obtain ⟨d_C0, e_C0, n_C0, H_C0⟩ := noE h_C0; clear h_C0
    have HF : Hid ((rightQ ⟨k, ct, f, ⟨lo, ln, ld⟩, ⟨ho, hn, hd⟩⟩) = false) := Lib.hid (by unfold rightQ; simp only; simp [H_K4.out, H_C0.out])
    go_enter Tryz.func54, Tryz.ntmps54; go_wp2_with fail; go_ret; exact fb HF HB
  obtain ⟨d_K4, e_K4, n_K4, H_K4⟩ := noE h_K4; clear h_K4
  by_cases h_F0 : f = 0
  · obtain ⟨d_F0, e_F0, n_F0, H_F0⟩ := yesE h_F0; clear h_F0
    by_cases h_LZ : (⟨lo, ln, ld⟩ : BoundM) = noBound
    · obtain ⟨d_LZ, H_LZ⟩ := yesP h_LZ; have E_LZ := bNeY h_LZ; clear h_LZ
      by_cases h_HZ : (⟨ho, hn, hd⟩ : BoundM) = noBound
      · obtain ⟨d_HZ, H_HZ⟩ := yesP h_HZ; have E_HZ := bNeY h_HZ; clear h_HZ
        by_cases h_K3 : k = 3
        · obtain ⟨d_K3, e_K3, n_K3, H_K3⟩ := yesE h_K3; clear h_K3
          by_cases h_C1 : ct = 1
          · obtain ⟨d_C1, e_C1, n_C1, H_C1⟩ := yesE h_C1; clear h_C1
            have HF : Hid ((rightQ ⟨k, ct, f, ⟨lo, ln, ld⟩, ⟨ho, hn, hd⟩⟩) = true) := Lib.hid (by unfold rightQ; simp only; simp [H_K4.out, H_F0.out, H_LZ.out, H_HZ.out, H_K3.out, H_C1.out])
            go_enter Tryz.func54, Tryz.ntmps54; go_wp2_with fail; go_ret; exact fb HF HB
          obtain ⟨d_C1, e_C1, n_C1, H_C1⟩ := noE h_C1; clear h_C1
          have HF : Hid ((rightQ ⟨k, ct, f, ⟨lo, ln, ld⟩, ⟨ho, hn, hd⟩⟩) = false) := Lib.hid (by unfold rightQ; simp only; simp [H_K4.out, H_F0.out, H_LZ.out, H_HZ.out, H_K3.out, H_C1.out])
          go_enter Tryz.func54, Tryz.ntmps54; go_wp2_with fail; go_ret; exact fb HF HB
        obtain ⟨d_K3, e_K3, n_K3, H_K3⟩ := noE h_K3; clear h_K3
        by_cases h_K1 : k = 1
        · obtain ⟨d_K1, e_K1, n_K1, H_K1⟩ := yesE h_K1; clear h_K1
          by_cases h_C2 : 2 ≤ ct
          · obtain ⟨d_C2, H_C2⟩ := yesP h_C2; clear h_C2
            have HF : Hid ((rightQ ⟨k, ct, f, ⟨lo, ln, ld⟩, ⟨ho, hn, hd⟩⟩) = true) := Lib.hid (by unfold rightQ; simp only; simp [H_K4.out, H_F0.out, H_LZ.out, H_HZ.out, H_K3.out, H_K1.out, H_C2.out])
            go_enter Tryz.func54, Tryz.ntmps54; go_wp2_with fail; go_ret; exact fb HF HB
          obtain ⟨d_C2, H_C2⟩ := noP h_C2; clear h_C2
          have HF : Hid ((rightQ ⟨k, ct, f, ⟨lo, ln, ld⟩, ⟨ho, hn, hd⟩⟩) = false) := Lib.hid (by unfold rightQ; simp only; simp [H_K4.out, H_F0.out, H_LZ.out, H_HZ.out, H_K3.out, H_K1.out, H_C2.out])
          go_enter Tryz.func54, Tryz.ntmps54; go_wp2_with fail; go_ret; exact fb HF HB
        obtain ⟨d_K1, e_K1, n_K1, H_K1⟩ := noE h_K1; clear h_K1
        by_cases h_K2 : k = 2
        · obtain ⟨d_K2, e_K2, n_K2, H_K2⟩ := yesE h_K2; clear h_K2
          by_cases h_C2 : 2 ≤ ct
          · obtain ⟨d_C2, H_C2⟩ := yesP h_C2; clear h_C2
            have HF : Hid ((rightQ ⟨k, ct, f, ⟨lo, ln, ld⟩, ⟨ho, hn, hd⟩⟩) = true) := Lib.hid (by unfold rightQ; simp only; simp [H_K4.out, H_F0.out, H_LZ.out, H_HZ.out, H_K3.out, H_K1.out, H_K2.out, H_C2.out])
            go_enter Tryz.func54, Tryz.ntmps54; go_wp2_with fail; go_ret; exact fb HF HB
          obtain ⟨d_C2, H_C2⟩ := noP h_C2; clear h_C2
          have HF : Hid ((rightQ ⟨k, ct, f, ⟨lo, ln, ld⟩, ⟨ho, hn, hd⟩⟩) = false) := Lib.hid (by unfold rightQ; simp only; simp [H_K4.out, H_F0.out, H_LZ.out, H_HZ.out, H_K3.out, H_K1.out, H_K2.out, H_C2.out])
          go_enter Tryz.func54, Tryz.ntmps54; go_wp2_with fail; go_ret; exact fb HF HB
        obtain ⟨d_K2, e_K2, n_K2, H_K2⟩ := noE h_K2; clear h_K2
        have HF : Hid ((rightQ ⟨k, ct, f, ⟨lo, ln, ld⟩, ⟨ho, hn, hd⟩⟩) = false) := Lib.hid (by unfold rightQ; simp only; simp [H_K4.out, H_F0.out, H_LZ.out, H_HZ.out, H_K3.out, H_K1.out, H_K2.out])
        go_enter Tryz.func54, Tryz.ntmps54; go_wp2_with fail; go_ret; exact fb HF HB
      obtain ⟨d_HZ, H_HZ⟩ := noP h_HZ; have E_HZ := bNeN h_HZ; clear h_HZ
      have HF : Hid ((rightQ ⟨k, ct, f, ⟨lo, ln, ld⟩, ⟨ho, hn, hd⟩⟩) = false) := Lib.hid (by unfold rightQ; simp only; simp [H_K4.out, H_F0.out, H_LZ.out, H_HZ.out])
      go_enter Tryz.func54, Tryz.ntmps54; go_wp2_with fail; go_ret; exact fb HF HB
    obtain ⟨d_LZ, H_LZ⟩ := noP h_LZ; have E_LZ := bNeN h_LZ; clear h_LZ
    have HF : Hid ((rightQ ⟨k, ct, f, ⟨lo, ln, ld⟩, ⟨ho, hn, hd⟩⟩) = false) := Lib.hid (by unfold rightQ; simp only; simp [H_K4.out, H_F0.out, H_LZ.out])
    go_enter Tryz.func54, Tryz.ntmps54; go_wp2_with fail; go_ret; exact fb HF HB
  obtain ⟨d_F0, e_F0, n_F0, H_F0⟩ := noE h_F0; clear h_F0
  have HF : Hid ((rightQ ⟨k, ct, f, ⟨lo, ln, ld⟩, ⟨ho, hn, hd⟩⟩) = false) := Lib.hid (by unfold rightQ; simp only; simp [H_K4.out, H_F0.out])
  go_enter Tryz.func54, Tryz.ntmps54; go_wp2_with fail; go_ret; exact fb HF HB
theorem qryright1_any (k ct f lo ln ld ho hn hd : Int) (w : World) :
    Calls Tryz.prog 53 #[Value.agg #[Value.int .i64 k, Value.int .i64 ct, Value.int .i64 f, Value.int .i64 lo, Value.int .i64 ln, Value.int .i64 ld, Value.int .i64 ho, Value.int .i64 hn, Value.int .i64 hd]] w fun e w' => e = .returned (.bool (!(rightQ ⟨k, ct, f, ⟨lo, ln, ld⟩, ⟨ho, hn, hd⟩⟩))) ∧ Below w.heap.size w w' := by
  have HB := Lib.hid ((Below.refl w.heap.size w).alloc (Nat.le_refl _) (.cells #[Value.int .i64 k, Value.int .i64 ct, Value.int .i64 f, Value.int .i64 lo, Value.int .i64 ln, Value.int .i64 ld, Value.int .i64 ho, Value.int .i64 hn, Value.int .i64 hd] 91))
  have HX0 := Lib.hid (BlkL.new w 91 [Value.int .i64 k, Value.int .i64 ct, Value.int .i64 f, Value.int .i64 lo, Value.int .i64 ln, Value.int .i64 ld, Value.int .i64 ho, Value.int .i64 hn, Value.int .i64 hd])
  cases h_R : rightQ ⟨k, ct, f, ⟨lo, ln, ld⟩, ⟨ho, hn, hd⟩⟩
  · have C_R := Lib.hid (by have q := (fun ww => qryright_any k ct f lo ln ld ho hn hd ww); rw [h_R] at q; exact q)
    have HF : Hid ((!(rightQ ⟨k, ct, f, ⟨lo, ln, ld⟩, ⟨ho, hn, hd⟩⟩)) = true) := Lib.hid (by skip; simp [h_R])
    go_enter Tryz.func53, Tryz.ntmps53; go_wp2_with (first | (go_at_call 54; refine (C_R.out _ ).mono ?_; rintro e w9 ⟨rfl, hb9⟩; have HB := bT HB hb9; have HX0 := bL HX0 hb9; obtain ⟨q0_0, q0_1, q0_2, q0_3, q0_4, q0_5, q0_6, q0_7, q0_8⟩ := HX0.out.c9; clear hb9)); go_ret; exact ⟨by rfl, HB.out⟩
  have C_R := Lib.hid (by have q := (fun ww => qryright_any k ct f lo ln ld ho hn hd ww); rw [h_R] at q; exact q)
  have HF : Hid ((!(rightQ ⟨k, ct, f, ⟨lo, ln, ld⟩, ⟨ho, hn, hd⟩⟩)) = false) := Lib.hid (by skip; simp [h_R])
  go_enter Tryz.func53, Tryz.ntmps53; go_wp2_with (first | (go_at_call 54; refine (C_R.out _ ).mono ?_; rintro e w9 ⟨rfl, hb9⟩; have HB := bT HB hb9; have HX0 := bL HX0 hb9; obtain ⟨q0_0, q0_1, q0_2, q0_3, q0_4, q0_5, q0_6, q0_7, q0_8⟩ := HX0.out.c9; clear hb9)); go_ret; exact ⟨by rfl, HB.out⟩
theorem qryreserved_any (s : List UInt8) (w : World) :
    Calls Tryz.prog 50 #[Value.string (bs s)] w fun e w' => e = .returned (.bool (reservedB s)) ∧ Below w.heap.size w w' := by
  have HB := Lib.hid (Below.refl w.heap.size w)
  by_cases h_A : s = andT
  · obtain ⟨d_A, H_A⟩ := yesP h_A; have s_A := strY [97, 110, 100] h_A; clear h_A
    have HF : Hid ((reservedB s) = true) := Lib.hid (by unfold reservedB; simp [H_A.out])
    go_enter Tryz.func50, Tryz.ntmps50; go_wp2_with fail; go_ret; exact fb HF HB
  obtain ⟨d_A, H_A⟩ := noP h_A; have s_A := strN [97, 110, 100] h_A; clear h_A
  by_cases h_O : s = orT
  · obtain ⟨d_O, H_O⟩ := yesP h_O; have s_O := strY [111, 114] h_O; clear h_O
    have HF : Hid ((reservedB s) = true) := Lib.hid (by unfold reservedB; simp [H_A.out, H_O.out])
    go_enter Tryz.func50, Tryz.ntmps50; go_wp2_with fail; go_ret; exact fb HF HB
  obtain ⟨d_O, H_O⟩ := noP h_O; have s_O := strN [111, 114] h_O; clear h_O
  by_cases h_N : s = notT
  · obtain ⟨d_N, H_N⟩ := yesP h_N; have s_N := strY [110, 111, 116] h_N; clear h_N
    have HF : Hid ((reservedB s) = true) := Lib.hid (by unfold reservedB; simp [H_A.out, H_O.out, H_N.out])
    go_enter Tryz.func50, Tryz.ntmps50; go_wp2_with fail; go_ret; exact fb HF HB
  obtain ⟨d_N, H_N⟩ := noP h_N; have s_N := strN [110, 111, 116] h_N; clear h_N
  by_cases h_E : s = noneT
  · obtain ⟨d_E, H_E⟩ := yesP h_E; have s_E := strY [110, 111, 110, 101] h_E; clear h_E
    have HF : Hid ((reservedB s) = true) := Lib.hid (by unfold reservedB; simp [H_A.out, H_O.out, H_N.out, H_E.out])
    go_enter Tryz.func50, Tryz.ntmps50; go_wp2_with fail; go_ret; exact fb HF HB
  obtain ⟨d_E, H_E⟩ := noP h_E; have s_E := strN [110, 111, 110, 101] h_E; clear h_E
  have HF : Hid ((reservedB s) = false) := Lib.hid (by unfold reservedB; simp [H_A.out, H_O.out, H_N.out, H_E.out])
  go_enter Tryz.func50, Tryz.ntmps50; go_wp2_with fail; go_ret; exact fb HF HB
theorem ret_int {a b : Int} (h : a = b) : Ending.returned (.int .i64 a) = .returned (.int .i64 b) := by rw [h]
theorem qryhas_any (k ct f lo ln ld ho hn hd : Int) (w : World) : Calls Tryz.prog 121 #[Value.agg #[Value.int .i64 k, Value.int .i64 ct, Value.int .i64 f, Value.int .i64 lo, Value.int .i64 ln, Value.int .i64 ld, Value.int .i64 ho, Value.int .i64 hn, Value.int .i64 hd]] w fun e w' => e = .returned (.int .i64 (hasQ ⟨k, ct, f, ⟨lo, ln, ld⟩, ⟨ho, hn, hd⟩⟩)) ∧ Below w.heap.size w w' := by
  have HB := Lib.hid ((Below.refl w.heap.size w).alloc (Nat.le_refl _) (.cells #[Value.int .i64 k, Value.int .i64 ct, Value.int .i64 f, Value.int .i64 lo, Value.int .i64 ln, Value.int .i64 ld, Value.int .i64 ho, Value.int .i64 hn, Value.int .i64 hd] 91))
  by_cases h1 : k = 1
  · have e1 : (k == 1) = true := by simpa using h1
    have hv : hasQ ⟨k, ct, f, ⟨lo, ln, ld⟩, ⟨ho, hn, hd⟩⟩ = max ct 0 := by unfold hasQ; simp [h1]
    clear h1
    have HF := Lib.hid hv
    clear hv
    go_enter Tryz.func121, Tryz.ntmps121
    go_wp2_with fail
    all_goals
      go_ret
      exact ⟨by rw [HF.out]; exact ret_int (by omega), HB.out⟩
  by_cases h2 : k = 2
  · have e1 : (k == 1) = false := by simpa using h1
    have e2 : (k == 2) = true := by simpa using h2
    have hv : hasQ ⟨k, ct, f, ⟨lo, ln, ld⟩, ⟨ho, hn, hd⟩⟩ = max ct 0 := by unfold hasQ; simp [h1, h2]
    clear h1
    clear h2
    have HF := Lib.hid hv
    clear hv
    go_enter Tryz.func121, Tryz.ntmps121
    go_wp2_with fail
    all_goals
      go_ret
      exact ⟨by rw [HF.out]; exact ret_int (by omega), HB.out⟩
  by_cases h3 : k = 3
  · have e1 : (k == 1) = false := by simpa using h1
    have e2 : (k == 2) = false := by simpa using h2
    have e3 : (k == 3) = true := by simpa using h3
    have HF := Lib.hid (show hasQ ⟨k, ct, f, ⟨lo, ln, ld⟩, ⟨ho, hn, hd⟩⟩ = 1 by unfold hasQ; simp [h1, h2, h3])
    clear h1
    clear h2
    clear h3
    go_enter Tryz.func121, Tryz.ntmps121
    go_wp2_with fail
    go_ret
    exact ⟨by rw [HF.out]; rfl, HB.out⟩
  by_cases h4 : k = 4
  · have e1 : (k == 1) = false := by simpa using h1
    have e2 : (k == 2) = false := by simpa using h2
    have e3 : (k == 3) = false := by simpa using h3
    have e4 : (k == 4) = true := by simpa using h4
    have HF := Lib.hid (show hasQ ⟨k, ct, f, ⟨lo, ln, ld⟩, ⟨ho, hn, hd⟩⟩ = 0 by unfold hasQ; simp [h1, h2, h3, h4])
    clear h1
    clear h2
    clear h3
    clear h4
    go_enter Tryz.func121, Tryz.ntmps121
    go_wp2_with fail
    go_ret
    exact ⟨by rw [HF.out]; rfl, HB.out⟩
  have e1 : (k == 1) = false := by simpa using h1
  have e2 : (k == 2) = false := by simpa using h2
  have e3 : (k == 3) = false := by simpa using h3
  have e4 : (k == 4) = false := by simpa using h4
  have HF := Lib.hid (show hasQ ⟨k, ct, f, ⟨lo, ln, ld⟩, ⟨ho, hn, hd⟩⟩ = -1 by unfold hasQ; simp [h1, h2, h3, h4])
  clear h1
  clear h2
  clear h3
  clear h4
  go_enter Tryz.func121, Tryz.ntmps121
  go_wp2_with fail
  go_ret
  exact ⟨by rw [HF.out]; rfl, HB.out⟩
theorem hasQ_ge (q : QNodeM) : -1 ≤ hasQ q := by
  unfold hasQ
  split
  · omega
  split
  · omega
  split <;> omega
theorem nod9_len (q : QNodeM) : (nod9 q).length = 9 := rfl
theorem spanF_stop (q : List QNodeM) (f : Nat) (left : Int) (i : Nat) (h : left ≤ 0) : spanF q (f + 1) left i = i := by unfold spanF; rw [if_pos h]
theorem spanF_out (q : List QNodeM) (f : Nat) (left : Int) (i : Nat) (h : ¬ left ≤ 0) (hi : ¬ i < q.length) : spanF q (f + 1) left i = 0 := by unfold spanF; rw [if_neg h, List.getElem?_eq_none (by omega)]
theorem spanF_bad (q : List QNodeM) (f : Nat) (left : Int) (i : Nat) (h : ¬ left ≤ 0) (hi : i < q.length) (hb : hasQ q[i] < 0) : spanF q (f + 1) left i = 0 := by unfold spanF; rw [if_neg h, List.getElem?_eq_getElem hi]; simp only; rw [if_pos hb]
theorem spanF_go (q : List QNodeM) (f : Nat) (left : Int) (i : Nat) (h : ¬ left ≤ 0) (hi : i < q.length) (hb : ¬ hasQ q[i] < 0) : spanF q (f + 1) left i = spanF q f (left + min (hasQ q[i]) q.length - 1) (i + 1) := by
  conv => lhs; unfold spanF
  rw [if_neg h, List.getElem?_eq_getElem hi]; simp only; rw [if_neg hb]
theorem span_cast {q : List QNodeM} {f f' i R : Nat} {x y : Int} (h : spanF q f y i = R) (hf : f' = f) (hx : x = y) : spanF q f' x i = R := by rw [hf, hx]; exact h
theorem qryspan_any (nm : ByteArray) (a : Option Addr) (c n : Nat) (q : List QNodeM) (w : World) (hn : n = q.length) (h32 : n ≤ 32) (hs : SlAt w (.slice a n c) n (q.flatMap nod9)) :
    Calls Tryz.prog 51 #[.agg #[.string nm, .slice a n c], .int .i64 0] w fun e w' => e = .returned (.int .i64 (spanP q)) ∧ Below w.heap.size w w' := by
  have hA := (Below.refl w.heap.size w).alloc (Nat.le_refl _) (.cells #[.string nm, .slice a n c] 52)
  have HA := Lib.hid hA
  have HX := Lib.hid (BlkL.new w 52 [.string nm, .slice a n c])
  obtain ⟨a1, c1, e1, hnc, hcm, hcase⟩ := hs
  cases e1
  unfold maxLen at hcm
  have HN := Lib.hid hn
  have HC := Lib.hid hcase
  have HS := Lib.hid (show spanF q (q.length + 2) 1 0 = spanP q from rfl)
  generalize spanP q = R at *
  clear hn hcase hA
  go_enter Tryz.func51, Tryz.ntmps51
  go_wp2_with fail
  change Code.wp _ _ _ _ (w.alloc (.cells #[.string nm, .slice a n c] 52))
  generalize w.alloc (.cells #[.string nm, .slice a n c] 52) = W at *
  go_loopw [1, 5] (fun i v wr => ∃ (k : Nat) (left : Int), i = .int .i64 k ∧ v = .int .i64 left ∧ k ≤ n ∧ 0 ≤ left ∧ left ≤ 1 + 32 * k ∧ Hid (spanF q (q.length + 2 - k) left k = R) ∧ Below W.heap.size W wr) (fun i _ _ => n - (intOf i).toNat)
  case atStart => exact ⟨0, 1, rfl, rfl, Nat.zero_le _, by omega, by omega, HS, Below.refl _ _⟩
  case round =>
    obtain ⟨k, left, rfl, rfl, hk, hl0, hl1, HR, hb⟩ := hrel
    have HB := Lib.hid hb
    have HX2 := Lib.hid (HX.out.low hb)
    have hfu : q.length + 2 - k = (q.length + 1 - k) + 1 := by have := HN.out; omega
    have hr := HR.out
    rw [hfu] at hr
    by_cases hl : left ≤ 0
    · rw [spanF_stop q _ left k hl] at hr
      have HR2 := Lib.hid hr
      have d1 : decide ((0 : Int) < left) = false := decide_eq_false (by omega)
      clear hr hfu hb HR
      go_wp2_with fail
      go_ret
      exact ⟨by rw [← HR2.out]; rfl, HA.out.trans (HB.out.mono HA.out.size)⟩
    have d1 : decide ((0 : Int) < left) = true := decide_eq_true (by omega)
    by_cases hlt : k < n
    · have hkl : k < q.length := by have := HN.out; omega
      obtain ⟨vb, vo, rfl, vB, hC⟩ : ∃ b o, a = some ⟨b, o, none⟩ ∧ b < w.heap.size ∧ CellsAt w b o (q.flatMap nod9) := by
        rcases HC.out with ⟨h0, _⟩ | h
        · omega
        exact h
      have hbw := HA.out.trans (hb.mono HA.out.size)
      have hC2 := hC.below hbw vB
      have z0 := hC2.get nod9_len k 0 hkl (by decide) rfl
      have z1 := hC2.get nod9_len k 1 hkl (by decide) rfl
      have z2 := hC2.get nod9_len k 2 hkl (by decide) rfl
      have z3 := hC2.get nod9_len k 3 hkl (by decide) rfl
      have z4 := hC2.get nod9_len k 4 hkl (by decide) rfl
      have z5 := hC2.get nod9_len k 5 hkl (by decide) rfl
      have z6 := hC2.get nod9_len k 6 hkl (by decide) rfl
      have z7 := hC2.get nod9_len k 7 hkl (by decide) rfl
      have z8 := hC2.get nod9_len k 8 hkl (by decide) rfl
      rw [Nat.add_zero] at z0
      rw [← Nat.add_assoc] at z1 z2 z3 z4 z5 z6 z7 z8
      have HCC := Lib.hid hC
      have hge := hasQ_ge q[k]
      have hbad := spanF_bad q (q.length + 1 - k) left k hl hkl
      have hgo := spanF_go q (q.length + 1 - k) left k hl hkl
      have q1 := HX2.out.c 1 _ rfl
      have gx := HX2.out.lt
      obtain ⟨x, hx⟩ : ∃ x, q[k] = x := ⟨_, rfl⟩
      have HXX := Lib.hid hx
      rw [hx] at z0 z1 z2 z3 z4 z5 z6 z7 z8 hge hbad hgo
      obtain ⟨kd, ct, f, ⟨lo, ln, ld⟩, ⟨ho, hn, hd⟩⟩ := x
      simp only at z0 z1 z2 z3 z4 z5 z6 z7 z8
      have HS := Lib.hid (fun ww => qryhas_any kd ct f lo ln ld ho hn hd ww)
      obtain ⟨h, hh⟩ : ∃ h, hasQ ⟨kd, ct, f, ⟨lo, ln, ld⟩, ⟨ho, hn, hd⟩⟩ = h := ⟨_, rfl⟩
      rw [hh] at HS hge hbad hgo
      have hvW : vb < W.heap.size := Nat.lt_of_lt_of_le vB HA.out.size
      have hfl : q.length + 2 - (k + 1) = q.length + 1 - k := by omega
      have HFL := Lib.hid hfl
      clear hx hh hC hC2 hb hbw hfu HR hfl
      by_cases hneg : h < 0
      · have d2 : decide (h < 0) = true := decide_eq_true hneg
        have hq := (hbad hneg).symm.trans hr
        have HQ := Lib.hid hq
        clear hbad hgo hr hq
        go_wp2_with fail
        refine (HS.out _).mono ?_
        rintro e w1 ⟨rfl, hb1⟩
        have HB1 := Lib.hid (HB.out.trans (hb1.mono HB.out.size))
        clear hb1 z0 z1 z2 z3 z4 z5 z6 z7 z8 q1
        go_wp2_with fail
        go_ret
        exact ⟨by rw [← HQ.out]; rfl, HA.out.trans (HB1.out.mono HA.out.size)⟩
      · have d2 : decide (h < 0) = false := decide_eq_false hneg
        have hq := (hgo hneg).symm.trans hr
        have HQ := Lib.hid hq
        clear hbad hgo hr hq
        go_wp2_with fail
        refine (HS.out _).mono ?_
        rintro e w1 ⟨rfl, hb1⟩
        have HB1 := Lib.hid (HB.out.trans (hb1.mono HB.out.size))
        have HX3 := Lib.hid (HX2.out.low hb1)
        have hC3 := HCC.out.below (HA.out.trans (HB1.out.mono HA.out.size)) vB
        clear hb1 z0 z1 z2 z3 z4 z5 z6 z7 z8 q1 gx
        have z0 := hC3.get nod9_len k 0 hkl (by decide) rfl
        have z1 := hC3.get nod9_len k 1 hkl (by decide) rfl
        have z2 := hC3.get nod9_len k 2 hkl (by decide) rfl
        have z3 := hC3.get nod9_len k 3 hkl (by decide) rfl
        have z4 := hC3.get nod9_len k 4 hkl (by decide) rfl
        have z5 := hC3.get nod9_len k 5 hkl (by decide) rfl
        have z6 := hC3.get nod9_len k 6 hkl (by decide) rfl
        have z7 := hC3.get nod9_len k 7 hkl (by decide) rfl
        have z8 := hC3.get nod9_len k 8 hkl (by decide) rfl
        rw [Nat.add_zero] at z0
        rw [← Nat.add_assoc] at z1 z2 z3 z4 z5 z6 z7 z8
        rw [HXX.out] at z0 z1 z2 z3 z4 z5 z6 z7 z8
        simp only at z0 z1 z2 z3 z4 z5 z6 z7 z8
        have q1 := HX3.out.c 1 _ rfl
        have gx := HX3.out.lt
        clear hC3
        go_wp2_with fail
        go_region_with ((go_at_call 121; refine (HS.out _).mono ?_; rintro e w2 ⟨rfl, hb2⟩; have q1' := ((hb2.cell (p := ⟨w.heap.size, 1, none⟩) (by simpa using gx))).trans q1; have HB2 := Lib.hid (HB1.out.trans ((Below.refl w1.heap.size w1).drew.trans hb2 |>.mono HB1.out.size)); clear hb2))
        all_goals
          go_wp2_with fail
          have hnn := HN.out
          exact ⟨⟨k + 1, _, by go_num, rfl, by omega, by split <;> omega, by split <;> omega, Lib.hid (span_cast HQ.out HFL.out (by split <;> omega)), HB2.out⟩, by simp [intOf]; omega⟩
    have d2 : decide (n ≤ k) = true := decide_eq_true (by omega)
    have q1 := HX2.out.c 1 _ rfl
    have hq := hr
    rw [spanF_out q _ left k hl (by have := HN.out; omega)] at hq
    have HQ := Lib.hid hq
    clear hr hq hfu hb HR
    go_wp2_with fail
    go_ret
    exact ⟨by rw [← HQ.out]; rfl, HA.out.trans (HB.out.mono HA.out.size)⟩
end Go.Proofs.YtabhokgefpilkaaGreatDoor
