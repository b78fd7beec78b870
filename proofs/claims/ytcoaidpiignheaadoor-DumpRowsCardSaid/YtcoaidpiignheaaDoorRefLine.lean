/-
  The walk of ref29.Line: a right row's line.
-/
import Derived.Test.YtcoaidpiignheaaDoorDumpE
namespace Go.Proofs.YtcoaidpiignheaaDoor
open Go.RowKit Wsc
theorem cat_lit (x y : List UInt8) (h : x.length + y.length ≤ 1000000) (ww : World) : (Go.Op.stringOp .add (bs x) ⟨y.toArray⟩).run Tryd.prog ww = .ok (.string (bs (x ++ y))) ww := add2 x y (by omega) ww
theorem conv10 (ww : World) : (convert 51 9 (.slice (some ⟨ww.heap.size, 0, none⟩) 1 1)).run Tryd.prog (ww.alloc (.cells #[.int .u8 10] 5)) = .ok (.string (bs [10])) (ww.alloc (.cells #[.int .u8 10] 5)) := by
  refine run_convert_bytes_back (P := Tryd.prog) _ 51 9 5 ⟨ww.heap.size, 0, none⟩ 1 [10] Tryd.underlying51 Tryd.underlying5 Tryd.underlying9 (fun j hj => ?_)
  have h0 : j = 0 := by simp at hj; exact hj
  subst h0
  rw [show (⟨ww.heap.size, 0, none⟩ : Addr).add 0 = ⟨ww.heap.size, 0, none⟩ from rfl, World.cell?_alloc_at _ _ _ _ rfl]
  rfl
theorem conv10' (ww : World) (g : Nat) (hg : g = ww.heap.size) : (convert 51 9 (.slice (some ⟨g, 0, none⟩) 1 1)).run Tryd.prog (ww.alloc (.cells #[.int .u8 10] 5)) = .ok (.string (bs [10])) (ww.alloc (.cells #[.int .u8 10] 5)) := by subst hg; exact conv10 ww
structure Late (w w' : World) : Prop where
  bel : Below w.heap.size w w'
theorem Late.next {w w1 w2 : World} (h : Late w w1) (hb : Below w1.heap.size w1 w2) : Late w w2 := ⟨h.1.trans (hb.mono h.1.size)⟩
theorem Late.drew {w w1 : World} (h : Late w w1) : Late w w1.drew := ⟨h.1.drew⟩
structure Late2 (B : Nat) (w w' : World) : Prop where
  bel : Below w.heap.size w w'
  lt : B < w'.heap.size
theorem Late2.next {B : Nat} {w w1 w2 : World} (h : Late2 B w w1) (hb : Below w1.heap.size w1 w2) : Late2 B w w2 := ⟨h.1.trans (hb.mono h.1.size), Nat.lt_of_lt_of_le h.2 hb.size⟩
theorem Late2.drew {B : Nat} {w w1 : World} (h : Late2 B w w1) : Late2 B w w1.drew := ⟨h.1.drew, h.2⟩
set_option maxRecDepth 100000 in
set_option maxHeartbeats 2000000 in
theorem rline_hid_e (d : Int) (tg : List UInt8) (x y bw bh ln : Int) (w : World) (hd : -1073741824 ≤ d ∧ d ≤ 1073741824) (htg : tg = []) :
    Calls Tryd.prog 25 #[rowV ⟨d, tg, ⟨false, x, y, bw, bh, ln⟩⟩] w fun e w' => e = .returned (.string (bs (joinSp [numN d, [34], [45]] ++ [10]))) ∧ Below w.heap.size w w' := by
  have hA := (Below.refl w.heap.size w).alloc (Nat.le_refl _) (.cells #[.int .i64 d, .string (bs tg), .bool false, .int .i64 x, .int .i64 y, .int .i64 bw, .int .i64 bh, .int .i64 ln] 62)
  have R0 := Lib.hid (Blk8.new w 62 (.int .i64 d) (.string (bs tg)) (.bool false) (.int .i64 x) (.int .i64 y) (.int .i64 bw) (.int .i64 bh) (.int .i64 ln))
  have HA := Lib.hid hA
  have NU := Lib.hid (fun n (hn : -1073741824 ≤ n ∧ n ≤ 1073741824) ww => refNum_any n ww (by omega) (by omega))
  have hnl := num_len2 d hd
  have NU0 := Lib.hid (NU.out d hd)
  obtain ⟨e1, e2, e3⟩ := empty_of' _ htg
  have AD0 := fun ww => cat_lit (numN d) [32] (by simp only [List.length_cons, List.length_nil]; omega) ww
  have AD1 := fun ww => cat_lit (numN d ++ [32]) [34] (by simp only [List.length_append, List.length_cons, List.length_nil]; omega) ww
  have AD2 := fun ww => cat_lit (numN d ++ [32] ++ [34]) [32, 45] (by simp only [List.length_append, List.length_cons, List.length_nil]; omega) ww
  have AD3 := fun ww => add2 (numN d ++ [32] ++ [34] ++ [32, 45]) ([10]) (by simp only [List.length_append, List.length_cons, List.length_nil]; omega) ww
  simp only [List.append_assoc, List.cons_append, List.nil_append] at AD0 AD1 AD2 AD3
  have CV := fun ww => conv10 ww
  have CV2 := fun ww o => conv10' (World.alloc ww o) (ww.heap.size + 1) (by simp)
  have HF := Lib.hid (show numN d ++ [32] ++ [34] ++ [32, 45] ++ [10] = joinSp [numN d, [34], [45]] ++ [10] by simp [joinSp])
  have hA0 := HA.out.size
  clear hA hd htg hnl
  generalize numN d = D at *
  unfold rowV
  go_enter Tryd.func25, Tryd.ntmps25
  go_wp2_with fail
  refine (NU0.out _).mono ?_
  rintro e w1 ⟨rfl, hb⟩
  obtain ⟨c0, c1, c2, c3, c4, c5, c6, c7, _, _, _, _, _, _, _, _⟩ := R0.out.below hb (by simp)
  have HB := Lib.hid (HA.out.trans (hb.mono HA.out.size))
  have hww : w.heap.size < w1.heap.size := by have := hb.size; simp at this; omega
  clear hb hA0
  go_wp2_with fail
  go_ret
  exact ⟨by rw [← HF.out]; simp, (HB.out.alloc HB.out.size _).alloc (by have := HB.out.size; simp; omega) _⟩
set_option maxRecDepth 100000 in
set_option maxHeartbeats 2000000 in
theorem rline_hid_o (d : Int) (tg : List UInt8) (x y bw bh ln : Int) (w : World) (hd : -1073741824 ≤ d ∧ d ≤ 1073741824) (htg : tg ≠ []) (ht : tg.length ≤ 1000) :
    Calls Tryd.prog 25 #[rowV ⟨d, tg, ⟨false, x, y, bw, bh, ln⟩⟩] w fun e w' => e = .returned (.string (bs (joinSp [numN d, tg, [45]] ++ [10]))) ∧ Below w.heap.size w w' := by
  have hA := (Below.refl w.heap.size w).alloc (Nat.le_refl _) (.cells #[.int .i64 d, .string (bs tg), .bool false, .int .i64 x, .int .i64 y, .int .i64 bw, .int .i64 bh, .int .i64 ln] 62)
  have R0 := Lib.hid (Blk8.new w 62 (.int .i64 d) (.string (bs tg)) (.bool false) (.int .i64 x) (.int .i64 y) (.int .i64 bw) (.int .i64 bh) (.int .i64 ln))
  have HA := Lib.hid hA
  have NU := Lib.hid (fun n (hn : -1073741824 ≤ n ∧ n ≤ 1073741824) ww => refNum_any n ww (by omega) (by omega))
  have hnl := num_len2 d hd
  have htl : tg.length ≤ 1000 := ht
  have NU0 := Lib.hid (NU.out d hd)
  obtain ⟨e1, e2, e3⟩ := nonempty_of' _ htg
  have AD0 := fun ww => cat_lit (numN d) [32] (by simp only [List.length_cons, List.length_nil]; omega) ww
  have AD1 := fun ww => add2 (numN d ++ [32]) (tg) (by simp only [List.length_append, List.length_cons, List.length_nil]; omega) ww
  have AD2 := fun ww => cat_lit (numN d ++ [32] ++ tg) [32, 45] (by simp only [List.length_append, List.length_cons, List.length_nil]; omega) ww
  have AD3 := fun ww => add2 (numN d ++ [32] ++ tg ++ [32, 45]) ([10]) (by simp only [List.length_append, List.length_cons, List.length_nil]; omega) ww
  simp only [List.append_assoc, List.cons_append, List.nil_append] at AD0 AD1 AD2 AD3
  have CV := fun ww => conv10 ww
  have CV2 := fun ww o => conv10' (World.alloc ww o) (ww.heap.size + 1) (by simp)
  have HF := Lib.hid (show numN d ++ [32] ++ tg ++ [32, 45] ++ [10] = joinSp [numN d, tg, [45]] ++ [10] by simp [joinSp])
  have hA0 := HA.out.size
  clear hA hd htg hnl htl ht
  generalize numN d = D at *
  unfold rowV
  go_enter Tryd.func25, Tryd.ntmps25
  go_wp2_with fail
  refine (NU0.out _).mono ?_
  rintro e w1 ⟨rfl, hb⟩
  obtain ⟨c0, c1, c2, c3, c4, c5, c6, c7, _, _, _, _, _, _, _, _⟩ := R0.out.below hb (by simp)
  have HB := Lib.hid (HA.out.trans (hb.mono HA.out.size))
  have hww : w.heap.size < w1.heap.size := by have := hb.size; simp at this; omega
  clear hb hA0
  go_wp2_with fail
  go_ret
  exact ⟨by rw [← HF.out]; simp, (HB.out.alloc HB.out.size _).alloc (by have := HB.out.size; simp; omega) _⟩
set_option maxRecDepth 100000 in
set_option maxHeartbeats 2000000 in
theorem rline_sho_e (d : Int) (tg : List UInt8) (x y bw bh ln : Int) (w : World) (hd : -1073741824 ≤ d ∧ d ≤ 1073741824) (htg : tg = []) (hx : -1073741824 ≤ x ∧ x ≤ 1073741824) (hy : -1073741824 ≤ y ∧ y ≤ 1073741824) (hbw : -1073741824 ≤ bw ∧ bw ≤ 1073741824) (hbh : -1073741824 ≤ bh ∧ bh ≤ 1073741824) (hln : -1073741824 ≤ ln ∧ ln ≤ 1073741824) :
    Calls Tryd.prog 25 #[rowV ⟨d, tg, ⟨true, x, y, bw, bh, ln⟩⟩] w fun e w' => e = .returned (.string (bs (joinSp [numN d, [34], numN x, numN y, numN bw, numN bh, numN ln] ++ [10]))) ∧ Below w.heap.size w w' := by
  have hA := (Below.refl w.heap.size w).alloc (Nat.le_refl _) (.cells #[.int .i64 d, .string (bs tg), .bool true, .int .i64 x, .int .i64 y, .int .i64 bw, .int .i64 bh, .int .i64 ln] 62)
  have R0 := Lib.hid (Blk8.new w 62 (.int .i64 d) (.string (bs tg)) (.bool true) (.int .i64 x) (.int .i64 y) (.int .i64 bw) (.int .i64 bh) (.int .i64 ln))
  have HA := Lib.hid hA
  have NU := Lib.hid (fun n (hn : -1073741824 ≤ n ∧ n ≤ 1073741824) ww => refNum_any n ww (by omega) (by omega))
  have hnl := num_len2 d hd
  have NU0 := Lib.hid (NU.out d hd)
  obtain ⟨e1, e2, e3⟩ := empty_of' _ htg
  have hnx := num_len2 x hx
  have hny := num_len2 y hy
  have hnw := num_len2 bw hbw
  have hnh := num_len2 bh hbh
  have hnn := num_len2 ln hln
  have AD0 := fun ww => cat_lit (numN d) [32] (by simp only [List.length_cons, List.length_nil]; omega) ww
  have AD1 := fun ww => cat_lit (numN d ++ [32]) [34] (by simp only [List.length_append, List.length_cons, List.length_nil]; omega) ww
  have AD2 := fun ww => cat_lit (numN d ++ [32] ++ [34]) [32] (by simp only [List.length_append, List.length_cons, List.length_nil]; omega) ww
  have AD3 := fun ww => add2 (numN d ++ [32] ++ [34] ++ [32]) (numN x) (by simp only [List.length_append, List.length_cons, List.length_nil]; omega) ww
  have AD4 := fun ww => cat_lit (numN d ++ [32] ++ [34] ++ [32] ++ numN x) [32] (by simp only [List.length_append, List.length_cons, List.length_nil]; omega) ww
  have AD5 := fun ww => add2 (numN d ++ [32] ++ [34] ++ [32] ++ numN x ++ [32]) (numN y) (by simp only [List.length_append, List.length_cons, List.length_nil]; omega) ww
  have AD6 := fun ww => cat_lit (numN d ++ [32] ++ [34] ++ [32] ++ numN x ++ [32] ++ numN y) [32] (by simp only [List.length_append, List.length_cons, List.length_nil]; omega) ww
  have AD7 := fun ww => add2 (numN d ++ [32] ++ [34] ++ [32] ++ numN x ++ [32] ++ numN y ++ [32]) (numN bw) (by simp only [List.length_append, List.length_cons, List.length_nil]; omega) ww
  have AD8 := fun ww => cat_lit (numN d ++ [32] ++ [34] ++ [32] ++ numN x ++ [32] ++ numN y ++ [32] ++ numN bw) [32] (by simp only [List.length_append, List.length_cons, List.length_nil]; omega) ww
  have AD9 := fun ww => add2 (numN d ++ [32] ++ [34] ++ [32] ++ numN x ++ [32] ++ numN y ++ [32] ++ numN bw ++ [32]) (numN bh) (by simp only [List.length_append, List.length_cons, List.length_nil]; omega) ww
  have AD10 := fun ww => cat_lit (numN d ++ [32] ++ [34] ++ [32] ++ numN x ++ [32] ++ numN y ++ [32] ++ numN bw ++ [32] ++ numN bh) [32] (by simp only [List.length_append, List.length_cons, List.length_nil]; omega) ww
  have AD11 := fun ww => add2 (numN d ++ [32] ++ [34] ++ [32] ++ numN x ++ [32] ++ numN y ++ [32] ++ numN bw ++ [32] ++ numN bh ++ [32]) (numN ln) (by simp only [List.length_append, List.length_cons, List.length_nil]; omega) ww
  have AD12 := fun ww => add2 (numN d ++ [32] ++ [34] ++ [32] ++ numN x ++ [32] ++ numN y ++ [32] ++ numN bw ++ [32] ++ numN bh ++ [32] ++ numN ln) ([10]) (by simp only [List.length_append, List.length_cons, List.length_nil]; omega) ww
  simp only [List.append_assoc, List.cons_append, List.nil_append] at AD0 AD1 AD2 AD3 AD4 AD5 AD6 AD7 AD8 AD9 AD10 AD11 AD12
  have CV := fun ww => conv10 ww
  have CV2 := fun ww o => conv10' (World.alloc ww o) (ww.heap.size + 1) (by simp)
  have HF := Lib.hid (show numN d ++ [32] ++ [34] ++ [32] ++ numN x ++ [32] ++ numN y ++ [32] ++ numN bw ++ [32] ++ numN bh ++ [32] ++ numN ln ++ [10] = joinSp [numN d, [34], numN x, numN y, numN bw, numN bh, numN ln] ++ [10] by simp [joinSp])
  have hA0 := HA.out.size
  have N_x := Lib.hid (NU.out x hx)
  have N_y := Lib.hid (NU.out y hy)
  have N_bw := Lib.hid (NU.out bw hbw)
  have N_bh := Lib.hid (NU.out bh hbh)
  have N_ln := Lib.hid (NU.out ln hln)
  clear NU
  clear hA hd htg hnl
  clear hx hy hbw hbh hln hnx hny hnw hnh hnn
  generalize numN d = D at *
  generalize numN x = X1 at *
  generalize numN y = X2 at *
  generalize numN bw = X3 at *
  generalize numN bh = X4 at *
  generalize numN ln = X5 at *
  unfold rowV
  go_enter Tryd.func25, Tryd.ntmps25
  go_wp2_with fail
  refine (NU0.out _).mono ?_
  rintro e w1 ⟨rfl, hb⟩
  obtain ⟨c0, c1, c2, c3, c4, c5, c6, c7, _, _, _, _, _, _, _, _⟩ := R0.out.below hb (by simp)
  have HB := Lib.hid (HA.out.trans (hb.mono HA.out.size))
  have hww : w.heap.size < w1.heap.size := by have := hb.size; simp at this; omega
  clear hb hA0
  have A2 := (Below.refl w1.heap.size w1).alloc (Nat.le_refl _) (.cells #[.bool true, .int .i64 x, .int .i64 y, .int .i64 bw, .int .i64 bh, .int .i64 ln] 47)
  have X0 := Blk6.new w1 47 (.bool true) (.int .i64 x) (.int .i64 y) (.int .i64 bw) (.int .i64 bh) (.int .i64 ln)
  have hL0 : Late2 w1.heap.size w (w1.alloc (.cells #[.bool true, .int .i64 x, .int .i64 y, .int .i64 bw, .int .i64 bh, .int .i64 ln] 47)) := ⟨HB.out.trans (A2.mono HB.out.size), by simp⟩
  have hcc := (A2.cell (p := ⟨w.heap.size, 1, none⟩) hww).trans c1
  go_wp2_with fail
  generalize hW : w1.alloc (.cells #[.bool true, .int .i64 x, .int .i64 y, .int .i64 bw, .int .i64 bh, .int .i64 ln] 47) = W at *
  generalize hB1 : w1.heap.size = b1 at *
  obtain ⟨q0, q1, q2, q3, q4, q5, _, _, _, _, _, _⟩ := X0
  clear hW A2 hB1 c0 c1 c2 c3 c4 c5 c6 c7
  go_region_held3 (fun w' => w'.cell? ⟨b1, 1, none⟩ = some (.int .i64 x) ∧ w'.cell? ⟨b1, 2, none⟩ = some (.int .i64 y) ∧ w'.cell? ⟨b1, 3, none⟩ = some (.int .i64 bw) ∧ w'.cell? ⟨b1, 4, none⟩ = some (.int .i64 bh) ∧ w'.cell? ⟨b1, 5, none⟩ = some (.int .i64 ln) ∧ w'.cell? ⟨w.heap.size, 1, none⟩ = some (.string (bs tg)) ∧ Late2 b1 w w')
    (first
      | exact ⟨q1, q2, q3, q4, q5, hcc, Late2.drew hL0⟩
      | (go_split_ands
         refine ⟨?_, ?_, ?_, ?_, ?_, ?_, ?_⟩
         all_goals (first | (refine (hb.cell (Late2.lt (by assumption))).trans ?_; assumption) | (refine (hb.cell (p := ⟨w.heap.size, 1, none⟩) (Nat.lt_trans hww (Late2.lt (by assumption)))).trans ?_; assumption) | exact Late2.next (by assumption) hb)))
    ((first
      | (go_at_call_of 47 (Value.int IntKind.i64 x); refine (N_x.out _).mono ?_; rintro e w2 ⟨rfl, hb⟩)
      | (go_at_call_of 47 (Value.int IntKind.i64 y); refine (N_y.out _).mono ?_; rintro e w2 ⟨rfl, hb⟩)
      | (go_at_call_of 47 (Value.int IntKind.i64 bw); refine (N_bw.out _).mono ?_; rintro e w2 ⟨rfl, hb⟩)
      | (go_at_call_of 47 (Value.int IntKind.i64 bh); refine (N_bh.out _).mono ?_; rintro e w2 ⟨rfl, hb⟩)))
  rename_i hH
  obtain ⟨z1, z2, z3, z4, z5, z6, hL⟩ := hH
  have HL := Lib.hid hL
  go_wp2_with fail
  refine (N_ln.out _).mono ?_
  rintro e w3 ⟨rfl, hb3⟩
  have HB3 := Lib.hid (HL.out.bel.trans (hb3.mono HL.out.bel.size))
  clear hb3 hL z1 z2 z3 z4 z5 z6
  go_wp2_with fail
  go_ret
  exact ⟨by rw [← HF.out]; simp, HB3.out.alloc HB3.out.size _⟩
set_option maxRecDepth 100000 in
set_option maxHeartbeats 2000000 in
theorem rline_sho_o (d : Int) (tg : List UInt8) (x y bw bh ln : Int) (w : World) (hd : -1073741824 ≤ d ∧ d ≤ 1073741824) (htg : tg ≠ []) (ht : tg.length ≤ 1000) (hx : -1073741824 ≤ x ∧ x ≤ 1073741824) (hy : -1073741824 ≤ y ∧ y ≤ 1073741824) (hbw : -1073741824 ≤ bw ∧ bw ≤ 1073741824) (hbh : -1073741824 ≤ bh ∧ bh ≤ 1073741824) (hln : -1073741824 ≤ ln ∧ ln ≤ 1073741824) :
    Calls Tryd.prog 25 #[rowV ⟨d, tg, ⟨true, x, y, bw, bh, ln⟩⟩] w fun e w' => e = .returned (.string (bs (joinSp [numN d, tg, numN x, numN y, numN bw, numN bh] ++ [10]))) ∧ Below w.heap.size w w' := by
  have hA := (Below.refl w.heap.size w).alloc (Nat.le_refl _) (.cells #[.int .i64 d, .string (bs tg), .bool true, .int .i64 x, .int .i64 y, .int .i64 bw, .int .i64 bh, .int .i64 ln] 62)
  have R0 := Lib.hid (Blk8.new w 62 (.int .i64 d) (.string (bs tg)) (.bool true) (.int .i64 x) (.int .i64 y) (.int .i64 bw) (.int .i64 bh) (.int .i64 ln))
  have HA := Lib.hid hA
  have NU := Lib.hid (fun n (hn : -1073741824 ≤ n ∧ n ≤ 1073741824) ww => refNum_any n ww (by omega) (by omega))
  have hnl := num_len2 d hd
  have htl : tg.length ≤ 1000 := ht
  have NU0 := Lib.hid (NU.out d hd)
  obtain ⟨e1, e2, e3⟩ := nonempty_of' _ htg
  have hnx := num_len2 x hx
  have hny := num_len2 y hy
  have hnw := num_len2 bw hbw
  have hnh := num_len2 bh hbh
  have hnn := num_len2 ln hln
  have AD0 := fun ww => cat_lit (numN d) [32] (by simp only [List.length_cons, List.length_nil]; omega) ww
  have AD1 := fun ww => add2 (numN d ++ [32]) (tg) (by simp only [List.length_append, List.length_cons, List.length_nil]; omega) ww
  have AD2 := fun ww => cat_lit (numN d ++ [32] ++ tg) [32] (by simp only [List.length_append, List.length_cons, List.length_nil]; omega) ww
  have AD3 := fun ww => add2 (numN d ++ [32] ++ tg ++ [32]) (numN x) (by simp only [List.length_append, List.length_cons, List.length_nil]; omega) ww
  have AD4 := fun ww => cat_lit (numN d ++ [32] ++ tg ++ [32] ++ numN x) [32] (by simp only [List.length_append, List.length_cons, List.length_nil]; omega) ww
  have AD5 := fun ww => add2 (numN d ++ [32] ++ tg ++ [32] ++ numN x ++ [32]) (numN y) (by simp only [List.length_append, List.length_cons, List.length_nil]; omega) ww
  have AD6 := fun ww => cat_lit (numN d ++ [32] ++ tg ++ [32] ++ numN x ++ [32] ++ numN y) [32] (by simp only [List.length_append, List.length_cons, List.length_nil]; omega) ww
  have AD7 := fun ww => add2 (numN d ++ [32] ++ tg ++ [32] ++ numN x ++ [32] ++ numN y ++ [32]) (numN bw) (by simp only [List.length_append, List.length_cons, List.length_nil]; omega) ww
  have AD8 := fun ww => cat_lit (numN d ++ [32] ++ tg ++ [32] ++ numN x ++ [32] ++ numN y ++ [32] ++ numN bw) [32] (by simp only [List.length_append, List.length_cons, List.length_nil]; omega) ww
  have AD9 := fun ww => add2 (numN d ++ [32] ++ tg ++ [32] ++ numN x ++ [32] ++ numN y ++ [32] ++ numN bw ++ [32]) (numN bh) (by simp only [List.length_append, List.length_cons, List.length_nil]; omega) ww
  have AD10 := fun ww => add2 (numN d ++ [32] ++ tg ++ [32] ++ numN x ++ [32] ++ numN y ++ [32] ++ numN bw ++ [32] ++ numN bh) ([10]) (by simp only [List.length_append, List.length_cons, List.length_nil]; omega) ww
  simp only [List.append_assoc, List.cons_append, List.nil_append] at AD0 AD1 AD2 AD3 AD4 AD5 AD6 AD7 AD8 AD9 AD10
  have CV := fun ww => conv10 ww
  have CV2 := fun ww o => conv10' (World.alloc ww o) (ww.heap.size + 1) (by simp)
  have HF := Lib.hid (show numN d ++ [32] ++ tg ++ [32] ++ numN x ++ [32] ++ numN y ++ [32] ++ numN bw ++ [32] ++ numN bh ++ [10] = joinSp [numN d, tg, numN x, numN y, numN bw, numN bh] ++ [10] by simp [joinSp])
  have hA0 := HA.out.size
  have N_x := Lib.hid (NU.out x hx)
  have N_y := Lib.hid (NU.out y hy)
  have N_bw := Lib.hid (NU.out bw hbw)
  have N_bh := Lib.hid (NU.out bh hbh)
  clear NU
  clear hA hd htg hnl htl ht
  clear hx hy hbw hbh hln hnx hny hnw hnh hnn
  generalize numN d = D at *
  generalize numN x = X1 at *
  generalize numN y = X2 at *
  generalize numN bw = X3 at *
  generalize numN bh = X4 at *
  unfold rowV
  go_enter Tryd.func25, Tryd.ntmps25
  go_wp2_with fail
  refine (NU0.out _).mono ?_
  rintro e w1 ⟨rfl, hb⟩
  obtain ⟨c0, c1, c2, c3, c4, c5, c6, c7, _, _, _, _, _, _, _, _⟩ := R0.out.below hb (by simp)
  have HB := Lib.hid (HA.out.trans (hb.mono HA.out.size))
  have hww : w.heap.size < w1.heap.size := by have := hb.size; simp at this; omega
  clear hb hA0
  have A2 := (Below.refl w1.heap.size w1).alloc (Nat.le_refl _) (.cells #[.bool true, .int .i64 x, .int .i64 y, .int .i64 bw, .int .i64 bh, .int .i64 ln] 47)
  have X0 := Blk6.new w1 47 (.bool true) (.int .i64 x) (.int .i64 y) (.int .i64 bw) (.int .i64 bh) (.int .i64 ln)
  have hL0 : Late2 w1.heap.size w (w1.alloc (.cells #[.bool true, .int .i64 x, .int .i64 y, .int .i64 bw, .int .i64 bh, .int .i64 ln] 47)) := ⟨HB.out.trans (A2.mono HB.out.size), by simp⟩
  have hcc := (A2.cell (p := ⟨w.heap.size, 1, none⟩) hww).trans c1
  go_wp2_with fail
  generalize hW : w1.alloc (.cells #[.bool true, .int .i64 x, .int .i64 y, .int .i64 bw, .int .i64 bh, .int .i64 ln] 47) = W at *
  generalize hB1 : w1.heap.size = b1 at *
  obtain ⟨q0, q1, q2, q3, q4, q5, _, _, _, _, _, _⟩ := X0
  clear hW A2 hB1 c0 c1 c2 c3 c4 c5 c6 c7
  go_region_held3 (fun w' => w'.cell? ⟨b1, 1, none⟩ = some (.int .i64 x) ∧ w'.cell? ⟨b1, 2, none⟩ = some (.int .i64 y) ∧ w'.cell? ⟨b1, 3, none⟩ = some (.int .i64 bw) ∧ w'.cell? ⟨b1, 4, none⟩ = some (.int .i64 bh) ∧ w'.cell? ⟨b1, 5, none⟩ = some (.int .i64 ln) ∧ w'.cell? ⟨w.heap.size, 1, none⟩ = some (.string (bs tg)) ∧ Late2 b1 w w')
    (first
      | exact ⟨q1, q2, q3, q4, q5, hcc, Late2.drew hL0⟩
      | (go_split_ands
         refine ⟨?_, ?_, ?_, ?_, ?_, ?_, ?_⟩
         all_goals (first | (refine (hb.cell (Late2.lt (by assumption))).trans ?_; assumption) | (refine (hb.cell (p := ⟨w.heap.size, 1, none⟩) (Nat.lt_trans hww (Late2.lt (by assumption)))).trans ?_; assumption) | exact Late2.next (by assumption) hb)))
    ((first
      | (go_at_call_of 47 (Value.int IntKind.i64 x); refine (N_x.out _).mono ?_; rintro e w2 ⟨rfl, hb⟩)
      | (go_at_call_of 47 (Value.int IntKind.i64 y); refine (N_y.out _).mono ?_; rintro e w2 ⟨rfl, hb⟩)
      | (go_at_call_of 47 (Value.int IntKind.i64 bw); refine (N_bw.out _).mono ?_; rintro e w2 ⟨rfl, hb⟩)
      | (go_at_call_of 47 (Value.int IntKind.i64 bh); refine (N_bh.out _).mono ?_; rintro e w2 ⟨rfl, hb⟩)))
  rename_i hH
  obtain ⟨z1, z2, z3, z4, z5, z6, hL⟩ := hH
  have HL := Lib.hid hL
  go_wp2_with fail
  go_ret
  exact ⟨by rw [← HF.out]; simp, HL.out.bel.alloc HL.out.bel.size _⟩
theorem refLine_any (r : RowP) (w : World) (hr : rightR r = true) :
    Calls Tryd.prog 25 #[rowV r] w fun e w' => e = .returned (.string (bs (lineR r))) ∧ Below w.heap.size w w' := by
  have hd := right_depth hr
  have ht : r.tag.length ≤ 1000 := by
    rcases right_tag hr with e | e
    · rw [e]; simp
    · unfold nameB at e; simp at e; omega
  unfold lineR
  by_cases hsh : r.box.shown = true
  · obtain ⟨b1, b2, b3, b4, b5, b6⟩ := shown_held (right_shown hr hsh)
    obtain ⟨d, tg, ⟨sh, x, y, bw, bh, ln⟩⟩ := r
    simp only at *
    subst hsh
    by_cases h0 : tg = []
    · have e : wordsR ⟨d, tg, ⟨true, x, y, bw, bh, ln⟩⟩ = [numN d, [34], numN x, numN y, numN bw, numN bh, numN ln] := by simp [wordsR, tagL, h0]
      rw [e]
      exact rline_sho_e d tg x y bw bh ln w (by omega) h0 b1 b2 b3 b4 b5
    · have e : wordsR ⟨d, tg, ⟨true, x, y, bw, bh, ln⟩⟩ = [numN d, tg, numN x, numN y, numN bw, numN bh] := by simp [wordsR, tagL, h0]
      rw [e]
      exact rline_sho_o d tg x y bw bh ln w (by omega) h0 ht b1 b2 b3 b4 b5
  · obtain ⟨d, tg, ⟨sh, x, y, bw, bh, ln⟩⟩ := r
    simp only at *
    have hsh2 : sh = false := by simpa using hsh
    subst hsh2
    by_cases h0 : tg = []
    · have e : wordsR ⟨d, tg, ⟨false, x, y, bw, bh, ln⟩⟩ = [numN d, [34], [45]] := by simp [wordsR, tagL, h0]
      rw [e]
      exact rline_hid_e d tg x y bw bh ln w (by omega) h0
    · have e : wordsR ⟨d, tg, ⟨false, x, y, bw, bh, ln⟩⟩ = [numN d, tg, [45]] := by simp [wordsR, tagL, h0]
      rw [e]
      exact rline_hid_o d tg x y bw bh ln w (by omega) h0 ht
end Go.Proofs.YtcoaidpiignheaaDoor
