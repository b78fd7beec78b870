/-
  The walk of ref29.Read: lines of boxes that are not shown.
-/
import Derived.Test.YtcoaidpiignheaaDoorReadA
namespace Go.Proofs.YtcoaidpiignheaaDoor
open Go.RowKit Wsc
set_option maxRecDepth 100000 in
set_option maxHeartbeats 2000000 in
theorem rd_dash_q (t : List UInt8) (w : World) (hs : t.length ≤ 1000000) (a : List UInt8) (hw : spl 32 t = [a, [34], [45]]) :
    Calls Tryd.prog 27 #[.string (bs t)] w fun e w' => RowRes (refR t) e ∧ Below w.heap.size w w' := by
  have CU := refCut_any (bs t) 32 (w.alloc (.cells #[.int .i64 0, .string ⟨#[]⟩, .bool false, .int .i64 0, .int .i64 0, .int .i64 0, .int .i64 0, .int .i64 0] 62)) (by rw [bs_size]; omega)
  rw [bs_data] at CU
  have R0 := Lib.hid (Blk8.new w 62 (.int .i64 0) (.string ⟨#[]⟩) (.bool false) (.int .i64 0) (.int .i64 0) (.int .i64 0) (.int .i64 0) (.int .i64 0))
  have HA := Lib.hid ((Below.refl w.heap.size w).alloc (Nat.le_refl _) (.cells #[.int .i64 0, .string ⟨#[]⟩, .bool false, .int .i64 0, .int .i64 0, .int .i64 0, .int .i64 0, .int .i64 0] 62))
  have HRF := Lib.hid (show refR t = if (refVal a).2 = true then (if rightR ⟨(refVal a).1, [], zeroBox⟩ = true then some ⟨(refVal a).1, [], zeroBox⟩ else none) else none by
    unfold refR; rw [hw]; simp only
    cases hv : (refVal a).2
    · rw [if_pos (by simp), if_neg (by simp)]
    · rw [if_neg (by simp), if_pos rfl]
      simp only [refBox, if_true]
      rw [show tagOf [34] = [] by rfl])
  obtain ⟨b, hb34⟩ : ∃ b : List UInt8, b = [34] := ⟨_, rfl⟩
  rw [← hb34] at hw
  obtain ⟨e1, e2, e3⟩ := nonempty_of' b (by rw [hb34]; simp)
  have e4 : ((bs b).toList == ([34] : List UInt8)) = true := by rw [Lib.toList_data, bs_data, hb34]; rfl
  have e5 : (bs b).toList = [34] := by rw [Lib.toList_data, bs_data, hb34]
  have HB0 := Lib.hid hb34
  have E5 := Lib.hid e5
  clear hb34 e5
  obtain ⟨rest, hrest⟩ : ∃ rest : List (List UInt8), rest = [[45]] := ⟨_, rfl⟩
  rw [← hrest] at hw
  have hr : 1 ≤ rest.length := by rw [hrest]; simp
  have hnn3 : (a :: b :: rest).length = 3 := by rw [hrest]; rfl
  have HRS := Lib.hid hrest
  clear hrest
  rw [hw] at CU
  rw [hnn3] at CU
  have VA := Lib.hid (fun ww => refVal_any a ww (by have := spl_len t a (by rw [hw]; simp); omega))
  have HHS := Lib.hid hs
  have HW := Lib.hid hw
  clear hs hr hw
  have CU2 := Lib.hid CU
  clear CU
  go_enter Tryd.func27, Tryd.ntmps27
  go_wp2_with fail
  refine CU2.out.mono ?_
  rintro e w1 ⟨⟨v, rfl, hown⟩, hb⟩
  have R1 := Lib.hid (R0.out.below hb (by simp))
  have HB1 := Lib.hid (HA.out.trans (hb.mono (by simp)))
  obtain ⟨g, cap, rfl, hgB, hgS, hnc, hcm⟩ := ownsRow_pos hown (by omega)
  have C := fun j hj => strs_cells hown j hj
  have k0 := C 0 (by simp)
  have k1 := C 1 (by simp)
  rw [show (a :: b :: rest)[0] = a from rfl] at k0
  rw [show (a :: b :: rest)[1] = b from rfl] at k1
  have HC := Lib.hid C
  have hgr : w.heap.size < g := by have : (w.alloc (.cells #[.int .i64 0, .string ⟨#[]⟩, .bool false, .int .i64 0, .int .i64 0, .int .i64 0, .int .i64 0, .int .i64 0] 62)).heap.size = w.heap.size + 1 := by simp
                                   omega
  clear C hown hb hgB
  go_wp2_with fail
  refine (VA.out _).mono ?_
  rintro e w2 ⟨rfl, hb⟩
  have R2 := Lib.hid (R1.out.below hb (Nat.lt_trans hgr hgS))
  have HB2 := Lib.hid (HB1.out.trans (hb.mono HB1.out.size))
  have hgS2 : g < w2.heap.size := Nat.lt_of_lt_of_le hgS hb.size
  have k1' := (hb.cell (p := ⟨g, 1, none⟩) hgS).trans k1
  have HC2 := Lib.hid (fun j (hj : j < (a :: b :: rest).length) => (hb.cell (p := ⟨g, j, none⟩) hgS).trans (HC.out j hj))
  clear hb k0 k1 HC
  have A2 := fun v => (Below.refl w2.heap.size w2).alloc (Nat.le_refl _) (.cells #[.int .i64 (refVal a).1, v, .bool false, .int .i64 0, .int .i64 0, .int .i64 0, .int .i64 0, .int .i64 0] 62)
  have R3 := Lib.hid (fun v => R2.out.below (A2 v) (Nat.lt_trans hgr hgS2))
  have HB3 := Lib.hid (fun v => HB2.out.trans ((A2 v).mono HB2.out.size))
  obtain ⟨r0, r1, r2, r3, r4, r5, r6, r7, q0, q1, q2, q3, q4, q5, q6, q7⟩ := R2.out
  have hlt2 : w.heap.size < w2.heap.size := Nat.lt_trans hgr hgS2
  clear A2
  have k2 : w2.cell? ⟨g, 2, none⟩ = some (.string ⟨#[45]⟩) := by
    have h := HC2.out 2 (by rw [hnn3]; decide)
    have hx : (a :: b :: rest)[2]'(by rw [hnn3]; decide) = [45] := by have := HRS.out; subst this; rfl
    rw [hx] at h; exact h
  have RT := fun ww => rright_any ⟨(refVal a).1, [], zeroBox⟩ ww (by simp)
  have HRT := Lib.hid RT
  have X3 := Lib.hid (fun v => Blk8.new w2 62 (.int .i64 (refVal a).1) v (.bool false) (.int .i64 0) (.int .i64 0) (.int .i64 0) (.int .i64 0) (.int .i64 0))
  cases hok : (refVal a).2
  · have HRN := Lib.hid (show refR t = if false = true then some ⟨(refVal a).1, [], zeroBox⟩ else none by rw [HRF.out, hok]; rfl)
    clear RT hnn3
    generalize (refVal a).1 = d at *
    go_wp2_with fail
    have P4 := Lib.hid (fun o => ((R2.out.put (.int .i64 d) (.string ⟨#[]⟩) (.bool false) (.int .i64 0) (.int .i64 0) (.int .i64 0) (.int .i64 0) (.int .i64 0)).below ((Below.refl w2.heap.size _).alloc (by simp) o) (Nat.lt_trans hgr hgS2)).drew)
    have L4 := Lib.hid (fun o => ((below_put8 (r := w.heap.size) HB2.out (Nat.le_refl _) (.int .i64 d) (.string ⟨#[]⟩) (.bool false) (.int .i64 0) (.int .i64 0) (.int .i64 0) (.int .i64 0) (.int .i64 0)).alloc (by have := HB2.out.size; simp; omega) o).drew)
    go_region
    go_wp2
    exact ret_rrow rfl rfl (P4.out _) rfl ⟨rowRes_of HRN.out, L4.out _⟩
  · have HRN := Lib.hid (HRF.out.trans (if_pos hok))
    clear hnn3
    have XR := Lib.hid (X3.out (.string ⟨#[]⟩))
    have R3' := Lib.hid (R3.out (.string ⟨#[]⟩))
    have HB3' := Lib.hid (HB3.out (.string ⟨#[]⟩))
    generalize (refVal a).1 = d at *
    unfold rowV zeroBox at RT
    simp only at RT
    rw [show bs [] = ⟨#[]⟩ from rfl] at RT
    have HRT := Lib.hid RT
    clear RT
    have hz3 : w2.heap.size < (w2.alloc (.cells #[.int .i64 d, .string ⟨#[]⟩, .bool false, .int .i64 0, .int .i64 0, .int .i64 0, .int .i64 0, .int .i64 0] 62)).heap.size := by simp
    have HZ3 := Lib.hid hz3
    clear hz3
    go_wp2_with fail
    go_region_with ((go_at_call 21; refine (HRT.out _).mono ?_; rintro e w8 ⟨rfl, hb8⟩; have X8 := XR.out.drew.below hb8 (by exact HZ3.out); have R8 := R3'.out.drew.below hb8 (by exact Nat.lt_trans hlt2 HZ3.out); have HB8 := Lib.hid (HB3'.out.drew.trans (hb8.mono (by exact HB3'.out.size))); have HR8 := Lib.hid R8; obtain ⟨a0, a1, a2, a3, a4', a5', a6, a7, _, _, _, _, _, _, _, _⟩ := X8; obtain ⟨b0, b1, b2, b3, b4, b5, b6, b7, c0', c1', c2', c3', c4', c5', c6', c7'⟩ := R8; clear hb8))
    all_goals
      have P9 := Lib.hid (HR8.out.put (.int .i64 d) (.string ⟨#[]⟩) (.bool false) (.int .i64 0) (.int .i64 0) (.int .i64 0) (.int .i64 0) (.int .i64 0))
      have L9 := Lib.hid (below_put8 (r := w.heap.size) HB8.out (Nat.le_refl _) (.int .i64 d) (.string ⟨#[]⟩) (.bool false) (.int .i64 0) (.int .i64 0) (.int .i64 0) (.int .i64 0) (.int .i64 0))
      go_wp2
      exact ret_rrow rfl rfl P9.out rfl ⟨rowRes_of HRN.out, L9.out⟩
set_option maxRecDepth 100000 in
set_option maxHeartbeats 2000000 in
theorem rd_dash_o (t : List UInt8) (w : World) (hs : t.length ≤ 1000000) (a : List UInt8) (b : List UInt8) (hb0 : b ≠ []) (hb34 : b ≠ [34]) (hw : spl 32 t = [a, b, [45]]) :
    Calls Tryd.prog 27 #[.string (bs t)] w fun e w' => RowRes (refR t) e ∧ Below w.heap.size w w' := by
  have CU := refCut_any (bs t) 32 (w.alloc (.cells #[.int .i64 0, .string ⟨#[]⟩, .bool false, .int .i64 0, .int .i64 0, .int .i64 0, .int .i64 0, .int .i64 0] 62)) (by rw [bs_size]; omega)
  rw [bs_data] at CU
  have R0 := Lib.hid (Blk8.new w 62 (.int .i64 0) (.string ⟨#[]⟩) (.bool false) (.int .i64 0) (.int .i64 0) (.int .i64 0) (.int .i64 0) (.int .i64 0))
  have HA := Lib.hid ((Below.refl w.heap.size w).alloc (Nat.le_refl _) (.cells #[.int .i64 0, .string ⟨#[]⟩, .bool false, .int .i64 0, .int .i64 0, .int .i64 0, .int .i64 0, .int .i64 0] 62))
  have HRF := Lib.hid (show refR t = if (refVal a).2 = true then (if rightR ⟨(refVal a).1, b, zeroBox⟩ = true then some ⟨(refVal a).1, b, zeroBox⟩ else none) else none by
    unfold refR; rw [hw]; simp only
    cases hv : (refVal a).2
    · rw [if_pos (by simp), if_neg (by simp)]
    · rw [if_neg (by simp; exact hb0), if_pos rfl]
      simp only [refBox, if_true]
      rw [show tagOf b = b by unfold tagOf; rw [if_neg hb34]])
  obtain ⟨e1, e2, e3⟩ := nonempty_of' _ hb0
  have e4 : ((bs b).toList == ([34] : List UInt8)) = false := by rw [Lib.toList_data, bs_data]; simpa using hb34
  have e5 : ¬ (bs b).toList = [34] := by rw [Lib.toList_data, bs_data]; exact hb34
  clear hb0 hb34
  obtain ⟨rest, hrest⟩ : ∃ rest : List (List UInt8), rest = [[45]] := ⟨_, rfl⟩
  rw [← hrest] at hw
  have hr : 1 ≤ rest.length := by rw [hrest]; simp
  have hnn3 : (a :: b :: rest).length = 3 := by rw [hrest]; rfl
  have HRS := Lib.hid hrest
  clear hrest
  rw [hw] at CU
  rw [hnn3] at CU
  have VA := Lib.hid (fun ww => refVal_any a ww (by have := spl_len t a (by rw [hw]; simp); omega))
  have HHS := Lib.hid hs
  have HW := Lib.hid hw
  clear hs hr hw
  have CU2 := Lib.hid CU
  clear CU
  go_enter Tryd.func27, Tryd.ntmps27
  go_wp2_with fail
  refine CU2.out.mono ?_
  rintro e w1 ⟨⟨v, rfl, hown⟩, hb⟩
  have R1 := Lib.hid (R0.out.below hb (by simp))
  have HB1 := Lib.hid (HA.out.trans (hb.mono (by simp)))
  obtain ⟨g, cap, rfl, hgB, hgS, hnc, hcm⟩ := ownsRow_pos hown (by omega)
  have C := fun j hj => strs_cells hown j hj
  have k0 := C 0 (by simp)
  have k1 := C 1 (by simp)
  rw [show (a :: b :: rest)[0] = a from rfl] at k0
  rw [show (a :: b :: rest)[1] = b from rfl] at k1
  have HC := Lib.hid C
  have hgr : w.heap.size < g := by have : (w.alloc (.cells #[.int .i64 0, .string ⟨#[]⟩, .bool false, .int .i64 0, .int .i64 0, .int .i64 0, .int .i64 0, .int .i64 0] 62)).heap.size = w.heap.size + 1 := by simp
                                   omega
  clear C hown hb hgB
  go_wp2_with fail
  refine (VA.out _).mono ?_
  rintro e w2 ⟨rfl, hb⟩
  have R2 := Lib.hid (R1.out.below hb (Nat.lt_trans hgr hgS))
  have HB2 := Lib.hid (HB1.out.trans (hb.mono HB1.out.size))
  have hgS2 : g < w2.heap.size := Nat.lt_of_lt_of_le hgS hb.size
  have k1' := (hb.cell (p := ⟨g, 1, none⟩) hgS).trans k1
  have HC2 := Lib.hid (fun j (hj : j < (a :: b :: rest).length) => (hb.cell (p := ⟨g, j, none⟩) hgS).trans (HC.out j hj))
  clear hb k0 k1 HC
  have A2 := fun v => (Below.refl w2.heap.size w2).alloc (Nat.le_refl _) (.cells #[.int .i64 (refVal a).1, v, .bool false, .int .i64 0, .int .i64 0, .int .i64 0, .int .i64 0, .int .i64 0] 62)
  have R3 := Lib.hid (fun v => R2.out.below (A2 v) (Nat.lt_trans hgr hgS2))
  have HB3 := Lib.hid (fun v => HB2.out.trans ((A2 v).mono HB2.out.size))
  obtain ⟨r0, r1, r2, r3, r4, r5, r6, r7, q0, q1, q2, q3, q4, q5, q6, q7⟩ := R2.out
  have hlt2 : w.heap.size < w2.heap.size := Nat.lt_trans hgr hgS2
  clear A2
  have k2 : w2.cell? ⟨g, 2, none⟩ = some (.string ⟨#[45]⟩) := by
    have h := HC2.out 2 (by rw [hnn3]; decide)
    have hx : (a :: b :: rest)[2]'(by rw [hnn3]; decide) = [45] := by have := HRS.out; subst this; rfl
    rw [hx] at h; exact h
  have RT := fun ww => rright_any ⟨(refVal a).1, b, zeroBox⟩ ww (by have := spl_len t b (by rw [HW.out]; simp); have := HHS.out; simp only; omega)
  have HRT := Lib.hid RT
  have X3 := Lib.hid (fun v => Blk8.new w2 62 (.int .i64 (refVal a).1) v (.bool false) (.int .i64 0) (.int .i64 0) (.int .i64 0) (.int .i64 0) (.int .i64 0))
  cases hok : (refVal a).2
  · have HRN := Lib.hid (show refR t = if false = true then some ⟨(refVal a).1, b, zeroBox⟩ else none by rw [HRF.out, hok]; rfl)
    clear RT hnn3
    generalize (refVal a).1 = d at *
    go_wp2_with fail
    have P4 := Lib.hid (fun o => ((R2.out.put (.int .i64 d) (.string (bs b)) (.bool false) (.int .i64 0) (.int .i64 0) (.int .i64 0) (.int .i64 0) (.int .i64 0)).below ((Below.refl w2.heap.size _).alloc (by simp) o) (Nat.lt_trans hgr hgS2)).drew)
    have L4 := Lib.hid (fun o => ((below_put8 (r := w.heap.size) HB2.out (Nat.le_refl _) (.int .i64 d) (.string (bs b)) (.bool false) (.int .i64 0) (.int .i64 0) (.int .i64 0) (.int .i64 0) (.int .i64 0)).alloc (by have := HB2.out.size; simp; omega) o).drew)
    go_region
    go_wp2
    exact ret_rrow rfl rfl (P4.out _) rfl ⟨rowRes_of HRN.out, L4.out _⟩
  · have HRN := Lib.hid (HRF.out.trans (if_pos hok))
    clear hnn3
    have XR := Lib.hid (X3.out (.string (bs b)))
    have R3' := Lib.hid (R3.out (.string (bs b)))
    have HB3' := Lib.hid (HB3.out (.string (bs b)))
    generalize (refVal a).1 = d at *
    unfold rowV zeroBox at RT
    simp only at RT
    skip
    have HRT := Lib.hid RT
    clear RT
    have hz3 : w2.heap.size < (w2.alloc (.cells #[.int .i64 d, .string (bs b), .bool false, .int .i64 0, .int .i64 0, .int .i64 0, .int .i64 0, .int .i64 0] 62)).heap.size := by simp
    have HZ3 := Lib.hid hz3
    clear hz3
    go_wp2_with fail
    go_region_with ((go_at_call 21; refine (HRT.out _).mono ?_; rintro e w8 ⟨rfl, hb8⟩; have X8 := XR.out.drew.below hb8 (by exact HZ3.out); have R8 := R3'.out.drew.below hb8 (by exact Nat.lt_trans hlt2 HZ3.out); have HB8 := Lib.hid (HB3'.out.drew.trans (hb8.mono (by exact HB3'.out.size))); have HR8 := Lib.hid R8; obtain ⟨a0, a1, a2, a3, a4', a5', a6, a7, _, _, _, _, _, _, _, _⟩ := X8; obtain ⟨b0, b1, b2, b3, b4, b5, b6, b7, c0', c1', c2', c3', c4', c5', c6', c7'⟩ := R8; clear hb8))
    all_goals
      have P9 := Lib.hid (HR8.out.put (.int .i64 d) (.string (bs b)) (.bool false) (.int .i64 0) (.int .i64 0) (.int .i64 0) (.int .i64 0) (.int .i64 0))
      have L9 := Lib.hid (below_put8 (r := w.heap.size) HB8.out (Nat.le_refl _) (.int .i64 d) (.string (bs b)) (.bool false) (.int .i64 0) (.int .i64 0) (.int .i64 0) (.int .i64 0) (.int .i64 0))
      go_wp2
      exact ret_rrow rfl rfl P9.out rfl ⟨rowRes_of HRN.out, L9.out⟩
end Go.Proofs.YtcoaidpiignheaaDoor
