/-
  The walk of ref29.Read: lines of too few or too many words, and of boxes that are shown.
-/
import Derived.Test.YtcoaidpiignheaaDoorReadB
namespace Go.Proofs.YtcoaidpiignheaaDoor
open Go.RowKit Wsc
theorem refR_miss (t a b : List UInt8) (rest : List (List UInt8)) (hw : spl 32 t = a :: b :: rest) (h1 : rest ≠ [[45]]) (h2 : rest.length ≠ (if b = [34] then 5 else 4)) : refR t = none := by
  unfold refR refBox
  rw [hw]
  simp only
  by_cases hc : b = [] ∨ (refVal a).2 = false
  · rw [if_pos hc]
  · rw [if_neg hc, if_neg h1, if_neg (fun h => h2 h.1)]
theorem refR_bad (t a b : List UInt8) (rest : List (List UInt8)) (hw : spl 32 t = a :: b :: rest) (h1 : rest ≠ [[45]]) (h2 : ((refVal a).2 && rest.all fun x => (refVal x).2) = false) : refR t = none := by
  unfold refR refBox
  rw [hw]
  simp only
  by_cases h : b = [] ∨ (refVal a).2 = false
  · rw [if_pos h]
  · rw [if_neg h]
    have ha : (refVal a).2 = true := by cases hh : (refVal a).2 <;> simp_all
    rw [ha, Bool.true_and] at h2
    rw [if_neg h1, if_neg (fun h => by rw [h2] at h; exact absurd h.2 (by simp))]
theorem refR_good (t a b : List UInt8) (rest : List (List UInt8)) (hw : spl 32 t = a :: b :: rest) (hb : b ≠ []) (h1 : rest ≠ [[45]]) (h2 : ((refVal a).2 && rest.all fun x => (refVal x).2) = true) (h3 : rest.length = (if b = [34] then 5 else 4)) (r : RowP)
    (hr : r = ⟨(refVal a).1, tagOf b, ⟨true, numbersR rest 0, numbersR rest 1, numbersR rest 2, numbersR rest 3, numbersR rest 4⟩⟩) : refR t = if rightR r = true then some r else none := by
  subst hr
  simp only [Bool.and_eq_true] at h2
  unfold refR refBox
  rw [hw]
  simp only
  rw [if_neg, if_neg h1, if_pos ⟨h3, h2.2⟩]
  rintro (h | h)
  · exact hb h
  · rw [h2.1] at h; cases h
set_option maxRecDepth 100000 in
set_option maxHeartbeats 2000000 in
theorem rd_miss_q (t : List UInt8) (w : World) (hs : t.length ≤ 1000000) (a : List UInt8) (rest : List (List UInt8)) (hw : spl 32 t = a :: [34] :: rest) (hr : 1 ≤ rest.length) (h1 : rest ≠ [[45]]) (h2 : rest.length ≠ 5) :
    Calls Tryd.prog 27 #[.string (bs t)] w fun e w' => RowRes (refR t) e ∧ Below w.heap.size w w' := by
  have HN := Lib.hid (show refR t = none by exact refR_miss t a [34] rest hw h1 (by rw [if_pos rfl]; exact h2))
  have CU := refCut_any (bs t) 32 (w.alloc (.cells #[.int .i64 0, .string ⟨#[]⟩, .bool false, .int .i64 0, .int .i64 0, .int .i64 0, .int .i64 0, .int .i64 0] 62)) (by rw [bs_size]; omega)
  rw [bs_data] at CU
  have R0 := Lib.hid (Blk8.new w 62 (.int .i64 0) (.string ⟨#[]⟩) (.bool false) (.int .i64 0) (.int .i64 0) (.int .i64 0) (.int .i64 0) (.int .i64 0))
  have HA := Lib.hid ((Below.refl w.heap.size w).alloc (Nat.le_refl _) (.cells #[.int .i64 0, .string ⟨#[]⟩, .bool false, .int .i64 0, .int .i64 0, .int .i64 0, .int .i64 0, .int .i64 0] 62))
  obtain ⟨b, hb34⟩ : ∃ b : List UInt8, b = [34] := ⟨_, rfl⟩
  rw [← hb34] at hw
  obtain ⟨e1, e2, e3⟩ := nonempty_of' b (by rw [hb34]; simp)
  have e4 : ((bs b).toList == ([34] : List UInt8)) = true := by rw [Lib.toList_data, bs_data, hb34]; rfl
  have e5 : (bs b).toList = [34] := by rw [Lib.toList_data, bs_data, hb34]
  have HB0 := Lib.hid hb34
  have E5 := Lib.hid e5
  clear hb34 e5
  have H1 := Lib.hid h1
  have H2 := Lib.hid h2
  clear h1 h2
  rw [hw] at CU
  obtain ⟨n, hnn⟩ : ∃ n, n = (a :: b :: rest).length := ⟨_, rfl⟩
  rw [← hnn] at CU
  have hn3 : 3 ≤ n := by rw [hnn]; simp only [List.length_cons]; omega
  have HNN := Lib.hid hnn
  clear hnn
  have VA := Lib.hid (fun ww => refVal_any a ww (by have := spl_len t a (by rw [hw]; simp); omega))
  have HHS := Lib.hid hs
  have HW := Lib.hid hw
  clear hs hr hw
  have CU2 := Lib.hid CU
  clear CU
  go_enter Tryd.func27, Tryd.ntmps27
  go_wp2_with fail
  refine CU2.out.mono ?_
  rintro e w1 ⟨⟨v, rfl, hown⟩, hb⟩
  have R1 := Lib.hid (R0.out.below hb (by simp))
  have HB1 := Lib.hid (HA.out.trans (hb.mono (by simp)))
  obtain ⟨g, cap, rfl, hgB, hgS, hnc, hcm⟩ := ownsRow_pos hown (by omega)
  have C := fun j hj => strs_cells hown j hj
  have k0 := C 0 (by simp)
  have k1 := C 1 (by simp)
  rw [show (a :: b :: rest)[0] = a from rfl] at k0
  rw [show (a :: b :: rest)[1] = b from rfl] at k1
  have hn0 : 0 < n := by omega
  have hn1 : 1 < n := by omega
  have hn2 : ¬ ((n : Int) < 3) := by omega
  have HC := Lib.hid C
  have hgr : w.heap.size < g := by have : (w.alloc (.cells #[.int .i64 0, .string ⟨#[]⟩, .bool false, .int .i64 0, .int .i64 0, .int .i64 0, .int .i64 0, .int .i64 0] 62)).heap.size = w.heap.size + 1 := by simp
                                   omega
  clear C hown hb hgB
  go_wp2_with fail
  refine (VA.out _).mono ?_
  rintro e w2 ⟨rfl, hb⟩
  have R2 := Lib.hid (R1.out.below hb (Nat.lt_trans hgr hgS))
  have HB2 := Lib.hid (HB1.out.trans (hb.mono HB1.out.size))
  have hgS2 : g < w2.heap.size := Nat.lt_of_lt_of_le hgS hb.size
  have k1' := (hb.cell (p := ⟨g, 1, none⟩) hgS).trans k1
  have HC2 := Lib.hid (fun j (hj : j < (a :: b :: rest).length) => (hb.cell (p := ⟨g, j, none⟩) hgS).trans (HC.out j hj))
  clear hb k0 k1 HC
  have hlt2 : w.heap.size < w2.heap.size := Nat.lt_trans hgr hgS2
  obtain ⟨r0, r1, r2, r3, r4, r5, r6, r7, q0, q1, q2, q3, q4, q5, q6, q7⟩ := R2.out
  have P4 := Lib.hid (fun o => (R2.out.put (.int .i64 0) (.string ⟨#[]⟩) (.bool false) (.int .i64 0) (.int .i64 0) (.int .i64 0) (.int .i64 0) (.int .i64 0)).below ((Below.refl w2.heap.size _).alloc (by simp) o) (Nat.lt_trans hgr hgS2))
  have L4 := Lib.hid (fun o => (below_put8 (r := w.heap.size) HB2.out (Nat.le_refl _) (.int .i64 0) (.string ⟨#[]⟩) (.bool false) (.int .i64 0) (.int .i64 0) (.int .i64 0) (.int .i64 0) (.int .i64 0)).alloc (by have := HB2.out.size; simp; omega) o)
  have hm : n ≠ 7 := by have h1 := HNN.out; have h2 := H2.out; simp at h1; omega
  have hmi : ((n : Int) != 7) = true := by rw [bne_iff_ne]; omega
  clear hm
  by_cases h3 : n = 3
  · subst h3
    obtain ⟨c, hc⟩ : ∃ c, rest = [c] := by
      have h1 := HNN.out
      simp at h1
      cases rest with
      | nil => simp at h1
      | cons c r => cases r with
        | nil => exact ⟨c, rfl⟩
        | cons d r => simp at h1
    subst hc
    have k2 : w2.cell? ⟨g, 2, none⟩ = some (.string (bs c)) := HC2.out 2 (by simp)
    have hc45 : c ≠ [45] := fun h => H1.out (by rw [h])
    have e7 : ((bs c).toList == ([45] : List UInt8)) = false := by rw [Lib.toList_data, bs_data]; simpa using hc45
    have e8 : ¬ (bs c).toList = [45] := by rw [Lib.toList_data, bs_data]; exact hc45
    clear hc45
    go_wp2_with fail
    exact ret_rrow rfl rfl (P4.out _) rfl ⟨rowRes_none HN.out, L4.out _⟩
  · have h3i : ((n : Int) == 3) = false := by simp; omega
    clear h3
    go_wp2_with fail
    exact ret_rrow rfl rfl (P4.out _) rfl ⟨rowRes_none HN.out, L4.out _⟩
set_option maxRecDepth 100000 in
set_option maxHeartbeats 2000000 in
theorem rd_miss_o (t : List UInt8) (w : World) (hs : t.length ≤ 1000000) (a : List UInt8) (b : List UInt8) (hb0 : b ≠ []) (hb34 : b ≠ [34]) (rest : List (List UInt8)) (hw : spl 32 t = a :: b :: rest) (hr : 1 ≤ rest.length) (h1 : rest ≠ [[45]]) (h2 : rest.length ≠ 4) :
    Calls Tryd.prog 27 #[.string (bs t)] w fun e w' => RowRes (refR t) e ∧ Below w.heap.size w w' := by
  have HN := Lib.hid (show refR t = none by exact refR_miss t a b rest hw h1 (by rw [if_neg hb34]; exact h2))
  have CU := refCut_any (bs t) 32 (w.alloc (.cells #[.int .i64 0, .string ⟨#[]⟩, .bool false, .int .i64 0, .int .i64 0, .int .i64 0, .int .i64 0, .int .i64 0] 62)) (by rw [bs_size]; omega)
  rw [bs_data] at CU
  have R0 := Lib.hid (Blk8.new w 62 (.int .i64 0) (.string ⟨#[]⟩) (.bool false) (.int .i64 0) (.int .i64 0) (.int .i64 0) (.int .i64 0) (.int .i64 0))
  have HA := Lib.hid ((Below.refl w.heap.size w).alloc (Nat.le_refl _) (.cells #[.int .i64 0, .string ⟨#[]⟩, .bool false, .int .i64 0, .int .i64 0, .int .i64 0, .int .i64 0, .int .i64 0] 62))
  obtain ⟨e1, e2, e3⟩ := nonempty_of' _ hb0
  have e4 : ((bs b).toList == ([34] : List UInt8)) = false := by rw [Lib.toList_data, bs_data]; simpa using hb34
  have e5 : ¬ (bs b).toList = [34] := by rw [Lib.toList_data, bs_data]; exact hb34
  clear hb0 hb34
  have H1 := Lib.hid h1
  have H2 := Lib.hid h2
  clear h1 h2
  rw [hw] at CU
  obtain ⟨n, hnn⟩ : ∃ n, n = (a :: b :: rest).length := ⟨_, rfl⟩
  rw [← hnn] at CU
  have hn3 : 3 ≤ n := by rw [hnn]; simp only [List.length_cons]; omega
  have HNN := Lib.hid hnn
  clear hnn
  have VA := Lib.hid (fun ww => refVal_any a ww (by have := spl_len t a (by rw [hw]; simp); omega))
  have HHS := Lib.hid hs
  have HW := Lib.hid hw
  clear hs hr hw
  have CU2 := Lib.hid CU
  clear CU
  go_enter Tryd.func27, Tryd.ntmps27
  go_wp2_with fail
  refine CU2.out.mono ?_
  rintro e w1 ⟨⟨v, rfl, hown⟩, hb⟩
  have R1 := Lib.hid (R0.out.below hb (by simp))
  have HB1 := Lib.hid (HA.out.trans (hb.mono (by simp)))
  obtain ⟨g, cap, rfl, hgB, hgS, hnc, hcm⟩ := ownsRow_pos hown (by omega)
  have C := fun j hj => strs_cells hown j hj
  have k0 := C 0 (by simp)
  have k1 := C 1 (by simp)
  rw [show (a :: b :: rest)[0] = a from rfl] at k0
  rw [show (a :: b :: rest)[1] = b from rfl] at k1
  have hn0 : 0 < n := by omega
  have hn1 : 1 < n := by omega
  have hn2 : ¬ ((n : Int) < 3) := by omega
  have HC := Lib.hid C
  have hgr : w.heap.size < g := by have : (w.alloc (.cells #[.int .i64 0, .string ⟨#[]⟩, .bool false, .int .i64 0, .int .i64 0, .int .i64 0, .int .i64 0, .int .i64 0] 62)).heap.size = w.heap.size + 1 := by simp
                                   omega
  clear C hown hb hgB
  go_wp2_with fail
  refine (VA.out _).mono ?_
  rintro e w2 ⟨rfl, hb⟩
  have R2 := Lib.hid (R1.out.below hb (Nat.lt_trans hgr hgS))
  have HB2 := Lib.hid (HB1.out.trans (hb.mono HB1.out.size))
  have hgS2 : g < w2.heap.size := Nat.lt_of_lt_of_le hgS hb.size
  have k1' := (hb.cell (p := ⟨g, 1, none⟩) hgS).trans k1
  have HC2 := Lib.hid (fun j (hj : j < (a :: b :: rest).length) => (hb.cell (p := ⟨g, j, none⟩) hgS).trans (HC.out j hj))
  clear hb k0 k1 HC
  have hlt2 : w.heap.size < w2.heap.size := Nat.lt_trans hgr hgS2
  obtain ⟨r0, r1, r2, r3, r4, r5, r6, r7, q0, q1, q2, q3, q4, q5, q6, q7⟩ := R2.out
  have P4 := Lib.hid (fun o => (R2.out.put (.int .i64 0) (.string ⟨#[]⟩) (.bool false) (.int .i64 0) (.int .i64 0) (.int .i64 0) (.int .i64 0) (.int .i64 0)).below ((Below.refl w2.heap.size _).alloc (by simp) o) (Nat.lt_trans hgr hgS2))
  have L4 := Lib.hid (fun o => (below_put8 (r := w.heap.size) HB2.out (Nat.le_refl _) (.int .i64 0) (.string ⟨#[]⟩) (.bool false) (.int .i64 0) (.int .i64 0) (.int .i64 0) (.int .i64 0) (.int .i64 0)).alloc (by have := HB2.out.size; simp; omega) o)
  have hm : n ≠ 6 := by have h1 := HNN.out; have h2 := H2.out; simp at h1; omega
  have hmi : ((n : Int) != 6) = true := by rw [bne_iff_ne]; omega
  clear hm
  by_cases h3 : n = 3
  · subst h3
    obtain ⟨c, hc⟩ : ∃ c, rest = [c] := by
      have h1 := HNN.out
      simp at h1
      cases rest with
      | nil => simp at h1
      | cons c r => cases r with
        | nil => exact ⟨c, rfl⟩
        | cons d r => simp at h1
    subst hc
    have k2 : w2.cell? ⟨g, 2, none⟩ = some (.string (bs c)) := HC2.out 2 (by simp)
    have hc45 : c ≠ [45] := fun h => H1.out (by rw [h])
    have e7 : ((bs c).toList == ([45] : List UInt8)) = false := by rw [Lib.toList_data, bs_data]; simpa using hc45
    have e8 : ¬ (bs c).toList = [45] := by rw [Lib.toList_data, bs_data]; exact hc45
    clear hc45
    go_wp2_with fail
    exact ret_rrow rfl rfl (P4.out _) rfl ⟨rowRes_none HN.out, L4.out _⟩
  · have h3i : ((n : Int) == 3) = false := by simp; omega
    clear h3
    go_wp2_with fail
    exact ret_rrow rfl rfl (P4.out _) rfl ⟨rowRes_none HN.out, L4.out _⟩
end Go.Proofs.YtcoaidpiignheaaDoor
