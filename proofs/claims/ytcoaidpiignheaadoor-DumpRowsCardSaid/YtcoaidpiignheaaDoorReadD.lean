/-
  The walk of ref29.Read: lines of boxes that are shown.
-/
import Derived.Test.YtcoaidpiignheaaDoorReadC
import Derived.StillTailTactics
namespace Go.Proofs.YtcoaidpiignheaaDoor
open Go.RowKit Wsc
theorem IntsAt.alloc {w : World} {g n : Nat} {f : Nat → Int} (h : IntsAt w g n f) (hg : g < w.heap.size) (o : Obj) : IntsAt (w.alloc o) g n f := h.below ((Below.refl w.heap.size w).alloc (Nat.le_refl _) o) hg
theorem take_all_snoc (rest : List (List UInt8)) (k : Nat) (hk : k < rest.length) (p : List UInt8 → Bool) : (rest.take (k + 1)).all p = ((rest.take k).all p && p rest[k]) := by
  rw [List.take_succ_eq_append_getElem hk, List.all_append]; simp
set_option maxRecDepth 100000 in
set_option maxHeartbeats 2000000 in
theorem rd_loop_q (t : List UInt8) (w : World) (hs : t.length ≤ 1000000) (a : List UInt8) (rest : List (List UInt8)) (hw : spl 32 t = a :: [34] :: rest) (hl : rest.length = 5) :
    Calls Tryd.prog 27 #[.string (bs t)] w fun e w' => RowRes (refR t) e ∧ Below w.heap.size w w' := by
  have CU := refCut_any (bs t) 32 (w.alloc (.cells #[.int .i64 0, .string ⟨#[]⟩, .bool false, .int .i64 0, .int .i64 0, .int .i64 0, .int .i64 0, .int .i64 0] 62)) (by rw [bs_size]; omega)
  rw [bs_data] at CU
  have R0 := Lib.hid (Blk8.new w 62 (.int .i64 0) (.string ⟨#[]⟩) (.bool false) (.int .i64 0) (.int .i64 0) (.int .i64 0) (.int .i64 0) (.int .i64 0))
  have HA := Lib.hid ((Below.refl w.heap.size w).alloc (Nat.le_refl _) (.cells #[.int .i64 0, .string ⟨#[]⟩, .bool false, .int .i64 0, .int .i64 0, .int .i64 0, .int .i64 0, .int .i64 0] 62))
  have h1 : rest ≠ [[45]] := by intro h; rw [h] at hl; simp at hl
  have BAD := Lib.hid (fun h2 => refR_bad t a [34] rest hw h1 h2)
  have GOOD := Lib.hid (fun h2 r hr => refR_good t a [34] rest hw (by simp) h1 h2 (by rw [if_pos rfl]; exact hl) r hr)
  have HTG := Lib.hid (show tagOf [34] = [] by rfl)
  clear h1
  obtain ⟨b, hb34⟩ : ∃ b : List UInt8, b = [34] := ⟨_, rfl⟩
  rw [← hb34] at hw
  obtain ⟨e1, e2, e3⟩ := nonempty_of' b (by rw [hb34]; simp)
  have e4 : ((bs b).toList == ([34] : List UInt8)) = true := by rw [Lib.toList_data, bs_data, hb34]; rfl
  have e5 : (bs b).toList = [34] := by rw [Lib.toList_data, bs_data, hb34]
  have HB0 := Lib.hid hb34
  have E5 := Lib.hid e5
  clear hb34 e5
  have hr : 1 ≤ rest.length := by omega
  have hnn3 : (a :: b :: rest).length = 7 := by simp; omega
  have HL := Lib.hid hl
  clear hl
  rw [hw] at CU
  rw [hnn3] at CU
  have VA := Lib.hid (fun ww => refVal_any a ww (by have := spl_len t a (by rw [hw]; simp); omega))
  have HHS := Lib.hid hs
  have HW := Lib.hid hw
  clear hs hr hw
  have CU2 := Lib.hid CU
  clear CU
  go_enter Tryd.func27, Tryd.ntmps27
  go_wp2_with fail
  refine CU2.out.mono ?_
  rintro e w1 ⟨⟨v, rfl, hown⟩, hb⟩
  have R1 := Lib.hid (R0.out.below hb (by simp))
  have HB1 := Lib.hid (HA.out.trans (hb.mono (by simp)))
  obtain ⟨g, cap, rfl, hgB, hgS, hnc, hcm⟩ := ownsRow_pos hown (by omega)
  have C := fun j hj => strs_cells hown j hj
  have k0 := C 0 (by simp)
  have k1 := C 1 (by simp)
  rw [show (a :: b :: rest)[0] = a from rfl] at k0
  rw [show (a :: b :: rest)[1] = b from rfl] at k1
  have HC := Lib.hid C
  have hgr : w.heap.size < g := by have : (w.alloc (.cells #[.int .i64 0, .string ⟨#[]⟩, .bool false, .int .i64 0, .int .i64 0, .int .i64 0, .int .i64 0, .int .i64 0] 62)).heap.size = w.heap.size + 1 := by simp
                                   omega
  clear C hown hb hgB
  go_wp2_with fail
  refine (VA.out _).mono ?_
  rintro e w2 ⟨rfl, hb⟩
  have R2 := Lib.hid (R1.out.below hb (Nat.lt_trans hgr hgS))
  have HB2 := Lib.hid (HB1.out.trans (hb.mono HB1.out.size))
  have hgS2 : g < w2.heap.size := Nat.lt_of_lt_of_le hgS hb.size
  have k1' := (hb.cell (p := ⟨g, 1, none⟩) hgS).trans k1
  have HC2 := Lib.hid (fun j (hj : j < (a :: b :: rest).length) => (hb.cell (p := ⟨g, j, none⟩) hgS).trans (HC.out j hj))
  clear hb k0 k1 HC
  have hlt2 : w.heap.size < w2.heap.size := Nat.lt_trans hgr hgS2
  have VX := Lib.hid (fun x (hx : x ∈ a :: b :: rest) ww => refVal_any x ww (by have := spl_len t x (by rw [HW.out]; exact hx); have := HHS.out; omega))
  obtain ⟨r0, r1, r2, r3, r4, r5, r6, r7, q0, q1, q2, q3, q4, q5, q6, q7⟩ := R2.out
  have hmk : ∀ ww : World, (Instr.makeSlice 92 (.int .i64 5) (.int .i64 5)).run Tryd.prog ww = .ok (.slice (some ⟨ww.heap.size, 0, none⟩) 5 5) (ww.alloc (.cells #[.int .i64 0, .int .i64 0, .int .i64 0, .int .i64 0, .int .i64 0] 3)) := fun _ => by kernel_rfl
  have XR0 := Blk8.new w2 62 (.int .i64 (refVal a).1) (.string ⟨#[]⟩) (.bool false) (.int .i64 0) (.int .i64 0) (.int .i64 0) (.int .i64 0) (.int .i64 0)
  have A1 := (Below.refl w2.heap.size w2).alloc (Nat.le_refl _) (.cells #[.int .i64 (refVal a).1, .string ⟨#[]⟩, .bool false, .int .i64 0, .int .i64 0, .int .i64 0, .int .i64 0, .int .i64 0] 62)
  go_wp2_with fail
  obtain ⟨W1, hW1⟩ : ∃ W, W = w2.alloc (.cells #[.int .i64 (refVal a).1, .string ⟨#[]⟩, .bool false, .int .i64 0, .int .i64 0, .int .i64 0, .int .i64 0, .int .i64 0] 62) := ⟨_, rfl⟩
  have hz1 : W1.heap.size = w2.heap.size + 1 := by rw [hW1]; simp
  rw [← hW1] at XR0 A1 ⊢
  have A2 := (Below.refl W1.heap.size W1).alloc (Nat.le_refl _) (.cells #[.int .i64 0, .int .i64 0, .int .i64 0, .int .i64 0, .int .i64 0] 3)
  have I0 := ints5_new W1 3
  rw [hz1] at A2 I0
  have hz3 : (W1.alloc (.cells #[.int .i64 0, .int .i64 0, .int .i64 0, .int .i64 0, .int .i64 0] 3)).heap.size = w2.heap.size + 2 := by simp [hz1]
  have A3 : Below w2.heap.size w2 (W1.alloc (.cells #[.int .i64 0, .int .i64 0, .int .i64 0, .int .i64 0, .int .i64 0] 3)) := A1.trans (A2.mono (by omega))
  have XR := Lib.hid (XR0.below A2 (by omega))
  have R3 := Lib.hid (R2.out.below A3 hlt2)
  have HB3 := Lib.hid (HB2.out.trans (A3.mono HB2.out.size))
  have HC3 := Lib.hid (fun j (hj : j < (a :: b :: rest).length) => (A3.cell (p := ⟨g, j, none⟩) hgS2).trans (HC2.out j hj))
  generalize hW3 : W1.alloc (.cells #[.int .i64 0, .int .i64 0, .int .i64 0, .int .i64 0, .int .i64 0] 3) = W3 at *
  obtain ⟨gv, hgv⟩ : ∃ gv, gv = w2.heap.size + 1 := ⟨_, rfl⟩
  rw [← hgv] at I0 ⊢
  have HGV := Lib.hid hgv
  have HZ3 := Lib.hid hz3
  have hgv2 : w2.heap.size < gv := by omega
  have hgv0 : w.heap.size < gv := by omega
  have hgvg : g < gv := by omega
  have hd0 : ((refVal a).2 && (rest.take 0).all fun x => (refVal x).2) = (refVal a).2 := by simp
  have HD0 := Lib.hid hd0
  have HI0 := Lib.hid I0
  generalize (refVal a).1 = d at *
  generalize (refVal a).2 = ok0 at *
  clear hW3 hW1 hz1 XR0 A1 A2 A3 I0 hgv hz3 hd0 hnn3 r0 r1 r2 r3 r4 r5 r6 r7 q0 q1 q2 q3 q4 q5 q6 q7 HC2 k1' hmk
  go_loopw [6, 10] (fun okv iv wr => ∃ (k : Nat) (okb : Bool) (f : Nat → Int), okv = .bool okb ∧ iv = .int .i64 k ∧ k ≤ 5 ∧ IntsAt wr gv 5 f ∧ Hid (okb = (ok0 && (rest.take k).all fun x => (refVal x).2)) ∧ Hid (∀ j, f j = if j < k then numbersR rest j else 0) ∧ Below gv W3 wr) (fun _ iv _ => 5 - (intOf iv).toNat)
  case atStart => exact ⟨0, ok0, fun _ => 0, rfl, rfl, by omega, HI0.out, Lib.hid HD0.out.symm, Lib.hid (fun j => by rw [if_neg (by omega)]), Below.refl _ _⟩
  case round =>
    obtain ⟨k, okb, f, rfl, rfl, hk, hI, HO, HF, hbl⟩ := hrel
    have hwr : gv < wr.heap.size := by have := hbl.size; have := HZ3.out; have := HGV.out; omega
    have HW3 := Lib.hid hbl.size
    by_cases hgo : k < 5 ∧ okb = true
    · obtain ⟨hlt, rfl⟩ := hgo
      have hkl : k < rest.length := by rw [HL.out]; exact hlt
      have kc : wr.cell? ⟨g, k + 2, none⟩ = some (.string (bs rest[k])) := (hbl.cell (p := ⟨g, k + 2, none⟩) hgvg).trans (HC3.out (k + 2) (by simp; omega))
      have V := fun ww => VX.out rest[k] (by simp) ww
      have TA := take_all_snoc rest k hkl (fun x => (refVal x).2)
      have NR : numbersR rest k = (refVal rest[k]).1 := by unfold numbersR; simp [hkl]
      generalize rest[k] = x at *
      have hfz := hI.f k (by omega)
      have hcl := hI.c k (by omega)
      have hgS3 : k + 2 < 7 := by omega
      have HI := Lib.hid hI
      have HBL := Lib.hid hbl
      generalize (refVal x).1 = vx at *
      generalize (refVal x).2 = vo at *
      have HTA := Lib.hid TA
      have HNR := Lib.hid NR
      have V2 := Lib.hid V
      clear hI hbl V TA NR hkl
      go_wp2_with fail
      refine (V2.out _).mono ?_
      rintro e w4 ⟨rfl, hb4⟩
      have I4 := HI.out.below hb4 hwr
      have hfz4 := I4.f k (by omega)
      have hcl4 := I4.c k (by omega)
      have HB4 := Lib.hid (HBL.out.trans (hb4.mono (Nat.le_of_lt hwr)))
      have HI4 := Lib.hid I4
      clear hb4 I4 hfz hcl
      go_wp2_with fail
      go_roundw
      case rel =>
        refine ⟨k + 1, vo, fun j => if j = k then vx else f j, rfl, by go_num, by omega, HI4.out.put k (by omega) vx (by simp) (fun j hj => by simp [hj]), Lib.hid ?_, Lib.hid (fun j => ?_), HB4.out.setCell (Nat.le_refl _) _⟩
        · have h := HO.out
          rw [HTA.out, ← Bool.and_assoc, ← h]; simp
        · by_cases hj : j = k
          · subst hj; simp only [if_true]; rw [if_pos (by omega), HNR.out]
          · simp only [hj, if_false]; rw [HF.out j]
            by_cases h : j < k
            · rw [if_pos h, if_pos (by omega)]
            · rw [if_neg h, if_neg (by omega)]
      case measure => simp [intOf]; omega
    · have i0 := hI.c 0 (by decide)
      have i1 := hI.c 1 (by decide)
      have i2 := hI.c 2 (by decide)
      have i3 := hI.c 3 (by decide)
      have i4 := hI.c 4 (by decide)
      have X4 := XR.out.below hbl (by omega)
      have R4 := R3.out.below hbl hgv0
      have HB4 := HB3.out.trans (hbl.mono (by have := HB3.out.size; omega))
      have X5 := Lib.hid ((X4.putBox (.bool true) (.int .i64 (f 0)) (.int .i64 (f 1)) (.int .i64 (f 2)) (.int .i64 (f 3)) (.int .i64 (f 4))))
      have L5 := below_putBox (r := w2.heap.size) (Below.refl w2.heap.size wr) (Nat.le_refl _) (.bool true) (.int .i64 (f 0)) (.int .i64 (f 1)) (.int .i64 (f 2)) (.int .i64 (f 3)) (.int .i64 (f 4))
      have R5 := Lib.hid (R4.below L5 hlt2)
      have HB5 := Lib.hid (HB4.trans (L5.mono (Nat.le_of_lt hlt2)))
      have hw2r : w2.heap.size < wr.heap.size := by omega
      have hne : w.heap.size ≠ w2.heap.size := by omega
      obtain ⟨x0, x1, x2, x3, x4, x5, x6, x7, y0, y1, y2, y3, y4, y5, y6, y7⟩ := X4
      obtain ⟨r0, r1, r2, r3, r4, r5, r6, r7, q0, q1, q2, q3, q4, q5, q6, q7⟩ := R4
      clear hI hbl L5 HB4
      cases hob : okb
      · subst hob
        have hbad : refR t = none := BAD.out (by
          have h := HO.out
          cases h1 : ok0
          · rfl
          · rw [h1, Bool.true_and] at h
            rw [Bool.true_and, List.all_eq_false]
            obtain ⟨x, hx, hx2⟩ := List.all_eq_false.1 h.symm
            exact ⟨x, List.mem_of_mem_take hx, hx2⟩)
        have HRN := Lib.hid (show refR t = if false = true then some (⟨d, [], ⟨true, f 0, f 1, f 2, f 3, f 4⟩⟩ : RowP) else none by rw [hbad]; rfl)
        have P9 := Lib.hid (R5.out.put (.int .i64 d) (.string ⟨#[]⟩) (.bool true) (.int .i64 (f 0)) (.int .i64 (f 1)) (.int .i64 (f 2)) (.int .i64 (f 3)) (.int .i64 (f 4))).drew.drew
        have L9 := Lib.hid (below_put8 (r := w.heap.size) HB5.out (Nat.le_refl _) (.int .i64 d) (.string ⟨#[]⟩) (.bool true) (.int .i64 (f 0)) (.int .i64 (f 1)) (.int .i64 (f 2)) (.int .i64 (f 3)) (.int .i64 (f 4))).drew.drew
        clear hbad hgo
        have hkd : k < 5 ∨ k = 5 := by omega
        by_cases hlt : k < 5
        all_goals
          go_wp2_with fail
          go_still_tail 17, (by kernel_rfl)
          go_wp2_with fail
          go_region
          go_wp2
          exact ret_rrow rfl rfl P9.out rfl ⟨rowRes_of HRN.out, L9.out⟩
      · subst hob
        have hke : k = 5 := by rcases Nat.lt_or_ge k 5 with h | h; exact absurd ⟨h, rfl⟩ hgo; omega
        subst hke
        have hgood := GOOD.out (by
          have h := HO.out
          rw [List.take_of_length_le (by rw [HL.out]; exact Nat.le_refl _)] at h
          exact h.symm) ⟨d, [], ⟨true, f 0, f 1, f 2, f 3, f 4⟩⟩ (by
          have hx : ∀ j, j < 5 → f j = numbersR rest j := fun j hj => by rw [HF.out j, if_pos hj]
          have h4 : f 4 = numbersR rest 4 := by
            rw [HF.out 4]
            by_cases h : 4 < 5
            · rw [if_pos h]
            · rw [if_neg h]; unfold numbersR; rw [List.getD_eq_getElem?_getD, List.getElem?_eq_none (by rw [List.length_map, HL.out]; omega)]; rfl
          rw [HTG.out, hx 0 (by decide), hx 1 (by decide), hx 2 (by decide), hx 3 (by decide), h4])
        have HRN := Lib.hid hgood
        have RT := fun ww => rright_any ⟨d, [], ⟨true, f 0, f 1, f 2, f 3, f 4⟩⟩ ww (by simp)
        unfold rowV at RT
        simp only at RT
        rw [show bs [] = ⟨#[]⟩ from rfl] at RT
        have HRT := Lib.hid RT
        have X5d := Lib.hid X5.out.drew.drew
        have R5d := Lib.hid R5.out.drew.drew
        have HB5d := Lib.hid HB5.out.drew.drew
        have hw2x : w2.heap.size < ((((((wr.setCell ⟨w2.heap.size, 2, none⟩ (.bool true)).setCell ⟨w2.heap.size, 3, none⟩ (.int .i64 (f 0))).setCell ⟨w2.heap.size, 4, none⟩ (.int .i64 (f 1))).setCell ⟨w2.heap.size, 5, none⟩ (.int .i64 (f 2))).setCell ⟨w2.heap.size, 6, none⟩ (.int .i64 (f 3))).setCell ⟨w2.heap.size, 7, none⟩ (.int .i64 (f 4))).drew.drew.heap.size := by simp; exact hw2r
        have HWX := Lib.hid hw2x
        clear hgood hgo hk RT hw2x
        go_wp2_with fail
        go_still_tail 17, (by kernel_rfl)
        go_wp2_with fail
        go_region_with ((go_at_call 21; refine (HRT.out _).mono ?_; rintro e w8 ⟨rfl, hb8⟩; have X8 := X5d.out.below hb8 (by exact HWX.out); have R8 := R5d.out.below hb8 (by exact Nat.lt_trans hlt2 HWX.out); have HB8 := Lib.hid (HB5d.out.trans (hb8.mono (by exact HB5d.out.size))); have HR8 := Lib.hid R8; obtain ⟨a0, a1, a2, a3, a4', a5', a6, a7, _, _, _, _, _, _, _, _⟩ := X8; obtain ⟨b0, b1, b2, b3, b4, b5, b6, b7, c0', c1', c2', c3', c4', c5', c6', c7'⟩ := R8; clear hb8))
        all_goals
          have P9 := Lib.hid (HR8.out.put (.int .i64 d) (.string ⟨#[]⟩) (.bool true) (.int .i64 (f 0)) (.int .i64 (f 1)) (.int .i64 (f 2)) (.int .i64 (f 3)) (.int .i64 (f 4)))
          have L9 := Lib.hid (below_put8 (r := w.heap.size) HB8.out (Nat.le_refl _) (.int .i64 d) (.string ⟨#[]⟩) (.bool true) (.int .i64 (f 0)) (.int .i64 (f 1)) (.int .i64 (f 2)) (.int .i64 (f 3)) (.int .i64 (f 4)))
          go_wp2
          exact ret_rrow rfl rfl P9.out rfl ⟨rowRes_of HRN.out, L9.out⟩
set_option maxRecDepth 100000 in
set_option maxHeartbeats 2000000 in
theorem rd_loop_o (t : List UInt8) (w : World) (hs : t.length ≤ 1000000) (a : List UInt8) (b : List UInt8) (hb0 : b ≠ []) (hb34 : b ≠ [34]) (rest : List (List UInt8)) (hw : spl 32 t = a :: b :: rest) (hl : rest.length = 4) :
    Calls Tryd.prog 27 #[.string (bs t)] w fun e w' => RowRes (refR t) e ∧ Below w.heap.size w w' := by
  have CU := refCut_any (bs t) 32 (w.alloc (.cells #[.int .i64 0, .string ⟨#[]⟩, .bool false, .int .i64 0, .int .i64 0, .int .i64 0, .int .i64 0, .int .i64 0] 62)) (by rw [bs_size]; omega)
  rw [bs_data] at CU
  have R0 := Lib.hid (Blk8.new w 62 (.int .i64 0) (.string ⟨#[]⟩) (.bool false) (.int .i64 0) (.int .i64 0) (.int .i64 0) (.int .i64 0) (.int .i64 0))
  have HA := Lib.hid ((Below.refl w.heap.size w).alloc (Nat.le_refl _) (.cells #[.int .i64 0, .string ⟨#[]⟩, .bool false, .int .i64 0, .int .i64 0, .int .i64 0, .int .i64 0, .int .i64 0] 62))
  have h1 : rest ≠ [[45]] := by intro h; rw [h] at hl; simp at hl
  have BAD := Lib.hid (fun h2 => refR_bad t a b rest hw h1 h2)
  have GOOD := Lib.hid (fun h2 r hr => refR_good t a b rest hw (by exact hb0) h1 h2 (by rw [if_neg hb34]; exact hl) r hr)
  have HTG := Lib.hid (show tagOf b = b by unfold tagOf; rw [if_neg hb34])
  clear h1
  obtain ⟨e1, e2, e3⟩ := nonempty_of' _ hb0
  have e4 : ((bs b).toList == ([34] : List UInt8)) = false := by rw [Lib.toList_data, bs_data]; simpa using hb34
  have e5 : ¬ (bs b).toList = [34] := by rw [Lib.toList_data, bs_data]; exact hb34
  clear hb0 hb34
  have hr : 1 ≤ rest.length := by omega
  have hnn3 : (a :: b :: rest).length = 6 := by simp; omega
  have HL := Lib.hid hl
  clear hl
  rw [hw] at CU
  rw [hnn3] at CU
  have VA := Lib.hid (fun ww => refVal_any a ww (by have := spl_len t a (by rw [hw]; simp); omega))
  have HHS := Lib.hid hs
  have HW := Lib.hid hw
  clear hs hr hw
  have CU2 := Lib.hid CU
  clear CU
  go_enter Tryd.func27, Tryd.ntmps27
  go_wp2_with fail
  refine CU2.out.mono ?_
  rintro e w1 ⟨⟨v, rfl, hown⟩, hb⟩
  have R1 := Lib.hid (R0.out.below hb (by simp))
  have HB1 := Lib.hid (HA.out.trans (hb.mono (by simp)))
  obtain ⟨g, cap, rfl, hgB, hgS, hnc, hcm⟩ := ownsRow_pos hown (by omega)
  have C := fun j hj => strs_cells hown j hj
  have k0 := C 0 (by simp)
  have k1 := C 1 (by simp)
  rw [show (a :: b :: rest)[0] = a from rfl] at k0
  rw [show (a :: b :: rest)[1] = b from rfl] at k1
  have HC := Lib.hid C
  have hgr : w.heap.size < g := by have : (w.alloc (.cells #[.int .i64 0, .string ⟨#[]⟩, .bool false, .int .i64 0, .int .i64 0, .int .i64 0, .int .i64 0, .int .i64 0] 62)).heap.size = w.heap.size + 1 := by simp
                                   omega
  clear C hown hb hgB
  go_wp2_with fail
  refine (VA.out _).mono ?_
  rintro e w2 ⟨rfl, hb⟩
  have R2 := Lib.hid (R1.out.below hb (Nat.lt_trans hgr hgS))
  have HB2 := Lib.hid (HB1.out.trans (hb.mono HB1.out.size))
  have hgS2 : g < w2.heap.size := Nat.lt_of_lt_of_le hgS hb.size
  have k1' := (hb.cell (p := ⟨g, 1, none⟩) hgS).trans k1
  have HC2 := Lib.hid (fun j (hj : j < (a :: b :: rest).length) => (hb.cell (p := ⟨g, j, none⟩) hgS).trans (HC.out j hj))
  clear hb k0 k1 HC
  have hlt2 : w.heap.size < w2.heap.size := Nat.lt_trans hgr hgS2
  have VX := Lib.hid (fun x (hx : x ∈ a :: b :: rest) ww => refVal_any x ww (by have := spl_len t x (by rw [HW.out]; exact hx); have := HHS.out; omega))
  obtain ⟨r0, r1, r2, r3, r4, r5, r6, r7, q0, q1, q2, q3, q4, q5, q6, q7⟩ := R2.out
  have hmk : ∀ ww : World, (Instr.makeSlice 92 (.int .i64 5) (.int .i64 5)).run Tryd.prog ww = .ok (.slice (some ⟨ww.heap.size, 0, none⟩) 5 5) (ww.alloc (.cells #[.int .i64 0, .int .i64 0, .int .i64 0, .int .i64 0, .int .i64 0] 3)) := fun _ => by kernel_rfl
  have XR0 := Blk8.new w2 62 (.int .i64 (refVal a).1) (.string (bs b)) (.bool false) (.int .i64 0) (.int .i64 0) (.int .i64 0) (.int .i64 0) (.int .i64 0)
  have A1 := (Below.refl w2.heap.size w2).alloc (Nat.le_refl _) (.cells #[.int .i64 (refVal a).1, .string (bs b), .bool false, .int .i64 0, .int .i64 0, .int .i64 0, .int .i64 0, .int .i64 0] 62)
  go_wp2_with fail
  obtain ⟨W1, hW1⟩ : ∃ W, W = w2.alloc (.cells #[.int .i64 (refVal a).1, .string (bs b), .bool false, .int .i64 0, .int .i64 0, .int .i64 0, .int .i64 0, .int .i64 0] 62) := ⟨_, rfl⟩
  have hz1 : W1.heap.size = w2.heap.size + 1 := by rw [hW1]; simp
  rw [← hW1] at XR0 A1 ⊢
  have A2 := (Below.refl W1.heap.size W1).alloc (Nat.le_refl _) (.cells #[.int .i64 0, .int .i64 0, .int .i64 0, .int .i64 0, .int .i64 0] 3)
  have I0 := ints5_new W1 3
  rw [hz1] at A2 I0
  have hz3 : (W1.alloc (.cells #[.int .i64 0, .int .i64 0, .int .i64 0, .int .i64 0, .int .i64 0] 3)).heap.size = w2.heap.size + 2 := by simp [hz1]
  have A3 : Below w2.heap.size w2 (W1.alloc (.cells #[.int .i64 0, .int .i64 0, .int .i64 0, .int .i64 0, .int .i64 0] 3)) := A1.trans (A2.mono (by omega))
  have XR := Lib.hid (XR0.below A2 (by omega))
  have R3 := Lib.hid (R2.out.below A3 hlt2)
  have HB3 := Lib.hid (HB2.out.trans (A3.mono HB2.out.size))
  have HC3 := Lib.hid (fun j (hj : j < (a :: b :: rest).length) => (A3.cell (p := ⟨g, j, none⟩) hgS2).trans (HC2.out j hj))
  generalize hW3 : W1.alloc (.cells #[.int .i64 0, .int .i64 0, .int .i64 0, .int .i64 0, .int .i64 0] 3) = W3 at *
  obtain ⟨gv, hgv⟩ : ∃ gv, gv = w2.heap.size + 1 := ⟨_, rfl⟩
  rw [← hgv] at I0 ⊢
  have HGV := Lib.hid hgv
  have HZ3 := Lib.hid hz3
  have hgv2 : w2.heap.size < gv := by omega
  have hgv0 : w.heap.size < gv := by omega
  have hgvg : g < gv := by omega
  have hd0 : ((refVal a).2 && (rest.take 0).all fun x => (refVal x).2) = (refVal a).2 := by simp
  have HD0 := Lib.hid hd0
  have HI0 := Lib.hid I0
  generalize (refVal a).1 = d at *
  generalize (refVal a).2 = ok0 at *
  clear hW3 hW1 hz1 XR0 A1 A2 A3 I0 hgv hz3 hd0 hnn3 r0 r1 r2 r3 r4 r5 r6 r7 q0 q1 q2 q3 q4 q5 q6 q7 HC2 k1' hmk
  go_loopw [6, 10] (fun okv iv wr => ∃ (k : Nat) (okb : Bool) (f : Nat → Int), okv = .bool okb ∧ iv = .int .i64 k ∧ k ≤ 4 ∧ IntsAt wr gv 5 f ∧ Hid (okb = (ok0 && (rest.take k).all fun x => (refVal x).2)) ∧ Hid (∀ j, f j = if j < k then numbersR rest j else 0) ∧ Below gv W3 wr) (fun _ iv _ => 4 - (intOf iv).toNat)
  case atStart => exact ⟨0, ok0, fun _ => 0, rfl, rfl, by omega, HI0.out, Lib.hid HD0.out.symm, Lib.hid (fun j => by rw [if_neg (by omega)]), Below.refl _ _⟩
  case round =>
    obtain ⟨k, okb, f, rfl, rfl, hk, hI, HO, HF, hbl⟩ := hrel
    have hwr : gv < wr.heap.size := by have := hbl.size; have := HZ3.out; have := HGV.out; omega
    have HW3 := Lib.hid hbl.size
    by_cases hgo : k < 4 ∧ okb = true
    · obtain ⟨hlt, rfl⟩ := hgo
      have hkl : k < rest.length := by rw [HL.out]; exact hlt
      have kc : wr.cell? ⟨g, k + 2, none⟩ = some (.string (bs rest[k])) := (hbl.cell (p := ⟨g, k + 2, none⟩) hgvg).trans (HC3.out (k + 2) (by simp; omega))
      have V := fun ww => VX.out rest[k] (by simp) ww
      have TA := take_all_snoc rest k hkl (fun x => (refVal x).2)
      have NR : numbersR rest k = (refVal rest[k]).1 := by unfold numbersR; simp [hkl]
      generalize rest[k] = x at *
      have hfz := hI.f k (by omega)
      have hcl := hI.c k (by omega)
      have hgS3 : k + 2 < 6 := by omega
      have HI := Lib.hid hI
      have HBL := Lib.hid hbl
      generalize (refVal x).1 = vx at *
      generalize (refVal x).2 = vo at *
      have HTA := Lib.hid TA
      have HNR := Lib.hid NR
      have V2 := Lib.hid V
      clear hI hbl V TA NR hkl
      go_wp2_with fail
      refine (V2.out _).mono ?_
      rintro e w4 ⟨rfl, hb4⟩
      have I4 := HI.out.below hb4 hwr
      have hfz4 := I4.f k (by omega)
      have hcl4 := I4.c k (by omega)
      have HB4 := Lib.hid (HBL.out.trans (hb4.mono (Nat.le_of_lt hwr)))
      have HI4 := Lib.hid I4
      clear hb4 I4 hfz hcl
      go_wp2_with fail
      go_roundw
      case rel =>
        refine ⟨k + 1, vo, fun j => if j = k then vx else f j, rfl, by go_num, by omega, HI4.out.put k (by omega) vx (by simp) (fun j hj => by simp [hj]), Lib.hid ?_, Lib.hid (fun j => ?_), HB4.out.setCell (Nat.le_refl _) _⟩
        · have h := HO.out
          rw [HTA.out, ← Bool.and_assoc, ← h]; simp
        · by_cases hj : j = k
          · subst hj; simp only [if_true]; rw [if_pos (by omega), HNR.out]
          · simp only [hj, if_false]; rw [HF.out j]
            by_cases h : j < k
            · rw [if_pos h, if_pos (by omega)]
            · rw [if_neg h, if_neg (by omega)]
      case measure => simp [intOf]; omega
    · have i0 := hI.c 0 (by decide)
      have i1 := hI.c 1 (by decide)
      have i2 := hI.c 2 (by decide)
      have i3 := hI.c 3 (by decide)
      have i4 := hI.c 4 (by decide)
      have X4 := XR.out.below hbl (by omega)
      have R4 := R3.out.below hbl hgv0
      have HB4 := HB3.out.trans (hbl.mono (by have := HB3.out.size; omega))
      have X5 := Lib.hid ((X4.putBox (.bool true) (.int .i64 (f 0)) (.int .i64 (f 1)) (.int .i64 (f 2)) (.int .i64 (f 3)) (.int .i64 (f 4))))
      have L5 := below_putBox (r := w2.heap.size) (Below.refl w2.heap.size wr) (Nat.le_refl _) (.bool true) (.int .i64 (f 0)) (.int .i64 (f 1)) (.int .i64 (f 2)) (.int .i64 (f 3)) (.int .i64 (f 4))
      have R5 := Lib.hid (R4.below L5 hlt2)
      have HB5 := Lib.hid (HB4.trans (L5.mono (Nat.le_of_lt hlt2)))
      have hw2r : w2.heap.size < wr.heap.size := by omega
      have hne : w.heap.size ≠ w2.heap.size := by omega
      obtain ⟨x0, x1, x2, x3, x4, x5, x6, x7, y0, y1, y2, y3, y4, y5, y6, y7⟩ := X4
      obtain ⟨r0, r1, r2, r3, r4, r5, r6, r7, q0, q1, q2, q3, q4, q5, q6, q7⟩ := R4
      clear hI hbl L5 HB4
      cases hob : okb
      · subst hob
        have hbad : refR t = none := BAD.out (by
          have h := HO.out
          cases h1 : ok0
          · rfl
          · rw [h1, Bool.true_and] at h
            rw [Bool.true_and, List.all_eq_false]
            obtain ⟨x, hx, hx2⟩ := List.all_eq_false.1 h.symm
            exact ⟨x, List.mem_of_mem_take hx, hx2⟩)
        have HRN := Lib.hid (show refR t = if false = true then some (⟨d, b, ⟨true, f 0, f 1, f 2, f 3, f 4⟩⟩ : RowP) else none by rw [hbad]; rfl)
        have P9 := Lib.hid (R5.out.put (.int .i64 d) (.string (bs b)) (.bool true) (.int .i64 (f 0)) (.int .i64 (f 1)) (.int .i64 (f 2)) (.int .i64 (f 3)) (.int .i64 (f 4))).drew.drew
        have L9 := Lib.hid (below_put8 (r := w.heap.size) HB5.out (Nat.le_refl _) (.int .i64 d) (.string (bs b)) (.bool true) (.int .i64 (f 0)) (.int .i64 (f 1)) (.int .i64 (f 2)) (.int .i64 (f 3)) (.int .i64 (f 4))).drew.drew
        clear hbad hgo
        have hkd : k < 4 ∨ k = 4 := by omega
        by_cases hlt : k < 4
        all_goals
          go_wp2_with fail
          go_still_tail 17, (by kernel_rfl)
          go_wp2_with fail
          go_region
          go_wp2
          exact ret_rrow rfl rfl P9.out rfl ⟨rowRes_of HRN.out, L9.out⟩
      · subst hob
        have hke : k = 4 := by rcases Nat.lt_or_ge k 4 with h | h; exact absurd ⟨h, rfl⟩ hgo; omega
        subst hke
        have hgood := GOOD.out (by
          have h := HO.out
          rw [List.take_of_length_le (by rw [HL.out]; exact Nat.le_refl _)] at h
          exact h.symm) ⟨d, b, ⟨true, f 0, f 1, f 2, f 3, f 4⟩⟩ (by
          have hx : ∀ j, j < 4 → f j = numbersR rest j := fun j hj => by rw [HF.out j, if_pos hj]
          have h4 : f 4 = numbersR rest 4 := by
            rw [HF.out 4]
            by_cases h : 4 < 4
            · rw [if_pos h]
            · rw [if_neg h]; unfold numbersR; rw [List.getD_eq_getElem?_getD, List.getElem?_eq_none (by rw [List.length_map, HL.out]; omega)]; rfl
          rw [HTG.out, hx 0 (by decide), hx 1 (by decide), hx 2 (by decide), hx 3 (by decide), h4])
        have HRN := Lib.hid hgood
        have RT := fun ww => rright_any ⟨d, b, ⟨true, f 0, f 1, f 2, f 3, f 4⟩⟩ ww (by have := spl_len t b (by rw [HW.out]; simp); have := HHS.out; simp only; omega)
        unfold rowV at RT
        simp only at RT
        skip
        have HRT := Lib.hid RT
        have X5d := Lib.hid X5.out.drew.drew
        have R5d := Lib.hid R5.out.drew.drew
        have HB5d := Lib.hid HB5.out.drew.drew
        have hw2x : w2.heap.size < ((((((wr.setCell ⟨w2.heap.size, 2, none⟩ (.bool true)).setCell ⟨w2.heap.size, 3, none⟩ (.int .i64 (f 0))).setCell ⟨w2.heap.size, 4, none⟩ (.int .i64 (f 1))).setCell ⟨w2.heap.size, 5, none⟩ (.int .i64 (f 2))).setCell ⟨w2.heap.size, 6, none⟩ (.int .i64 (f 3))).setCell ⟨w2.heap.size, 7, none⟩ (.int .i64 (f 4))).drew.drew.heap.size := by simp; exact hw2r
        have HWX := Lib.hid hw2x
        clear hgood hgo hk RT hw2x
        go_wp2_with fail
        go_still_tail 17, (by kernel_rfl)
        go_wp2_with fail
        go_region_with ((go_at_call 21; refine (HRT.out _).mono ?_; rintro e w8 ⟨rfl, hb8⟩; have X8 := X5d.out.below hb8 (by exact HWX.out); have R8 := R5d.out.below hb8 (by exact Nat.lt_trans hlt2 HWX.out); have HB8 := Lib.hid (HB5d.out.trans (hb8.mono (by exact HB5d.out.size))); have HR8 := Lib.hid R8; obtain ⟨a0, a1, a2, a3, a4', a5', a6, a7, _, _, _, _, _, _, _, _⟩ := X8; obtain ⟨b0, b1, b2, b3, b4, b5, b6, b7, c0', c1', c2', c3', c4', c5', c6', c7'⟩ := R8; clear hb8))
        all_goals
          have P9 := Lib.hid (HR8.out.put (.int .i64 d) (.string (bs b)) (.bool true) (.int .i64 (f 0)) (.int .i64 (f 1)) (.int .i64 (f 2)) (.int .i64 (f 3)) (.int .i64 (f 4)))
          have L9 := Lib.hid (below_put8 (r := w.heap.size) HB8.out (Nat.le_refl _) (.int .i64 d) (.string (bs b)) (.bool true) (.int .i64 (f 0)) (.int .i64 (f 1)) (.int .i64 (f 2)) (.int .i64 (f 3)) (.int .i64 (f 4)))
          go_wp2
          exact ret_rrow rfl rfl P9.out rfl ⟨rowRes_of HRN.out, L9.out⟩
theorem refRead_any (t : List UInt8) (w : World) (hs : t.length ≤ 1000000) :
    Calls Tryd.prog 27 #[.string (bs t)] w fun e w' => RowRes (refR t) e ∧ Below w.heap.size w w' := by
  obtain ⟨a, ws, e⟩ := spl_cons 32 t
  cases ws with
  | nil => exact rd_short t w hs (by rw [e]; simp)
  | cons b rest =>
    by_cases hr : 1 ≤ rest.length
    · by_cases hb0 : b = []
      · exact rd_notag t w hs a b rest e hr hb0
      by_cases hd : rest = [[45]]
      · subst hd
        by_cases h34 : b = [34]
        · subst h34; exact rd_dash_q t w hs a e
        · exact rd_dash_o t w hs a b hb0 h34 e
      by_cases h34 : b = [34]
      · subst h34
        by_cases hl : rest.length = 5
        · exact rd_loop_q t w hs a rest e hl
        · exact rd_miss_q t w hs a rest e hr hd hl
      · by_cases hl : rest.length = 4
        · exact rd_loop_o t w hs a b hb0 h34 rest e hl
        · exact rd_miss_o t w hs a b hb0 h34 rest e hr hd hl
    · exact rd_short t w hs (by rw [e]; simp; omega)
end Go.Proofs.YtcoaidpiignheaaDoor
