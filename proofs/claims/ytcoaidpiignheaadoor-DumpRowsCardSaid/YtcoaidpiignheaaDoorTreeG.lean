/-
  Walks of layer 4: the reference's Stands and Check.
-/
import Derived.Test.YtcoaidpiignheaaDoorTreeF
namespace Go.Proofs.YtcoaidpiignheaaDoor
open Go.RowKit Wsc
theorem refRight_any (m : NodeM) (w : World) (hr : NodeRd w m) :
    Calls Tryd.prog 54 #[nodeV m] w fun e w' => e = .returned (.bool (nodeB m)) ∧ Below w.heap.size w w' := by
  by_cases h : m.tag = []
  · exact refRightW_any m w hr.tx h
  · exact refRightE_any m w hr h
theorem standsB_zero (l : List NodeM) (h : 0 < l.length) : standsB l 0 = (decide (l[0].parent = -1) && decide (l[0].tag ≠ [])) := by
  unfold standsB; rw [List.getElem?_eq_getElem h]; simp
theorem standsB_none (l : List NodeM) (i : Nat) (h : i < l.length) (hi : 0 < i) (hu : upI l i < 0) : standsB l i = false := by
  unfold standsB; rw [List.getElem?_eq_getElem h]; simp only; rw [if_neg (by omega)]
  rw [decide_eq_false (show ¬ 0 ≤ upI l i by omega)]
  cases l[(upI l i).toNat]? <;> simp
theorem standsB_some (l : List NodeM) (i p : Nat) (h : i < l.length) (hi : 0 < i) (hu : upI l i = p) (hp : p < l.length) :
    standsB l i = (decide (l[p].tag ≠ []) && (decide (p + 1 = i) || underB l (i - 1) p)) := by
  unfold standsB; rw [List.getElem?_eq_getElem h]; simp only; rw [if_neg (by omega), hu, Int.toNat_natCast, List.getElem?_eq_getElem hp]
  simp only
  rw [decide_eq_true (show (0 : Int) ≤ (p : Int) by omega), Bool.true_and]
  congr 2
  rw [Bool.eq_iff_iff]; simp <;> omega
set_option maxRecDepth 100000 in
set_option maxHeartbeats 1000000 in
theorem refStands_any (a : Option Addr) (c : Nat) (l : List NodeM) (w : World) (h : NodesAt w a c l) (i : Nat) (hi : i < l.length) :
    Calls Tryd.prog 55 #[.slice a l.length c, .int .i64 i] w fun e w' => e = .returned (.bool (standsB l i)) ∧ w = w' := by
  obtain ⟨b, o, rfl, hB, hC⟩ := h.at_ (by omega)
  have hcap := h.cap
  by_cases h0 : i = 0
  · subst h0
    obtain ⟨c0, c1, c2, c3, c4, c5⟩ := nodeAt hC 0 hi
    rw [standsB_zero l hi]
    rw [show o + 0 * 6 = o by omega] at c0 c1
    generalize l[0] = m at *
    generalize l.length = n at *
    clear h hC c2 c3 c4 c5
    by_cases h1 : m.parent = -1
    · have q1 : (m.parent == -1) = true := by simpa using h1
      rw [decide_eq_true h1, Bool.true_and]
      by_cases h2 : m.tag = []
      · obtain ⟨e1, e2, e3⟩ := empty_of4 _ h2
        rw [decide_eq_false (by simpa using h2)]
        clear h1 h2
        go_enter Tryd.func55, Tryd.ntmps55
        go_wp2
        go_ret
        exact ⟨rfl, rfl⟩
      · obtain ⟨e1, e2, e3⟩ := nonempty_of4 _ h2
        rw [decide_eq_true h2]
        clear h1 h2
        go_enter Tryd.func55, Tryd.ntmps55
        go_wp2
        go_ret
        exact ⟨rfl, rfl⟩
    · have q1 : (m.parent == -1) = false := by simpa using h1
      rw [decide_eq_false h1, Bool.false_and]
      clear h1
      go_enter Tryd.func55, Tryd.ntmps55
      go_wp2
      go_ret
      exact ⟨rfl, rfl⟩
  · have UP := Lib.hid (refUp_any _ c l w h i hi)
    have q0 : ((i : Int) == 0) = false := by simpa using h0
    have hu := upI_lt l i
    by_cases hu0 : upI l i < 0
    · rw [standsB_none l i hi (by omega) hu0]
      have q1 : decide (0 ≤ upI l i) = false := decide_eq_false (by omega)
      generalize upI l i = u at *
      generalize l.length = n at *
      clear h hC hu
      go_enter Tryd.func55, Tryd.ntmps55
      go_wp2_with (go_at_call 56; refine UP.out.mono ?_; rintro e w' ⟨rfl, rfl⟩)
      go_ret
      exact ⟨rfl, rfl⟩
    · obtain ⟨p, hp⟩ := Int.eq_ofNat_of_zero_le (show 0 ≤ upI l i by omega)
      have hpi : p < i := by omega
      have hpl : p < l.length := by omega
      rw [standsB_some l i p hi (by omega) hp hpl]
      rw [hp] at UP
      have UN := Lib.hid (refUnder_any _ c l w h (i - 1) (p : Int) (by omega))
      obtain ⟨c0, c1, c2, c3, c4, c5⟩ := nodeAt hC p hpl
      rw [show ((i - 1 : Nat) : Int) = (i : Int) - 1 by omega] at UN
      generalize l[p] = m at *
      generalize underB l (i - 1) (p : Int) = ub at *
      generalize l.length = n at *
      clear h hC hu hu0 hp c0 c2 c3 c4 c5
      have q1 : decide ((0 : Int) ≤ (p : Int)) = true := decide_eq_true (by omega)
      by_cases h2 : m.tag = []
      · obtain ⟨e1, e2, e3⟩ := empty_of4 _ h2
        rw [decide_eq_false (by simpa using h2)]
        clear h2
        go_enter Tryd.func55, Tryd.ntmps55
        go_wp2_with (go_at_call 56; refine UP.out.mono ?_; rintro e w' ⟨rfl, rfl⟩)
        go_ret
        exact ⟨rfl, rfl⟩
      · obtain ⟨e1, e2, e3⟩ := nonempty_of4 _ h2
        rw [decide_eq_true h2, Bool.true_and]
        clear h2
        by_cases h3 : p + 1 = i
        · have q3 : ((p : Int) == (i : Int) - 1) = true := by rw [beq_iff_eq]; omega
          rw [decide_eq_true h3]
          clear h3
          go_enter Tryd.func55, Tryd.ntmps55
          go_wp2_with (go_at_call 56; refine UP.out.mono ?_; rintro e w' ⟨rfl, rfl⟩)
          go_ret
          exact ⟨rfl, rfl⟩
        · have q3 : ((p : Int) == (i : Int) - 1) = false := by rw [beq_eq_false_iff_ne]; omega
          rw [decide_eq_false h3, Bool.false_or]
          clear h3
          go_enter Tryd.func55, Tryd.ntmps55
          go_wp2_with (first | (go_at_call 56; refine UP.out.mono ?_; rintro e w' ⟨rfl, rfl⟩) | (go_at_call 75; refine UN.out.mono ?_; rintro e w' ⟨rfl, rfl⟩))
          go_ret
          exact ⟨rfl, rfl⟩
theorem checkF_at (l : List NodeM) (f i : Nat) (h : i < l.length) : checkF l (f + 1) i = if nodeB l[i] = false ∨ standsB l i = false then 34 else if 64 < depthL l i then 31 else checkF l f (i + 1) := by
  rw [checkF, if_pos h, List.getElem?_eq_getElem h]
theorem checkF_end (l : List NodeM) (f i : Nat) (h : ¬ i < l.length) : checkF l f i = 0 := by
  cases f with
  | zero => rfl
  | succ f => rw [checkF, if_neg h]
set_option maxRecDepth 100000 in
set_option maxHeartbeats 2000000 in
theorem refCheck_any (a : Option Addr) (c : Nat) (l : List NodeM) (w : World) (h : NodesAt w a c l) :
    Calls Tryd.prog 30 #[.slice a l.length c] w fun e w' => e = .returned (.int .i64 (checkL l)) ∧ Below w.heap.size w w' := by
  have hcap := h.cap
  obtain ⟨R, hR⟩ : ∃ R, checkL l = R := ⟨_, rfl⟩
  rw [hR]
  unfold checkL at hR
  have HR := Lib.hid hR
  clear hR
  by_cases h0 : l.length = 0
  · have HE := Lib.hid (HR.out.symm.trans (if_pos h0))
    have q0 : ((l.length : Int) == 0) = true := by simpa using h0
    clear h h0
    generalize l.length = n at *
    go_enter Tryd.func30, Tryd.ntmps30
    go_wp2
    go_ret
    exact ⟨by rw [HE.out]; rfl, Below.refl _ _⟩
  · have q0 : ((l.length : Int) == 0) = false := by simpa using h0
    by_cases h1 : 1024 < l.length
    · have HE := Lib.hid (HR.out.symm.trans ((if_neg h0).trans (if_pos h1)))
      have q1 : (1024 : Int) < (l.length : Int) := by omega
      clear h h0 h1
      generalize l.length = n at *
      go_enter Tryd.func30, Tryd.ntmps30
      go_wp2
      go_ret
      exact ⟨by rw [HE.out]; rfl, Below.refl _ _⟩
    · have HE := Lib.hid (HR.out.symm.trans ((if_neg h0).trans (if_neg h1)))
      have q1 : ¬ ((1024 : Int) < (l.length : Int)) := by omega
      obtain ⟨b, o, rfl, hB, hC⟩ := h.at_ (by omega)
      have hn1 : l.length ≤ 1024 := by omega
      have H := Lib.hid h
      have HC := Lib.hid hC
      have RT := Lib.hid (fun i (hi : i < l.length) ww hb => refRight_any l[i] ww ((h.rd _ (List.getElem_mem hi)).below hb))
      have ST := Lib.hid (fun i (hi : i < l.length) ww hb => refStands_any (some ⟨b, o, none⟩) c l ww (h.below hb) i hi)
      have DP := Lib.hid (fun i (hi : i < l.length) ww hb => refDepth_any (some ⟨b, o, none⟩) c l ww (h.below hb) i i (Nat.le_refl _) hi)
      have CA := Lib.hid (checkF_at l)
      have CE := Lib.hid (checkF_end l)
      obtain ⟨n, hn⟩ : ∃ n, n = l.length := ⟨_, rfl⟩
      have HN := Lib.hid hn
      rw [← hn] at q0 q1 hn1 HE ST DP hcap ⊢
      clear h h0 h1 hC hn
      go_enter Tryd.func30, Tryd.ntmps30
      go_wp2_with fail
      go_loopw [3] (fun i wr => ∃ (k f : Nat), i = .int .i64 k ∧ k ≤ n ∧ n ≤ k + f ∧ Hid (checkF l f k = R) ∧ Below w.heap.size w wr) (fun i _ => n - (intOf i).toNat)
      case atStart => exact ⟨0, n, rfl, by omega, by omega, Lib.hid HE.out.symm, Below.refl _ _⟩
      case round =>
        obtain ⟨k, f, rfl, hk, hf, HK, hbl⟩ := hrel
        have HBL := Lib.hid hbl
        by_cases hlt : k < n
        · obtain ⟨f, rfl⟩ : ∃ g, f = g + 1 := ⟨f - 1, by omega⟩
          have hkl : k < l.length := by have := HN.out; omega
          have HK2 := HK.out
          rw [CA.out f k hkl] at HK2
          obtain ⟨c0, c1, c2, c3, c4, c5⟩ := (nodeAt (HC.out.below hbl hB) k hkl)
          have RT2 := fun ww hb => RT.out k hkl ww hb
          have ST2 := Lib.hid (fun ww hb => ST.out k (by omega) ww hb)
          have DP2 := Lib.hid (fun ww hb => DP.out k (by omega) ww hb)
          unfold nodeV at RT2
          generalize l[k] = m at *
          have RT3 := Lib.hid RT2
          have hbk : b < wr.heap.size := Nat.lt_of_lt_of_le hB hbl.size
          have hdl : depthL l k ≤ k + 1 := by unfold depthL; have := upsL_len l k k (Nat.le_refl _); omega
          generalize depthL l k = dk at *
          generalize standsB l k = sk at *
          generalize nodeB m = nk at *
          have HK3 := Lib.hid HK2
          clear HK HK2 RT2 hkl hbl
          cases nk
          · have HT := Lib.hid (show R = 34 by rw [← HK3.out, if_pos (Or.inl rfl)])
            go_wp2_with fail
            refine (RT3.out _ HBL.out).mono ?_
            rintro e w1 ⟨rfl, hb1⟩
            have HB1 := Lib.hid (HBL.out.trans (hb1.mono HBL.out.size))
            clear hb1
            go_wp2_with fail
            go_ret
            exact ⟨by rw [HT.out]; rfl, HB1.out⟩
          · cases sk
            · have HT := Lib.hid (show R = 34 by rw [← HK3.out, if_pos (Or.inr rfl)])
              go_wp2_with fail
              refine (RT3.out _ HBL.out).mono ?_
              rintro e w1 ⟨rfl, hb1⟩
              have HB1 := Lib.hid (HBL.out.trans (hb1.mono HBL.out.size))
              clear hb1
              go_wp2_with fail
              refine (ST2.out _ HB1.out).mono ?_
              rintro e w' ⟨rfl, rfl⟩
              go_wp2_with fail
              go_ret
              exact ⟨by rw [HT.out]; rfl, HB1.out⟩
            · have HK4 := HK3.out
              rw [if_neg (by simp)] at HK4
              by_cases hd : 64 < dk
              · have HT := Lib.hid (show R = 31 by rw [← HK4, if_pos hd])
                have qd : (64 : Int) < (dk : Int) := by omega
                clear HK4 hd
                go_wp2_with fail
                refine (RT3.out _ HBL.out).mono ?_
                rintro e w1 ⟨rfl, hb1⟩
                have HB1 := Lib.hid (HBL.out.trans (hb1.mono HBL.out.size))
                clear hb1
                go_wp2_with fail
                refine (ST2.out _ HB1.out).mono ?_
                rintro e w' ⟨rfl, rfl⟩
                go_wp2_with fail
                refine (DP2.out _ HB1.out).mono ?_
                rintro e w' ⟨rfl, rfl⟩
                go_wp2_with fail
                go_ret
                exact ⟨by rw [HT.out]; rfl, HB1.out⟩
              · have HT := Lib.hid (show checkF l f (k + 1) = R by rw [← HK4, if_neg hd])
                have qd : ¬ ((64 : Int) < (dk : Int)) := by omega
                clear HK4 hd
                go_wp2_with fail
                refine (RT3.out _ HBL.out).mono ?_
                rintro e w1 ⟨rfl, hb1⟩
                have HB1 := Lib.hid (HBL.out.trans (hb1.mono HBL.out.size))
                clear hb1
                go_wp2_with fail
                refine (ST2.out _ HB1.out).mono ?_
                rintro e w' ⟨rfl, rfl⟩
                go_wp2_with fail
                refine (DP2.out _ HB1.out).mono ?_
                rintro e w' ⟨rfl, rfl⟩
                go_wp2_with fail
                go_roundw
                case rel => exact ⟨k + 1, f, by go_num, by omega, by omega, HT, HB1.out⟩
                case measure => simp [intOf]; omega
        · have HT := Lib.hid (show R = 0 by rw [← HK.out]; exact CE.out f k (by have := HN.out; omega))
          clear HK hbl
          go_wp2_with fail
          go_ret
          exact ⟨by rw [HT.out]; rfl, HBL.out⟩
end Go.Proofs.YtcoaidpiignheaaDoor
