/-
  The walk of ref29.Rows.
-/
import Derived.Test.YtcoaidpiignheaaDoorRowsA
import Derived.Test.YtcoaidpiignheaaDoorStep
import Derived.Test.YtcoaidpiignheaaDoorDumpF
namespace Go.Proofs.YtcoaidpiignheaaDoor
open Go.RowKit Wsc
set_option maxRecDepth 100000 in
set_option maxHeartbeats 4000000 in
theorem refRows_any (a : Option Addr) (c : Nat) (l : List NodeM) (ab : Option Addr) (cb : Nat) (bx : List BoxP) (w : World) (h : NodesAt w a c l) (hb : SlAt w (.slice ab bx.length cb) bx.length (boxesC bx)) :
    Calls Tryd.prog 16 #[.slice a l.length c, .slice ab bx.length cb] w fun e w' => RowsRes (rowsP l bx) e w' ∧ Below w.heap.size w w' := by
  have hcap := h.cap
  have CK := refCheck_any a c l w h
  have HP := Lib.hid (show rowsP l bx = (if checkL l ≠ 0 then ([], 34) else if l.length ≠ bx.length then ([], 1) else if (rowsL l bx l.length).all rightR = true then (rowsL l bx l.length, 0) else ([], 40)) from rfl)
  generalize hR : rowsP l bx = R at *
  clear hR
  by_cases h0 : checkL l = 0
  · have hlen := check_len l h0
    rw [h0] at CK
    have CK2 := Lib.hid CK
    by_cases h1 : l.length = bx.length
    · have HP2 := Lib.hid (HP.out.trans ((if_neg (by simpa using h0)).trans (if_neg (by simpa using h1))))
      have TG : ∀ r ∈ rowsL l bx l.length, r.tag.length ≤ 9223372036854775807 := fun r hr => by
        obtain ⟨i, hi, rfl⟩ := List.mem_map.1 hr
        have hi := List.mem_range.1 hi
        rw [rowL_in l bx i hi (by omega)]
        exact (h.rd _ (List.getElem_mem hi)).tg
      have AL := Lib.hid (fun v ww (hv : SlAt ww v (rowsL l bx l.length).length (rowsC (rowsL l bx l.length))) => all_any v (rowsL l bx l.length) ww hv TG)
      have ha : allR (rowsL l bx l.length) = (rowsL l bx l.length).all rightR := by
        unfold allR; rw [rowsL_len, show decide (l.length ≤ 1024) = true from decide_eq_true (by omega)]; simp
      rw [ha, rowsL_len] at AL
      obtain ⟨b, o, rfl, hB, hC⟩ := h.at_ (by omega)
      obtain ⟨b2, o2, rfl, hB2, hC2⟩ : ∃ b o, ab = some ⟨b, o, none⟩ ∧ b < w.heap.size ∧ CellsAt w b o (boxesC bx) := by
        obtain ⟨a1, c1, e, _, _, x3⟩ := hb
        cases e
        rcases x3 with ⟨h0, _⟩ | x3
        · omega
        · exact x3
      have HC := Lib.hid hC
      have HC2 := Lib.hid hC2
      have DP := Lib.hid (fun k (hk : k < l.length) ww (hb : Below w.heap.size w ww) => refDepth_any (some ⟨b, o, none⟩) c l ww (h.below hb) k k (Nat.le_refl k) hk)
      have RL := Lib.hid (rowL_in l bx)
      obtain ⟨n, hn⟩ : ∃ n, n = l.length := ⟨_, rfl⟩
      have HN := Lib.hid hn
      have HNB := Lib.hid (hn.trans h1)
      have hnb : ((n : Int) != (n : Int)) = false := by simp
      rw [← h1]
      rw [← hn] at hcap CK2 HP2 hlen DP AL ⊢
      clear h hb CK h0 h1 hC hC2 hn ha TG
      go_enter Tryd.func16, Tryd.ntmps16
      go_wp2_with fail
      refine CK2.out.mono ?_
      rintro e w1 ⟨rfl, hb1⟩
      have HB1 := Lib.hid hb1
      have hw1 := hb1.size
      clear hb1
      go_wp2_with fail
      go_loopw [6, 7] (fun u0 i wr => ∃ (k : Nat) (u : Value), u = u0 ∧ i = .int .i64 k ∧ k ≤ n ∧ wr.ownsRow w.heap.size 62 8 u k (rowsC (rowsL l bx k)) ∧ Below w.heap.size w wr) (fun _ i _ => n - (intOf i).toNat)
      case atStart => exact ⟨0, _, rfl, rfl, by omega, World.ownsRow_nil _ _ _ _, HB1.out⟩
      case round =>
        obtain ⟨k, u, rfl, rfl, hk, hown, hbl⟩ := hrel
        have HBL := Lib.hid hbl
        have HOW := Lib.hid hown
        have hwr := hbl.size
        by_cases hlt : k < n
        · have hkl : k < l.length := by have := HN.out; omega
          have hkb : k < bx.length := by have := HNB.out; omega
          obtain ⟨c0, c1, c2, c3, c4, c5⟩ := (nodeAt (HC.out.below hbl hB) k hkl)
          obtain ⟨x0, x1, x2, x3, x4, x5⟩ := boxAt (HC2.out.below hbl hB2) k hkb
          have DP2 := Lib.hid (fun ww hb => DP.out k hlt ww hb)
          have RLK := Lib.hid (show rowsL l bx (k + 1) = rowsL l bx k ++ [⟨depthL l k, l[k].tag, bx[k]⟩] by rw [rowsL_succ, RL.out k hkl hkb])
          have hbk : b < wr.heap.size := Nat.lt_of_lt_of_le hB hwr
          have hb2r : b2 < wr.heap.size := Nat.lt_of_lt_of_le hB2 hwr
          generalize l[k] = m at *
          generalize bx[k] = x at *
          generalize (depthL l k : Int) = dk at *
          have HTK := Lib.hid (show rowsC (rowsL l bx (k + 1)) = rowsC (rowsL l bx k) ++ rowc ⟨dk, m.tag, x⟩ by rw [RLK.out, rowsC_snoc])
          clear hown hbl hkl hkb
          go_wp2_with fail
          go_region_law (first
            | (refine step_append_owned rfl _ _ 28 rfl w.heap.size 62 _ 8 72 Tryd.underlying28 infoRRow rfl (by decide) (by decide) _ _ _ rfl (by exact (HOW.out.drew).alloc _) ⟨wr.heap.size, 0, none⟩ 1 1 [.int .i64 dk, .string (bs m.tag), .bool x.shown, .int .i64 x.x, .int .i64 x.y, .int .i64 x.w, .int .i64 x.h, .int .i64 x.lines] rfl rfl (fun j u hj => by rw [addr_add]; exact cells_new wr 62 _ j u hj) (fun u hu => by simp at hu; rcases hu with rfl | rfl | rfl | rfl | rfl | rfl | rfl | rfl <;> rfl) (by omega) (by simp; omega) ?_; intro v' w4 hown' hb')
            | (go_simp; go_at_call 31; refine (DP2.out _ (HBL.out.drew)).mono ?_; rintro e w2 ⟨rfl, rfl⟩))
          all_goals
            have HB' := Lib.hid hb'
            go_wp2_with fail
            go_roundw
            case rel => exact ⟨k + 1, _, rfl, by go_num, by omega, by rw [HTK.out]; exact hown', HBL.out.trans (((Below.refl w.heap.size wr).alloc hwr _).drew.trans HB'.out)⟩
            case measure => simp [intOf]; omega
        · have hke : k = n := by omega
          subst hke
          have hlr : (rowsL l bx k).length = k := rowsL_len l bx k
          have HLR := Lib.hid hlr
          have SL := Lib.hid (SlAt.owns hown)
          obtain ⟨a', c', rfl, _, _, _⟩ := SL.out
          have AL2 := Lib.hid (AL.out _ _ SL.out)
          clear hown hbl hlt hlr
          cases hr : (rowsL l bx k).all rightR
          · have HAL := Lib.hid (show R = ([], 40) by rw [HP2.out, if_neg (by rw [hr]; simp)])
            rw [hr] at AL2
            clear hr
            go_wp2_with fail
            refine AL2.out.mono ?_
            rintro e w2 ⟨rfl, hb2⟩
            have HB2 := Lib.hid (HBL.out.trans (hb2.mono hwr))
            clear hb2
            go_wp2_with fail
            go_ret2
            exact ⟨rowsRes_nil _ _ _ HAL.out, HB2.out⟩
          · have HAL := Lib.hid (show R = (rowsL l bx k, 0) by rw [HP2.out, if_pos hr])
            rw [hr] at AL2
            clear hr
            go_wp2_with fail
            refine AL2.out.mono ?_
            rintro e w2 ⟨rfl, hb2⟩
            have HB2 := Lib.hid (HBL.out.trans (hb2.mono hwr))
            have SL2 := Lib.hid (SL.out.below hb2)
            clear hb2
            go_wp2_with fail
            go_ret2
            refine ⟨?_, HB2.out⟩
            rw [HAL.out]
            refine ⟨_, rfl, ?_⟩
            simp only [HLR.out]
            exact SL2.out
    · have HP2 := Lib.hid (HP.out.trans ((if_neg (by simpa using h0)).trans (if_pos h1)))
      have hne : (((l.length : Nat) : Int) != ((bx.length : Nat) : Int)) = true := by
        rw [bne_iff_ne]; intro e; exact h1 (by omega)
      have hl2 : bx.length ≤ 9223372036854775807 := by obtain ⟨a', c', e, g1, g2, _⟩ := hb; unfold maxLen at g2; omega
      clear h hb h0 h1 CK hlen
      generalize l.length = n at *
      generalize bx.length = n2 at *
      go_enter Tryd.func16, Tryd.ntmps16
      go_wp2_with fail
      refine CK2.out.mono ?_
      rintro e w1 ⟨rfl, hb1⟩
      have HB1 := Lib.hid hb1
      clear hb1
      go_wp2_with fail
      go_ret2
      exact ⟨rowsRes_nil _ _ _ HP2.out, HB1.out⟩
  · have HP2 := Lib.hid (HP.out.trans (if_pos h0))
    have CK2 := Lib.hid CK
    have hz : (checkL l != 0) = true := by simpa using h0
    clear h hb CK h0
    generalize checkL l = ck at *
    generalize l.length = n at *
    go_enter Tryd.func16, Tryd.ntmps16
    go_wp2_with fail
    refine CK2.out.mono ?_
    rintro e w1 ⟨rfl, hb1⟩
    have HB1 := Lib.hid hb1
    clear hb1
    go_wp2_with fail
    go_ret2
    exact ⟨rowsRes_nil _ _ _ HP2.out, HB1.out⟩
end Go.Proofs.YtcoaidpiignheaaDoor
