/-
  The walks of Break and of the reference's Break.
-/
import Derived.Test.YtflakidnjchhhaaDoorWordsE
namespace Go.Proofs.YtflakidnjchhhaaDoor
open Go.RowKit Wsc
def lnc (x : Ln) : List Value := [.int .i64 x.1, .int .i64 x.2.1, .int .i64 x.2.2]
/-- the cells of lines. -/
def lns (l : List Ln) : List Value := l.flatMap lnc
theorem lns_snoc (d : List Ln) (x : Ln) : lns (d ++ [x]) = lns d ++ lnc x := by simp [lns]
theorem lns_length : ∀ d : List Ln, (lns d).length = d.length * 3
  | [] => rfl
  | x :: d => by have := lns_length d; simp [lns, lnc] at *; omega
theorem lns_set (d : List Ln) (x : Ln) (t w : Int) : ((lns (d ++ [x])).set (d.length * 3 + 1) (.int .i64 t)).set (d.length * 3 + 2) (.int .i64 w) = lns d ++ [.int .i64 x.1, .int .i64 t, .int .i64 w] := by
  rw [lns_snoc, ← lns_length]
  rw [List.set_append_right _ _ (by omega), List.set_append_right _ _ (by omega)]
  simp [lnc]
theorem infoLn : (Tryd.prog.info? 37).map (fun i => (i.zero, i.size, i.bytes)) = some (some (.agg #[.int .i64 0, .int .i64 0, .int .i64 0]), 3, 24) := by kernel_rfl
theorem break_any (s : ByteArray) (font room : Int) (w : World) (hg : Gl w) (hs : s.size ≤ 16777216) :
    Calls Tryd.prog 18 #[.string s, .int .i64 font, .int .i64 room] w fun e w' => ∃ v, e = .returned v ∧ w'.ownsRow w.heap.size 37 3 v (brk (words s.data.toList) font (hold room)).length (lns (brk (words s.data.toList) font (hold room))) ∧ Below w.heap.size w w' := by
  have hwt := words_tot s.data.toList
  rw [show s.data.toList.length = s.size from by simp] at hwt
  have S := Lib.hid (split_any s w hg hs)
  generalize words s.data.toList = xs at *
  have H0 := Lib.hid (fun ww => hold_any room ww)
  have hR := hold_bd room
  generalize hold room = R at *
  go_enter Tryd.func18, Tryd.ntmps18
  go_wp2_with (first | (go_at_call 30; refine (H0.out _).mono ?_; rintro e w' ⟨rfl, rfl⟩) | fail)
  refine S.out.mono ?_
  rintro e w1 ⟨v, rfl, hown, hb1⟩
  have hv := SlAt.owns hown
  obtain ⟨a, c, rfl, hnc, hcm, hcase⟩ := id hv
  clear hown
  go_wp2
  go_loopw [8, 9, 20] (fun v su i wr => ∃ (k : Nat) (s0 : Int), k ≤ xs.length ∧ i = .int .i64 k ∧ su = .int .i64 s0 ∧ wr.ownsRow w1.heap.size 37 3 v (brkTo xs font R k).length (lns (brkTo xs font R k)) ∧
     Hid (∀ d x, brkTo xs font R k = d ++ [x] → s0 = jw (sub xs x.1 k)) ∧ Below w1.heap.size w1 wr)
    (fun _ _ i _ => xs.length - (intOf i).toNat)
  case atStart => exact ⟨0, 0, Nat.zero_le _, rfl, rfl, World.ownsRow_nil _ _ _ _, fun d x h => by simp [brkTo] at h, Below.refl _ _⟩
  case round =>
    obtain ⟨k, s0, hk, rfl, rfl, hown, hs0, hb⟩ := hrel
    by_cases hlt : k < xs.length
    · have hq : ∃ b o, a = some ⟨b, o, none⟩ ∧ wr.cell? ⟨b, o + k, none⟩ = some (.string (bs xs[k])) := by
        rcases hcase with ⟨h, _⟩ | ⟨b, o, h, hB, hc⟩
        · omega
        · exact ⟨b, o, h, strs_get (hc.below hb hB) k _⟩
      obtain ⟨b, o, rfl, hck⟩ := hq
      clear hcase
      have hz := tot_get_le xs k hlt
      have hbsz : (bs xs[k]).size ≤ 1099511627776 := by rw [bs_size]; omega
      have A := Lib.hid (advances_any (bs xs[k]) wr hbsz)
      have ha := advs_bd (bs xs[k]).data.toList
      rw [bs_data] at ha
      rw [bs_data] at A
      have hone := sub_one xs k hlt
      obtain ⟨W0, hW0⟩ : ∃ W0, fpart font (advs xs[k]) 1000 = W0 := ⟨_, rfl⟩
      have M0 := Lib.hid (fun ww => measure_any (advs xs[k]) font ww)
      have HW0 := Lib.hid hW0
      rw [hW0] at M0
      have e0 : width (sub xs k (k + 1)) font = W0 := by rw [hone, width, jw_one]; exact hW0
      have E0 := Lib.hid e0
      have HONE := Lib.hid hone
      clear hW0 e0 hone
      by_cases h0 : brkTo xs font R k = []
      · have B := Lib.hid (brkTo_first xs font R k h0)
        rw [h0] at hown
        clear h0
        obtain ⟨ao, co, hvs, _, _, _⟩ := SlAt.owns hown
        subst hvs
        generalize xs[k] = x0 at *
        go_wp2_with fail
        refine A.out.mono ?_
        rintro e w' ⟨rfl, rfl⟩
        go_wp2_with (first
          | (go_at_call 25; refine (M0.out _).mono ?_; rintro e w' ⟨rfl, rfl⟩)
          | (at_builtin; refine wpList_append_elem rfl _ _ 32 rfl w1.heap.size 37 _ 3 24 Tryd.underlying32 infoLn rfl (by decide) (by decide) _ _ _ rfl hown [.int .i64 k, .int .i64 (k + 1), .int .i64 W0] rfl rfl (fun u hu => by simp at hu; rcases hu with rfl | rfl | rfl <;> rfl) (by simp) hb.size ?_; intro v' w2 hown' hb'))
        go_roundw
        case rel =>
          refine ⟨k + 1, advs x0, by omega, by go_num, rfl, ?_, ?_, hb.trans hb'⟩
          · rw [B.out, E0.out]; exact hown'
          · intro d x hd
            rw [B.out] at hd
            obtain ⟨rfl, h3⟩ := List.append_inj' (s₁ := []) hd rfl
            simp at h3; subst h3
            rw [HONE.out, jw_one]
        case measure => simp [intOf]; omega
      · obtain ⟨d, x, hdx⟩ := snoc_of_ne _ h0
        have HD := Lib.hid hdx
        have L := brkTo_last xs font R k d x hdx
        obtain ⟨f, t, ww⟩ := x
        simp only at L
        obtain ⟨hfk, hL1, hL2, hdk⟩ := L
        have hs := hs0.out d _ hdx
        have J := jw_snoc (sub xs f k) xs[k]
        rw [← sub_snoc xs f k (by omega) hlt, if_neg (by rw [sub_eq_nil xs f k hk]; simpa using hfk)] at J
        have hj := jw_sub_bd xs f (k + 1) (by omega)
        have hj2 := jw_sub_bd xs f k (by omega)
        simp only at hs
        rw [← hs] at J hj2
        have M1 := fun w3 => measure_any (s0 + 250 + advs xs[k]) font w3
        have M1 := Lib.hid M1
        have HWW : fpart font (s0 + 250 + advs xs[k]) 1000 = width (sub xs f (k + 1)) font := by rw [← J]; rfl
        rw [HWW] at M1
        clear HWW
        have hown1 := hown
        rw [hdx] at hown1
        have HJ := Lib.hid J
        clear hs J h0 hs0 hown hdx
        have HL1 := Lib.hid hL1
        have HL2 := Lib.hid hL2
        clear hL1 hL2
        rw [List.length_append, List.length_singleton] at hown1
        obtain ⟨g, cap, rfl, hg1, hg2, hg3, hg4⟩ := ownsRow_pos hown1 (by omega)
        have hfr1 := hown1.frozenAt (d.length * 3 + 1)
        have hfr2 := hown1.frozenAt (d.length * 3 + 2)
        have hc1 := hown1.cellAt (d.length * 3 + 1) (by omega)
        have hc2 := hown1.cellAt (d.length * 3 + 2) (by omega)
        have hgx : lns (d ++ [(f, t, ww)]) = lns d ++ lnc (f, t, ww) := lns_snoc _ _
        rw [hgx, List.getElem?_append_right (by rw [lns_length]; omega), lns_length] at hc1 hc2
        rw [show d.length * 3 + 1 - d.length * 3 = 1 by omega] at hc1
        rw [show d.length * 3 + 2 - d.length * 3 = 2 by omega] at hc2
        simp only [lnc, List.getElem?_cons_succ, List.getElem?_cons_zero] at hc1 hc2
        clear hgx
        generalize xs[k] = x0 at *
        by_cases hfit : width (sub xs f (k + 1)) font ≤ R
        · have B := Lib.hid (brkTo_grow xs font R k d _ HD.out hfit)
          go_wp2_with fail
          refine A.out.mono ?_
          rintro e w' ⟨rfl, rfl⟩
          go_wp2_with (first
            | (go_at_call 25; refine (M1.out _).mono ?_; rintro e w' ⟨rfl, rfl⟩))
          have hown3 := ((hown1.stored (d.length * 3 + 1) (.int .i64 (k + 1))).1.stored (d.length * 3 + 2) (.int .i64 (width (sub xs f (k + 1)) font))).1
          rw [lns_set] at hown3
          go_roundw
          case rel =>
            refine ⟨k + 1, s0 + (250 + advs x0), by omega, by go_num, rfl, ?_, ?_, (hb.setCell (by exact hg1) _).setCell (by exact hg1) _⟩
            · rw [B.out, lns_snoc, List.length_append]; exact hown3
            · intro d' x hd
              rw [B.out] at hd
              obtain ⟨rfl, h3⟩ := List.append_inj' hd rfl
              simp at h3; subst h3
              rw [HJ.out]; omega
          case measure => simp [intOf]; omega
        · have B := Lib.hid (brkTo_new xs font R k d _ HD.out hfit)
          go_wp2_with fail
          refine A.out.mono ?_
          rintro e w' ⟨rfl, rfl⟩
          go_wp2_with fail
          refine (M1.out _).mono ?_
          rintro e w' ⟨rfl, rfl⟩
          go_wp2_with fail
          refine (M0.out _).mono ?_
          rintro e w' ⟨rfl, rfl⟩
          go_wp2_with (first
            | (at_builtin; refine wpList_append_elem rfl _ _ 32 rfl w1.heap.size 37 _ 3 24 Tryd.underlying32 infoLn rfl (by decide) (by decide) _ _ _ rfl hown1 [.int .i64 k, .int .i64 (k + 1), .int .i64 W0] rfl rfl (fun u hu => by simp at hu; rcases hu with rfl | rfl | rfl <;> rfl) (by omega) hb.size ?_; intro v' w2 hown' hb'))
          go_roundw
          case rel =>
            refine ⟨k + 1, advs x0, by omega, by go_num, rfl, ?_, ?_, hb.trans hb'⟩
            · rw [B.out, E0.out, lns_snoc, List.length_append, List.length_append]; exact hown'
            · intro d' x hd
              rw [B.out] at hd
              obtain ⟨rfl, h3⟩ := List.append_inj' hd rfl
              simp at h3; subst h3
              rw [HONE.out, jw_one]
          case measure => simp [intOf]; omega
    · have e : k = xs.length := by omega
      subst e
      go_wp2
      go_ret
      exact ⟨u8, rfl, ownsRow_base hown hb1.size, hb1.trans (hb.mono hb1.size)⟩
end Go.Proofs.YtflakidnjchhhaaDoor
