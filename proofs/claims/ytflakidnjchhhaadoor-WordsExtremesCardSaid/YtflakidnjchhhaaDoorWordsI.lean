/-
  The walks of layer 18's laws WordsRoom and WordsExtremes.
-/
import Derived.Test.YtflakidnjchhhaaDoorWordsH
import Derived.Test.YtflakidnjchhhaaDoorWordsLaw
namespace Go.Proofs.YtflakidnjchhhaaDoor
open Go.RowKit Wsc
theorem law_known (w w0 : World) (hg : Gl w) (hb : Below w.heap.size w w0) :
    Calls Tryd.prog 10 #[] w0 fun e w' => e = .returned (.bool true) ∧ Below w.heap.size w w' :=
  (known_any w0 (hg.below hb)).mono fun e w' ⟨h1, h2⟩ => ⟨h1, hb.trans (h2.mono hb.size)⟩
theorem wordsRoom_walk (s : ByteArray) (font a b : Int) (w : World) (hg : Gl w) (hsm : s.size ≤ maxLen) :
    Calls Tryd.prog 7 #[.string s, .int .i64 font, .int .i64 a, .int .i64 b] w fun e w' => e = .returned (.bool true) ∧ Below w.heap.size w w' := by
  unfold maxLen at hsm
  have K := Lib.hid (law_known w w hg (Below.refl _ _))
  by_cases hs : s.size ≤ 300
  · by_cases hab : b < a
    · go_enter Tryd.func7, Tryd.ntmps7
      go_wp2_with (first
        | (go_at_call 9; refine (few_any _ _).mono ?_; rintro e w' ⟨rfl, rfl⟩)
        | (go_at_call 10; refine K.out.mono ?_; rintro e w1 ⟨rfl, hb1⟩))
      go_ret
      exact ⟨rfl, by assumption⟩
    · by_cases hf : font < 0
      · go_enter Tryd.func7, Tryd.ntmps7
        go_wp2_with (first
          | (go_at_call 9; refine (few_any _ _).mono ?_; rintro e w' ⟨rfl, rfl⟩)
          | (go_at_call 10; refine K.out.mono ?_; rintro e w1 ⟨rfl, hb1⟩))
        go_ret
        exact ⟨rfl, by assumption⟩
      · have R := brk_room (words s.data.toList) font (by omega) (hold_mono (show a ≤ b by omega))
        have B1 := Lib.hid (break_any s font b w hg (by omega))
        have B2 := fun ww h => break_any s font a ww h (by omega)
        have B2 := Lib.hid B2
        generalize brk (words s.data.toList) font (hold b) = lb at *
        generalize brk (words s.data.toList) font (hold a) = la at *
        go_enter Tryd.func7, Tryd.ntmps7
        go_wp2_with (first
          | (go_at_call 9; refine (few_any _ _).mono ?_; rintro e w' ⟨rfl, rfl⟩))
        refine B1.out.mono ?_
        rintro e w1 ⟨v1, rfl, hown1, hb1⟩
        obtain ⟨a1, c1, rfl, _, _, _⟩ := SlAt.owns hown1
        go_wp2_with fail
        refine (B2.out _ (hg.below hb1)).mono ?_
        rintro e w2 ⟨v2, rfl, hown2, hb2⟩
        obtain ⟨a2, c2, rfl, _, _, _⟩ := SlAt.owns hown2
        have hb3 := hb1.trans (hb2.mono hb1.size)
        have K2 := Lib.hid (law_known w w2 hg hb3)
        go_wp2_with fail
        refine K2.out.mono ?_
        rintro e w3 ⟨rfl, hb4⟩
        go_wp2
        go_ret
        exact ⟨rfl, hb4⟩
  · go_enter Tryd.func7, Tryd.ntmps7
    go_wp2_with (first
      | (go_at_call 9; refine (few_any _ _).mono ?_; rintro e w' ⟨rfl, rfl⟩)
      | (go_at_call 10; refine K.out.mono ?_; rintro e w1 ⟨rfl, hb1⟩))
    go_ret
    exact ⟨rfl, by assumption⟩
/-- a line's cells behind a slice that the call made. -/
theorem lns_get (ls : List Ln) (i j : Nat) (h : i < ls.length) (hj : j < 3) : (lns ls)[i * 3 + j]? = (lnc ls[i])[j]? := by
  have e := at_split ls i h
  have hl : (ls.take i).length = i := by simp; omega
  have e2 : lns ls = lns (ls.take i) ++ (lnc ls[i] ++ lns (ls.drop (i + 1))) :=
    (congrArg lns e).trans (by rw [lns, List.flatMap_append, List.flatMap_cons]; rfl)
  rw [e2, List.getElem?_append_right (by rw [lns_length, hl]; omega), lns_length, hl, show i * 3 + j - i * 3 = j by omega, List.getElem?_append_left (by simp [lnc]; omega)]
/-- the cells of the i-th line of a slice. -/
structure LnCells (w : World) (g i : Nat) (x : Ln) : Prop where
  c0 : w.cell? ⟨g, i * 3, none⟩ = some (.int .i64 x.1)
  c1 : w.cell? ⟨g, i * 3 + 1, none⟩ = some (.int .i64 x.2.1)
  c2 : w.cell? ⟨g, i * 3 + 2, none⟩ = some (.int .i64 x.2.2)
theorem lnCells {w : World} {base : Nat} {e : TypeId} {g cap : Nat} {ls : List Ln} (h : w.ownsRow base e 3 (.slice (some ⟨g, 0, none⟩) ls.length cap) ls.length (lns ls)) (i : Nat) (hi : i < ls.length) : LnCells w g i ls[i] := by
  have a0 := h.cellAt (i * 3 + 0) (by omega)
  have a1 := h.cellAt (i * 3 + 1) (by omega)
  have a2 := h.cellAt (i * 3 + 2) (by omega)
  rw [lns_get ls i _ hi (by omega)] at a0 a1 a2
  exact ⟨a0, a1, a2⟩
theorem LnCells.below {w w' : World} {B g i : Nat} {x : Ln} (h : LnCells w g i x) (hb : Below B w w') (hg : g < B) : LnCells w' g i x :=
  ⟨(hb.cell (p := ⟨g, i * 3, none⟩) hg).trans h.c0, (hb.cell (p := ⟨g, i * 3 + 1, none⟩) hg).trans h.c1, (hb.cell (p := ⟨g, i * 3 + 2, none⟩) hg).trans h.c2⟩
theorem wordsExtremes_walk (s : ByteArray) (font n line : Int) (w : World) (hg : Gl w) (hsm : s.size ≤ maxLen) :
    Calls Tryd.prog 8 #[.string s, .int .i64 font, .int .i64 n, .int .i64 line] w fun e w' => e = .returned (.bool true) ∧ Below w.heap.size w w' := by
  unfold maxLen at hsm
  have K := Lib.hid (law_known w w hg (Below.refl _ _))
  by_cases hs : s.size ≤ 300
  · have X1 := Lib.hid (extremes_any s font w hg (by omega))
    have X2 := fun ww => refExtremes_any s font ww (by omega)
    have X2 := Lib.hid X2
    have T1 := fun ww => tall_any n font line ww
    have T1 := Lib.hid T1
    have T2 := fun ww => refTall_any n font line ww
    have T2 := Lib.hid T2
    have hn1 : (least font (words s.data.toList) != least font (words s.data.toList)) = false := by simp
    have hn2 : (width (words s.data.toList) font != width (words s.data.toList) font) = false := by simp
    have hn3 : (tall n font line != tall n font line) = false := by simp
    by_cases hf : font < 0
    · go_enter Tryd.func8, Tryd.ntmps8
      go_wp2_with (first
        | (go_at_call 9; refine (few_any _ _).mono ?_; rintro e w' ⟨rfl, rfl⟩))
      refine X1.out.mono ?_
      rintro e w1 ⟨rfl, hb1⟩
      go_wp2_with fail
      refine (X2.out _).mono ?_
      rintro e w2 ⟨rfl, hb2⟩
      have K2 := Lib.hid (law_known w w2 hg (hb1.trans (hb2.mono hb1.size)))
      go_wp2_with (first
        | (go_at_call 22; refine (T1.out _).mono ?_; rintro e w' ⟨rfl, rfl⟩)
        | (go_at_call 23; refine (T2.out _).mono ?_; rintro e w' ⟨rfl, rfl⟩)
        | (go_at_call 10; refine K2.out.mono ?_; rintro e w3 ⟨rfl, hb3⟩))
      go_ret
      exact ⟨rfl, by assumption⟩
    · have hf0 : 0 ≤ font := by omega
      have B1 := fun ww h => break_any s font (least font (words s.data.toList)) ww h (by omega)
      have B2 := fun ww h => break_any s font (width (words s.data.toList) font) ww h (by omega)
      rw [hold_id _ (least_bd font (words s.data.toList))] at B1
      rw [hold_id _ (width_bd (words s.data.toList) font)] at B2
      have P1 := Lib.hid (brk_least font (words s.data.toList))
      have P2 := brk_most font hf0 (words s.data.toList)
      have P3 := least_le font hf0 (words s.data.toList)
      have hlen := brk_length_le (words s.data.toList) font (least font (words s.data.toList))
      have hwt := words_tot s.data.toList
      rw [show s.data.toList.length = s.size from by simp] at hwt
      have B1 := Lib.hid B1
      have B2 := Lib.hid B2
      generalize brk (words s.data.toList) font (least font (words s.data.toList)) = la at *
      generalize brk (words s.data.toList) font (width (words s.data.toList) font) = lb at *
      generalize least font (words s.data.toList) = le at *
      generalize width (words s.data.toList) font = mo at *
      go_enter Tryd.func8, Tryd.ntmps8
      go_wp2_with (first
        | (go_at_call 9; refine (few_any _ _).mono ?_; rintro e w' ⟨rfl, rfl⟩))
      refine X1.out.mono ?_
      rintro e w1 ⟨rfl, hb1⟩
      go_wp2_with fail
      refine (X2.out _).mono ?_
      rintro e w2 ⟨rfl, hb2⟩
      have hb12 := hb1.trans (hb2.mono hb1.size)
      go_wp2_with (first
        | (go_at_call 22; refine (T1.out _).mono ?_; rintro e w' ⟨rfl, rfl⟩)
        | (go_at_call 23; refine (T2.out _).mono ?_; rintro e w' ⟨rfl, rfl⟩))
      refine (B1.out _ (hg.below hb12)).mono ?_
      rintro e w3 ⟨v, rfl, hown, hb3⟩
      have hb13 := hb12.trans (hb3.mono hb12.size)
      obtain ⟨a, c, rfl, hnc, hcm, _⟩ := SlAt.owns hown
      have hsl : 0 < la.length → ∃ g, a = some ⟨g, 0, none⟩ ∧ ∀ i (hi : i < la.length), LnCells w3 g i la[i] := fun h0 => by
        obtain ⟨g, cap, he, _⟩ := ownsRow_pos hown h0
        simp at he
        obtain ⟨rfl, rfl⟩ := he
        exact ⟨g, rfl, fun i hi => lnCells hown i hi⟩
      have hsl := Lib.hid hsl
      clear hown
      go_wp2
      go_loop [14] (fun i => ∃ k : Nat, k ≤ la.length ∧ i = .int .i64 k) (fun i => la.length - (intOf i).toNat)
      case atStart => exact ⟨0, Nat.zero_le _, rfl⟩
      case round =>
        obtain ⟨k, hk, rfl⟩ := hrel
        by_cases hlt : k < la.length
        · obtain ⟨g, rfl, hcl⟩ := hsl.out (by omega)
          have c2 := (hcl k hlt).c2
          have hle := P1.out k hlt
          clear hcl
          generalize la[k] = x at *
          go_wp2
          go_round
          case rel => exact ⟨k + 1, by omega, by go_num⟩
          case measure => simp [intOf]; omega
        · go_wp2_with fail
          refine (B2.out _ (hg.below hb13)).mono ?_
          rintro e w4 ⟨v4, rfl, hown4, hb4⟩
          obtain ⟨a4, c4, rfl, _, _, _⟩ := SlAt.owns hown4
          have K2 := Lib.hid (law_known w w4 hg (hb13.trans (hb4.mono hb13.size)))
          go_wp2_with (first
            | (go_at_call 10; refine K2.out.mono ?_; rintro e w5 ⟨rfl, hb5⟩))
          go_ret
          exact ⟨rfl, by assumption⟩
  · go_enter Tryd.func8, Tryd.ntmps8
    go_wp2_with (first
      | (go_at_call 9; refine (few_any _ _).mono ?_; rintro e w' ⟨rfl, rfl⟩)
      | (go_at_call 10; refine K.out.mono ?_; rintro e w1 ⟨rfl, hb1⟩))
    go_ret
    exact ⟨rfl, by assumption⟩
end Go.Proofs.YtflakidnjchhhaaDoor
