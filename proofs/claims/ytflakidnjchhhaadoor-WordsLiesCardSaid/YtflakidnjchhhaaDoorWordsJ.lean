/-
  The walk of layer 18's law WordsBreak.
-/
import Derived.Test.YtflakidnjchhhaaDoorWordsI
namespace Go.Proofs.YtflakidnjchhhaaDoor
open Go.RowKit Wsc
theorem wordsBreak_walk (s : ByteArray) (font room : Int) (w : World) (hg : Gl w) (hsm : s.size ≤ maxLen) :
    Calls Tryd.prog 5 #[.string s, .int .i64 font, .int .i64 room] w fun e w' => e = .returned (.bool true) ∧ Below w.heap.size w w' := by
  unfold maxLen at hsm
  have K := Lib.hid (law_known w w hg (Below.refl _ _))
  by_cases hs : s.size ≤ 300
  · have B1 := Lib.hid (break_any s font room w hg (by omega))
    have B2 := fun ww => refBreak_any s font room ww (by omega)
    have hlen := brk_length_le (words s.data.toList) font (hold room)
    have hwt := words_tot s.data.toList
    rw [show s.data.toList.length = s.size from by simp] at hwt
    have B2 := Lib.hid B2
    generalize brk (words s.data.toList) font (hold room) = ls at *
    have hll : ((ls.length : Int) != (ls.length : Int)) = false := by simp
    go_enter Tryd.func5, Tryd.ntmps5
    go_wp2_with (first
      | (go_at_call 9; refine (few_any _ _).mono ?_; rintro e w' ⟨rfl, rfl⟩))
    refine B1.out.mono ?_
    rintro e w1 ⟨v1, rfl, hown1, hb1⟩
    obtain ⟨a1, c1, rfl, hc1, hm1, _⟩ := SlAt.owns hown1
    go_wp2_with fail
    refine (B2.out _).mono ?_
    rintro e w2 ⟨v2, rfl, hown2, hb2⟩
    obtain ⟨a2, c2, rfl, hc2, hm2, _⟩ := SlAt.owns hown2
    have hb12 := hb1.trans (hb2.mono hb1.size)
    unfold maxLen at hm1 hm2
    have hsl : 0 < ls.length → ∃ g1 g2, a1 = some ⟨g1, 0, none⟩ ∧ a2 = some ⟨g2, 0, none⟩ ∧ g1 < w2.heap.size ∧ g2 < w2.heap.size ∧ ∀ i (hi : i < ls.length), LnCells w2 g1 i ls[i] ∧ LnCells w2 g2 i ls[i] := fun h0 => by
      obtain ⟨g1, cap1, he1, _, hg1, _⟩ := ownsRow_pos hown1 h0
      obtain ⟨g2, cap2, he2, _, hg2, _⟩ := ownsRow_pos hown2 h0
      simp at he1 he2
      obtain ⟨rfl, rfl⟩ := he1
      obtain ⟨rfl, rfl⟩ := he2
      exact ⟨g1, g2, rfl, rfl, Nat.lt_of_lt_of_le hg1 hb2.size, hg2, fun i hi => ⟨(lnCells hown1 i hi).below hb2 hg1, lnCells hown2 i hi⟩⟩
    have hsl := Lib.hid hsl
    clear hown1 hown2
    go_wp2
    go_loopw [9] (fun i wr => ∃ k : Nat, k ≤ ls.length ∧ i = .int .i64 k ∧ Below w2.heap.size w2 wr) (fun i _ => ls.length - (intOf i).toNat)
    case atStart => exact ⟨0, Nat.zero_le _, rfl, Below.refl _ _⟩
    case round =>
      obtain ⟨k, hk, rfl, hbl⟩ := hrel
      by_cases hlt : k < ls.length
      · obtain ⟨g1, g2, rfl, rfl, hg1, hg2, hcl⟩ := hsl.out (by omega)
        obtain ⟨q0, q1, q2⟩ := (hcl k hlt).1.below hbl hg1
        obtain ⟨r0, r1, r2⟩ := (hcl k hlt).2.below hbl hg2
        clear hcl
        generalize ls[k] = x at *
        obtain ⟨x0, x1, x2⟩ := x
        simp only at q0 q1 q2 r0 r1 r2
        have e0 : ((x0 : Int) != (x0 : Int)) = false := by simp
        have e1 : ((x1 : Int) != (x1 : Int)) = false := by simp
        have e2 : (x2 != x2) = false := by simp
        go_wp2
        go_quiet (fail)
        go_wp2
        go_roundw
        case rel => exact ⟨k + 1, by omega, by go_num, below_drewN hbl _⟩
        case measure => simp [intOf]; omega
      · have K2 := Lib.hid (law_known w wr hg (hb12.trans (hbl.mono hb12.size)))
        go_wp2_with (first
          | (go_at_call 10; refine K2.out.mono ?_; rintro e w5 ⟨rfl, hb5⟩))
        go_ret
        exact ⟨rfl, by assumption⟩
  · go_enter Tryd.func5, Tryd.ntmps5
    go_wp2_with (first
      | (go_at_call 9; refine (few_any _ _).mono ?_; rintro e w' ⟨rfl, rfl⟩)
      | (go_at_call 10; refine K.out.mono ?_; rintro e w1 ⟨rfl, hb1⟩))
    go_ret
    exact ⟨rfl, by assumption⟩
end Go.Proofs.YtflakidnjchhhaaDoor
