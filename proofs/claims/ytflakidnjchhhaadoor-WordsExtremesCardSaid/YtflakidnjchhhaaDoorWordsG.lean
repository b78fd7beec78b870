/-
  The walk of the reference's Break.
-/
import Derived.Test.YtflakidnjchhhaaDoorWordsF
namespace Go.Proofs.YtflakidnjchhhaaDoor
open Go.RowKit Wsc
theorem infoRLn : (Tryd.prog.info? 38).map (fun i => (i.zero, i.size, i.bytes)) = some (some (.agg #[.int .i64 0, .int .i64 0, .int .i64 0]), 3, 24) := by kernel_rfl
/-- what the lines' loop knows: the lines up to a word, and that a new one begins there. -/
def AtLine (xs : List (List UInt8)) (font R : Int) (a : Nat) (d : List Ln) : Prop :=
  brkTo xs font R a = d ∧ (a < xs.length → brkTo xs font R (a + 1) = d ++ [(a, a + 1, width (sub xs a (a + 1)) font)])
theorem atLine_zero (xs : List (List UInt8)) (font R : Int) : AtLine xs font R 0 [] := ⟨rfl, fun _ => brkTo_first xs font R 0 rfl⟩
theorem atLine_next (xs : List (List UInt8)) (font R : Int) (a t : Nat) (d : List Ln) (h : brkTo xs font R t = d ++ [(a, t, width (sub xs a t) font)]) (hw : t < xs.length → ¬ width (sub xs a (t + 1)) font ≤ R) :
    AtLine xs font R t (d ++ [(a, t, width (sub xs a t) font)]) := ⟨h, fun ht => brkTo_new xs font R t d _ h (hw ht)⟩
theorem refBreak_any (s : ByteArray) (font room : Int) (w : World) (hs : s.size ≤ 16777216) :
    Calls Tryd.prog 19 #[.string s, .int .i64 font, .int .i64 room] w fun e w' => ∃ v, e = .returned v ∧ w'.ownsRow w.heap.size 38 3 v (brk (words s.data.toList) font (hold room)).length (lns (brk (words s.data.toList) font (hold room))) ∧ Below w.heap.size w w' := by
  have hwt := words_tot s.data.toList
  rw [show s.data.toList.length = s.size from by simp] at hwt
  have S := Lib.hid (refSplit_any s w hs)
  generalize words s.data.toList = xs at *
  have H0 := Lib.hid (fun ww => refHold_any room ww)
  have hR := hold_bd room
  generalize hold room = R at *
  go_enter Tryd.func19, Tryd.ntmps19
  go_wp2_with fail
  refine S.out.mono ?_
  rintro e w1 ⟨v, rfl, hown, hb1⟩
  have hv := SlAt.owns hown
  obtain ⟨a, c, rfl, hnc, hcm, hcase⟩ := id hv
  clear hown hcase
  go_wp2
  go_loopw [8, 9] (fun v i wr => ∃ (k : Nat) (d : List Ln), k ≤ xs.length ∧ i = .int .i64 k ∧ d.length ≤ k ∧ wr.ownsRow w1.heap.size 38 3 v d.length (lns d) ∧ Hid (AtLine xs font R k d) ∧ Below w1.heap.size w1 wr)
    (fun _ i _ => xs.length - (intOf i).toNat)
  case atStart => exact ⟨0, [], Nat.zero_le _, rfl, Nat.le_refl _, World.ownsRow_nil _ _ _ _, atLine_zero xs font R, Below.refl _ _⟩
  case round =>
    obtain ⟨k, d, hk, rfl, hdk, hown, hat, hb⟩ := hrel
    by_cases hlt : k < xs.length
    · have hvr := hv.below hb
      have W := fun p q hpq hq => refWidth_any _ xs p q font wr hvr (by omega) hpq hq
      have W := Lib.hid W
      have hst := Lib.hid (hat.out.2 hlt)
      clear hat
      go_wp2
      go_loop [10] (fun t => ∃ j : Nat, k + 1 ≤ j ∧ j ≤ xs.length ∧ t = .int .i64 j ∧ Hid (brkTo xs font R j = d ++ [(k, j, width (sub xs k j) font)])) (fun t => xs.length - (intOf t).toNat)
      case atStart => exact ⟨k + 1, Nat.le_refl _, by omega, by go_num, hst⟩
      case round =>
        obtain ⟨j, hkj, hj, rfl, hbj⟩ := hrel
        have W2 := W.out k j (by omega) hj
        have W2 := Lib.hid W2
        by_cases hjl : j < xs.length
        · have W1 := W.out k (j + 1) (by omega) (by omega)
          have W1 := Lib.hid W1
          by_cases hfit : width (sub xs k (j + 1)) font ≤ R
          · have B := Lib.hid (brkTo_grow xs font R j d _ hbj.out hfit)
            clear W hv hvr
            go_wp2_with fail
            refine W1.out.mono ?_
            rintro e w3 ⟨rfl, rfl⟩
            go_wp2_with (first | (go_at_call 31; refine (H0.out _).mono ?_; rintro e w' ⟨rfl, rfl⟩))
            go_round
            case rel => exact ⟨j + 1, by omega, by omega, by go_num, B.out⟩
            case measure => simp [intOf]; omega
          · have B := Lib.hid (atLine_next xs font R k j d hbj.out (fun _ => hfit))
            clear W hv hvr
            go_wp2_with fail
            refine W1.out.mono ?_
            rintro e w3 ⟨rfl, rfl⟩
            go_wp2_with (first | (go_at_call 31; refine (H0.out _).mono ?_; rintro e w' ⟨rfl, rfl⟩))
            go_wp2_with fail
            refine W2.out.mono ?_
            rintro e w3 ⟨rfl, rfl⟩
            go_wp2_with (first
              | (at_builtin; refine wpList_append_elem rfl _ _ 34 rfl w1.heap.size 38 _ 3 24 Tryd.underlying34 infoRLn rfl (by decide) (by decide) _ _ _ rfl hown [.int .i64 k, .int .i64 j, .int .i64 (width (sub xs k j) font)] rfl rfl (fun u hu => by simp at hu; rcases hu with rfl | rfl | rfl <;> rfl) (by omega) hb.size ?_; intro v' w2 hown' hb'))
            go_roundw
            case rel => exact ⟨j, _, by omega, rfl, by simp; omega, by rw [lns_snoc, List.length_append]; exact hown', B, hb.trans hb'⟩
            case measure => simp [intOf]; omega
        · have B := Lib.hid (atLine_next xs font R k j d hbj.out (fun h => absurd h hjl))
          clear W hv hvr
          go_wp2_with fail
          refine W2.out.mono ?_
          rintro e w3 ⟨rfl, rfl⟩
          go_wp2_with (first
            | (at_builtin; refine wpList_append_elem rfl _ _ 34 rfl w1.heap.size 38 _ 3 24 Tryd.underlying34 infoRLn rfl (by decide) (by decide) _ _ _ rfl hown [.int .i64 k, .int .i64 j, .int .i64 (width (sub xs k j) font)] rfl rfl (fun u hu => by simp at hu; rcases hu with rfl | rfl | rfl <;> rfl) (by omega) hb.size ?_; intro v' w2 hown' hb'))
          go_roundw
          case rel => exact ⟨j, _, by omega, rfl, by simp; omega, by rw [lns_snoc, List.length_append]; exact hown', B, hb.trans hb'⟩
          case measure => simp [intOf]; omega
    · have e : k = xs.length := by omega
      subst e
      have hd := Lib.hid hat.out.1
      go_wp2
      go_ret
      exact ⟨_, rfl, by unfold brk; rw [hd.out]; exact ownsRow_base hown hb1.size, hb1.trans (hb.mono hb1.size)⟩
end Go.Proofs.YtflakidnjchhhaaDoor
