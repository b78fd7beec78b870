/-
  The walk of the reference's SameTexts: are two lists of texts the same?
-/
import Derived.Test.YtflakidnjchhhaaDoorMem
import Derived.Test.YtflakidnjchhhaaDoorChecked
import Derived.Outline
import Derived.WalkSmall
namespace Go.Proofs.YtflakidnjchhhaaDoor
open Go.RowKit Wsc
theorem ret_b {a b : Bool} (h : a = b) : Ending.returned (.bool a) = .returned (.bool b) := by rw [h]
theorem sameTexts_any (v1 v2 : Value) (xs ys : List (List UInt8)) (w : World) (h1 : SlAt w v1 xs.length (strs xs)) (h2 : SlAt w v2 ys.length (strs ys)) :
    Calls Tryd.prog 12 #[v1, v2] w fun e w' => e = .returned (.bool (decide (xs = ys))) ∧ Below w.heap.size w w' := by
  obtain ⟨a1, c1, rfl, hn1, hm1, g1⟩ := h1
  obtain ⟨a2, c2, rfl, hn2, hm2, g2⟩ := h2
  unfold maxLen at hm1 hm2
  by_cases hl : xs.length = ys.length
  · obtain ⟨n, hn⟩ : ∃ n, n = xs.length := ⟨_, rfl⟩
    rw [← hn] at hn1 g1 hl ⊢
    rw [← hl] at hn2 g2 ⊢
    have HX := Lib.hid hn
    have HY := Lib.hid hl
    clear hn hl
    have hb : ((n : Int) != (n : Int)) = false := by simp
    go_enter Tryd.func12, Tryd.ntmps12
    go_wp2
    go_loopw [5] (fun i wr => ∃ k : Nat, k ≤ n ∧ i = .int .i64 k ∧ Below w.heap.size w wr ∧ xs.take k = ys.take k) (fun i _ => n - (intOf i).toNat)
    case atStart => exact ⟨0, Nat.zero_le _, rfl, Below.refl _ _, rfl⟩
    case round =>
      obtain ⟨k, hk, rfl, hbl, ht⟩ := hrel
      have HT := Lib.hid ht
      clear ht
      by_cases hlt : k < n
      · have q1 : ∃ b o, a1 = some ⟨b, o, none⟩ ∧ wr.cell? ⟨b, o + k, none⟩ = some (.string (bs (xs[k]'(by have := HX.out; omega)))) := by
          rcases g1 with ⟨h, _⟩ | ⟨b, o, h, hB, hc⟩
          · omega
          · exact ⟨b, o, h, strs_get (hc.below hbl hB) k _⟩
        have q2 : ∃ b o, a2 = some ⟨b, o, none⟩ ∧ wr.cell? ⟨b, o + k, none⟩ = some (.string (bs (ys[k]'(by have := HY.out; omega)))) := by
          rcases g2 with ⟨h, _⟩ | ⟨b, o, h, hB, hc⟩
          · omega
          · exact ⟨b, o, h, strs_get (hc.below hbl hB) k _⟩
        obtain ⟨b1, o1, rfl, hc1⟩ := q1
        obtain ⟨b2, o2, rfl, hc2⟩ := q2
        clear g1 g2
        go_wp2
        go_quiet (fail)
        go_wp2
        · have h : (!(bs (xs[k]'(by have := HX.out; omega))).toList == (bs (ys[k]'(by have := HY.out; omega))).toList) = true := by assumption
          go_ret
          refine ⟨ret_b ?_, below_drewN hbl _⟩
          rw [Lib.toList_data, Lib.toList_data, bs_data, bs_data] at h
          symm; rw [decide_eq_false_iff_not]; intro e; subst e; simp at h
        · have h : (!(bs (xs[k]'(by have := HX.out; omega))).toList == (bs (ys[k]'(by have := HY.out; omega))).toList) = false := by assumption
          have e : xs.take (k + 1) = ys.take (k + 1) := by
            rw [Lib.toList_data, Lib.toList_data, bs_data, bs_data] at h
            rw [List.take_succ_eq_append_getElem (by have := HX.out; omega), List.take_succ_eq_append_getElem (by have := HY.out; omega), HT.out]
            simp at h; rw [h]
          have e := Lib.hid e
          go_roundw
          case rel => exact ⟨k + 1, by omega, by go_num, below_drewN hbl _, e.out⟩
          case measure => simp [intOf]; omega
      · clear g1 g2
        go_wp2
        go_ret
        refine ⟨ret_b ?_, hbl⟩
        have h := HT.out
        rw [List.take_of_length_le (by have := HX.out; omega), List.take_of_length_le (by have := HY.out; omega)] at h
        simpa using h
  · have hb : ((xs.length : Int) != (ys.length : Int)) = true := by simp; omega
    have hd := Lib.hid hl
    clear hl g1 g2
    go_enter Tryd.func12, Tryd.ntmps12
    go_wp2
    go_ret
    exact ⟨ret_b (by symm; rw [decide_eq_false_iff_not]; intro e; exact hd.out (by rw [e])), Below.refl _ _⟩
end Go.Proofs.YtflakidnjchhhaaDoor
