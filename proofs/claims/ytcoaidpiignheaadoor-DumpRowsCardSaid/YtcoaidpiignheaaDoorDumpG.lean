/-
  The walk of law 29's same: are two lists of rows the same?
-/
import Derived.Test.YtcoaidpiignheaaDoorDumpF
namespace Go.Proofs.YtcoaidpiignheaaDoor
open Go.RowKit Wsc
theorem neqB (a b : BoxP) (w : World) : (binOp .neq 47 (.agg #[.bool a.shown, .int .i64 a.x, .int .i64 a.y, .int .i64 a.w, .int .i64 a.h, .int .i64 a.lines]) (.agg #[.bool b.shown, .int .i64 b.x, .int .i64 b.y, .int .i64 b.w, .int .i64 b.h, .int .i64 b.lines])).run Tryd.prog w = .ok (.bool (!boxEq a b)) w := by
  unfold boxEq
  rw [box_beq]
  simp [go_sem]
  (repeat' split) <;> simp_all
theorem text_ne (x y : List UInt8) : ((bs x).toList != (bs y).toList) = !decide (x = y) := by
  rw [bne, text_eq2]
set_option maxRecDepth 100000 in
set_option maxHeartbeats 1000000 in
theorem same_any (v1 v2 : Value) (xs ys : List RowP) (w : World) (h1 : SlAt w v1 xs.length (rowsC xs)) (h2 : SlAt w v2 ys.length (rowsC ys)) :
    Calls Tryd.prog 13 #[v1, v2] w fun e w' => e = .returned (.bool (decide (xs = ys))) ∧ Below w.heap.size w w' := by
  obtain ⟨a1, c1, rfl, hn1, hm1, g1⟩ := h1
  obtain ⟨a2, c2, rfl, hn2, hm2, g2⟩ := h2
  unfold maxLen at hm1 hm2
  by_cases hl : xs.length = ys.length
  · obtain ⟨n, hn⟩ : ∃ n, n = xs.length := ⟨_, rfl⟩
    rw [← hn] at hn1 g1 hl ⊢
    rw [← hl] at hn2 g2 ⊢
    have HX := Lib.hid hn
    have HY := Lib.hid hl
    have G1 := Lib.hid g1
    have G2 := Lib.hid g2
    clear hn hl g1 g2
    have hb : ((n : Int) != (n : Int)) = false := by simp
    have gt := gB
    go_enter Tryd.func13, Tryd.ntmps13
    go_wp2
    go_loopw [5] (fun i wr => ∃ k : Nat, k ≤ n ∧ i = .int .i64 k ∧ Below w.heap.size w wr ∧ Hid (xs.take k = ys.take k)) (fun i _ => n - (intOf i).toNat)
    case atStart => exact ⟨0, Nat.zero_le _, rfl, Below.refl _ _, Lib.hid rfl⟩
    case round =>
      obtain ⟨k, hk, rfl, hbl, HT⟩ := hrel
      by_cases hlt : k < n
      · have hx : k < xs.length := by have := HX.out; omega
        have hy : k < ys.length := by have := HY.out; omega
        obtain ⟨b1, o1, rfl, hB1, p0, p1, p2, p3, p4, p5, p6, p7⟩ : ∃ b o, a1 = some ⟨b, o, none⟩ ∧ b < wr.heap.size ∧ RowAt wr b (o + k * 8) xs[k] := by
          rcases G1.out with ⟨h, _⟩ | ⟨b, o, h, hB, hc⟩
          · omega
          · exact ⟨b, o, h, Nat.lt_of_lt_of_le hB hbl.size, rowAt (hc.below hbl hB) k hx⟩
        obtain ⟨b2, o2, rfl, hB2, q0, q1, q2, q3, q4, q5, q6, q7⟩ : ∃ b o, a2 = some ⟨b, o, none⟩ ∧ b < wr.heap.size ∧ RowAt wr b (o + k * 8) ys[k] := by
          rcases G2.out with ⟨h, _⟩ | ⟨b, o, h, hB, hc⟩
          · omega
          · exact ⟨b, o, h, Nat.lt_of_lt_of_le hB hbl.size, rowAt (hc.below hbl hB) k hy⟩
        have T1 := Lib.hid (take_snoc3 xs k hx)
        have T2 := Lib.hid (take_snoc3 ys k hy)
        have M := Lib.hid (show xs[k] ≠ ys[k] → xs ≠ ys from fun h e => h (by subst e; rfl))
        generalize xs[k] = t at *
        generalize ys[k] = u at *
        obtain ⟨d1, t1, x1⟩ := t
        obtain ⟨d2, t2, x2⟩ := u
        simp only at p0 p1 p2 p3 p4 p5 p6 p7 q0 q1 q2 q3 q4 q5 q6 q7
        have NB := fun ww => neqB x1 x2 ww
        have NT := text_eq2 t1 t2
        have HBL := Lib.hid hbl
        by_cases e0 : d1 = d2
        · have f0 : (d1 != d2) = false := by simp [e0]
          by_cases e1 : t1 = t2
          · rw [decide_eq_true e1] at NT
            have NT2 : ((bs t1).toList == (bs t2).toList) = true := NT
            have E01 := Lib.hid (And.intro e0 e1)
            clear NT e0 e1 hx hy
            cases he : boxEq x1 x2
            · rw [he] at NB
              have M2 := Lib.hid (M.out (fun h => by cases h; exact of_decide_eq_false he rfl))
              clear he
              go_wp2
              go_quiet (fail)
              go_wp2
              go_ret
              exact ⟨ret_bo (by symm; exact decide_eq_false M2.out), below_drewN HBL.out _⟩
            · rw [he] at NB
              have M2 := Lib.hid (show xs.take (k + 1) = ys.take (k + 1) by rw [T1.out, T2.out, HT.out, of_decide_eq_true he, E01.out.1, E01.out.2])
              clear he
              go_wp2
              go_quiet (fail)
              go_wp2
              go_roundw
              case rel => exact ⟨k + 1, by omega, by go_num, below_drewN HBL.out _, M2⟩
              case measure => simp [intOf]; omega
          · rw [decide_eq_false e1] at NT
            have NT2 : ((bs t1).toList == (bs t2).toList) = false := NT
            have M2 := Lib.hid (M.out (fun h => by cases h; exact e1 rfl))
            clear NT e0 e1 hx hy NB
            go_wp2
            go_quiet (fail)
            go_wp2
            go_ret
            exact ⟨ret_bo (by symm; exact decide_eq_false M2.out), below_drewN HBL.out _⟩
        · have f0 : (d1 != d2) = true := by simp [e0]
          have M2 := Lib.hid (M.out (fun h => by cases h; exact e0 rfl))
          clear NT e0 hx hy NB
          go_wp2
          go_quiet (fail)
          go_wp2
          go_ret
          exact ⟨ret_bo (by symm; exact decide_eq_false M2.out), below_drewN HBL.out _⟩
      · go_wp2
        go_ret
        refine ⟨ret_bo ?_, hbl⟩
        have h := HT.out
        rw [List.take_of_length_le (by have := HX.out; omega), List.take_of_length_le (by have := HY.out; omega)] at h
        simpa using h
  · have hb : ((xs.length : Int) != (ys.length : Int)) = true := by simp; omega
    have hd := Lib.hid hl
    clear hl g1 g2
    go_enter Tryd.func13, Tryd.ntmps13
    go_wp2
    go_ret
    exact ⟨ret_bo (by symm; rw [decide_eq_false_iff_not]; intro e; exact hd.out (by rw [e])), Below.refl _ _⟩
end Go.Proofs.YtcoaidpiignheaaDoor
