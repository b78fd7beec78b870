/-
  The walk of law09.ValueReads.
-/
import Derived.Test.YthlkgkjkjpboiaaDoorValF
import Derived.Test.YthlkgkjkjpboiaaDoorValH
namespace Go.Proofs.YthlkgkjkjpboiaaDoor
open Go.RowKit Wsc
theorem few_any (a : Option Addr) (c n : Nat) (w : World) (h1 : n ≤ c) (h2 : c ≤ 9223372036854775807) :
    Calls Tryd.prog 15 #[.slice a n c] w fun e w' => e = .returned (.bool (decide (n ≤ 300))) ∧ w = w' := by
  go_enter Tryd.func15, Tryd.ntmps15
  go_wp2
  go_ret
  exact ⟨ret_bo (by rw [Bool.eq_iff_iff]; simp; omega), rfl⟩
theorem same_true (v1 v2 : Value) (xs : List Val) (w : World) (h1 : SlAt w v1 xs.length (vals xs)) (h2 : SlAt w v2 xs.length (vals xs)) :
    Calls Tryd.prog 20 #[v1, v2] w fun e w' => e = .returned (.bool true) ∧ Below w.heap.size w w' := by
  have := sameVals_any v1 v2 xs xs w h1 h2
  rw [decide_eq_true rfl] at this
  exact this
set_option maxRecDepth 100000 in
set_option maxHeartbeats 1000000 in
theorem valueReads_walk (a : Option Addr) (c : Nat) (l : List Tok) (w : World) (hg : Gl w) (hv : TokSl w a c l) (ht : ∀ t ∈ l, t.text.length ≤ maxLen) :
    Calls Tryd.prog 4 #[.slice a l.length c] w fun e w' => e = .returned (.bool true) ∧ Below w.heap.size w w' := by
  have hcap := hv.cap
  have FW := few_any a c l.length w hcap.1 hcap.2
  have K := fun ww (hb : Below w.heap.size w ww) => known_any ww (hg.below hb)
  have K2 := Lib.hid K
  by_cases hl : l.length ≤ 300
  · rw [decide_eq_true hl] at FW
    have FW2 := Lib.hid FW
    have RD := fun ww (hb : Below w.heap.size w ww) => read_any a c l ww (hg.below hb) (hv.below hb) (by omega)
    have RR := fun ww (hb : Below w.heap.size w ww) => refRead_any a c l ww (hv.below hb) (by omega) (by unfold maxLen at ht; exact ht)
    have PA := fun ww (hb : Below w.heap.size w ww) => parse_any a c l ww (hg.below hb) (hv.below hb) (by omega)
    have PR := fun ww (hb : Below w.heap.size w ww) => refParse_any a c l ww (hv.below hb) (by omega) (by unfold maxLen at ht; exact ht)
    generalize readL l = vk at *
    obtain ⟨v, k⟩ := vk
    simp only at RD RR
    have EQ := fun ww => eqlV v v ww
    rw [show valEq v v = true from decide_eq_true rfl] at EQ
    generalize parseL l = ps at *
    have RD2 := Lib.hid RD
    have RR2 := Lib.hid RR
    have PA2 := Lib.hid PA
    have PR2 := Lib.hid PR
    have EQ2 := Lib.hid EQ
    have HL := Lib.hid hl
    clear FW RD RR PA PR EQ hv ht K hl hcap
    have gv := gV
    go_enter Tryd.func4, Tryd.ntmps4
    go_wp2_with (go_at_call 15; refine FW2.out.mono ?_; rintro e w' ⟨rfl, rfl⟩)
    refine (RD2.out _ (Below.refl _ _)).mono ?_
    rintro e w1 ⟨rfl, hb⟩
    unfold valV at *
    have HB1 := Lib.hid (hb.alloc hb.size (.cells #[.int .i64 v.kind, .int .i64 v.n, .int .i64 v.d, .string (bs v.name)] 32))
    have B1 := Lib.hid (Blk4.new w1 32 (.int .i64 v.kind) (.int .i64 v.n) (.int .i64 v.d) (.string (bs v.name)))
    have HS1 := Lib.hid hb.size
    clear hb
    go_wp2_with fail
    refine (RR2.out _ HB1.out).mono ?_
    rintro e w2 ⟨rfl, hb⟩
    have hs2 : w1.heap.size < w2.heap.size := by have := hb.size; simp at this; omega
    have HB2 := Lib.hid ((HB1.out.trans (hb.mono HB1.out.size)).alloc (by have := HS1.out; omega) (.cells #[.int .i64 v.kind, .int .i64 v.n, .int .i64 v.d, .string (bs v.name)] 32))
    have C1 := Lib.hid ((B1.out.below hb (by simp)).below ((Below.refl w2.heap.size w2).alloc (Nat.le_refl _) (.cells #[.int .i64 v.kind, .int .i64 v.n, .int .i64 v.d, .string (bs v.name)] 32)) hs2)
    have C2 := Lib.hid (Blk4.new w2 32 (.int .i64 v.kind) (.int .i64 v.n) (.int .i64 v.d) (.string (bs v.name)))
    have HS2 := Lib.hid hs2
    clear hb B1 hs2
    go_wp2_with fail
    refine (PA2.out _ HB2.out).mono ?_
    rintro e w3 ⟨hpa, hb⟩
    have hw3 : w2.heap.size < w3.heap.size := by have := hb.size; simp at this; omega
    have HB3 := Lib.hid (HB2.out.trans (hb.mono HB2.out.size))
    have D1 := Lib.hid (C1.out.below hb (by have := HS2.out; simp; omega))
    have D2 := Lib.hid (C2.out.below hb (by simp))
    have HS3 := Lib.hid hw3
    clear hb hw3 C1 C2
    cases ps with
    | none =>
      have hp2 : e = _ := hpa
      subst hp2
      clear hpa
      go_wp2_with fail
      refine (PR2.out _ HB3.out).mono ?_
      rintro e w4 ⟨hpr, hb⟩
      have hp3 : e = _ := hpr
      subst hp3
      clear hpr
      have HB4 := Lib.hid (HB3.out.trans (hb.mono HB3.out.size))
      obtain ⟨p0, p1, p2, p3, _, _, _, _⟩ := D1.out.below hb (by have := HS2.out; have := HS3.out; omega)
      obtain ⟨q0, q1, q2, q3, _, _, _, _⟩ := D2.out.below hb HS3.out
      clear hb D1 D2 RD2 RR2 PA2 PR2
      have EQ := EQ2.out
      clear EQ2
      go_wp2_with fail
      refine (same_true _ _ [] _ (SlAt.nil _) (SlAt.nil _)).mono ?_
      rintro e w5 ⟨rfl, hb⟩
      have HB5 := Lib.hid (HB4.out.trans (hb.mono HB4.out.size))
      clear hb p0 p1 p2 p3 q0 q1 q2 q3
      go_wp2_with fail
      refine (K2.out _ HB5.out).mono ?_
      rintro e w6 ⟨rfl, hb⟩
      have HB6 := Lib.hid (HB5.out.trans (hb.mono HB5.out.size))
      clear hb
      go_wp2
      go_ret
      exact ⟨rfl, HB6.out⟩
    | some xs =>
      obtain ⟨x, hp2, hx⟩ := (show ∃ v, e = .returned (.tuple #[v, .int .i64 0]) ∧ SlAt w3 v xs.length (vals xs) from hpa)
      subst hp2
      have HX := Lib.hid hx
      clear hpa hx
      go_wp2_with fail
      refine (PR2.out _ HB3.out).mono ?_
      rintro e w4 ⟨hpr, hb⟩
      obtain ⟨y, hp3, hy⟩ := (show ∃ v, e = .returned (.tuple #[v, .int .i64 0]) ∧ SlAt w4 v xs.length (vals xs) from hpr)
      subst hp3
      have HY := Lib.hid hy
      have HX2 := Lib.hid (HX.out.below hb)
      clear hpr hy HX
      have HB4 := Lib.hid (HB3.out.trans (hb.mono HB3.out.size))
      obtain ⟨p0, p1, p2, p3, _, _, _, _⟩ := D1.out.below hb (by have := HS2.out; have := HS3.out; omega)
      obtain ⟨q0, q1, q2, q3, _, _, _, _⟩ := D2.out.below hb HS3.out
      clear hb D1 D2 RD2 RR2 PA2 PR2
      have EQ := EQ2.out
      clear EQ2
      go_wp2_with fail
      refine (same_true _ _ xs _ HX2.out HY.out).mono ?_
      rintro e w5 ⟨rfl, hb⟩
      have HB5 := Lib.hid (HB4.out.trans (hb.mono HB4.out.size))
      clear hb p0 p1 p2 p3 q0 q1 q2 q3
      go_wp2_with fail
      refine (K2.out _ HB5.out).mono ?_
      rintro e w6 ⟨rfl, hb⟩
      have HB6 := Lib.hid (HB5.out.trans (hb.mono HB5.out.size))
      clear hb
      go_wp2
      go_ret
      exact ⟨rfl, HB6.out⟩
  · rw [decide_eq_false hl] at FW
    have FW2 := Lib.hid FW
    clear FW hl hv hcap
    go_enter Tryd.func4, Tryd.ntmps4
    go_wp2_with (go_at_call 15; refine FW2.out.mono ?_; rintro e w' ⟨rfl, rfl⟩)
    refine (K2.out _ (Below.refl _ _)).mono ?_
    rintro e w1 ⟨rfl, hb⟩
    go_wp2
    go_ret
    exact ⟨rfl, hb⟩
end Go.Proofs.YthlkgkjkjpboiaaDoor
