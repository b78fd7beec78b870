/-
  Walks of layer 29's numbers: ref29.Number, dump.number.
-/
import Derived.Test.YtcoaidpiignheaaDoorWhole
import Derived.Test.YtcoaidpiignheaaDoorDumpPlain
namespace Go.Proofs.YtcoaidpiignheaaDoor
open Go.RowKit Wsc
theorem refNum_any (n : Int) (w : World) (h1 : -4611686018427387904 ≤ n) (h2 : n ≤ 4611686018427387904) :
    Calls Tryd.prog 47 #[.int .i64 n] w fun e w' => e = .returned (.string (bs (numN n))) ∧ Below w.heap.size w w' := by
  unfold numN
  by_cases h0 : n < 0
  · rw [if_pos h0]
    obtain ⟨m, hm⟩ := Int.eq_ofNat_of_zero_le (show 0 ≤ -n by omega)
    have W := fun ww => whole_any m m ww (Nat.le_refl _) (by omega)
    rw [hm, Int.toNat_natCast]
    have hl := wholeL_len 18 m (by omega)
    have hsz : ¬ (9223372036854775807 < 1 + (bs (wholeL m)).size) := by rw [bs_size]; omega
    generalize wholeL m = T at *
    have W2 := Lib.hid W
    clear W hl
    go_enter Tryd.func47, Tryd.ntmps47
    go_wp2_with fail
    refine (W2.out _).mono ?_
    rintro e w1 ⟨rfl, hb1⟩
    go_wp2
    go_ret
    exact ⟨by rw [show (45 :: T) = [45] ++ T from rfl, ← bs_append]; rfl, hb1⟩
  · rw [if_neg h0]
    obtain ⟨m, hm⟩ := Int.eq_ofNat_of_zero_le (show 0 ≤ n by omega)
    subst hm
    have W := Lib.hid (fun ww => whole_any m m ww (Nat.le_refl _) (by omega))
    rw [Int.toNat_natCast]
    generalize wholeL m = T at *
    go_enter Tryd.func47, Tryd.ntmps47
    go_wp2_with fail
    refine (W.out _).mono ?_
    rintro e w1 ⟨rfl, hb1⟩
    go_wp2
    go_ret
    exact ⟨rfl, hb1⟩
set_option maxRecDepth 100000 in
set_option maxHeartbeats 1000000 in
theorem dumpWhole_any : ∀ (k n : Nat) (w : World), n ≤ k → n ≤ 4611686018427387904 →
    Calls Tryd.prog 35 #[.int .i64 n] w fun e w' => e = .returned (.string (bs (wholeL n))) ∧ Below w.heap.size w w'
  | k, n, w, hk, hn => by
    by_cases h10 : n < 10
    · rw [wholeL_small n h10]
      have CB := fun ww => conv1 n h10 ww
      go_enter Tryd.func35, Tryd.ntmps35
      go_wp2
      go_ret
      exact ⟨rfl, (Below.refl _ _).alloc (Nat.le_refl _) _⟩
    · rw [wholeL_big n h10]
      cases k with
      | zero => omega
      | succ k =>
        have IH := fun ww => dumpWhole_any k (n / 10) ww (by omega) (by omega)
        have hd : (n : Int).tdiv 10 = ((n / 10 : Nat) : Int) := by rw [Int.tdiv_eq_ediv_of_nonneg (by omega)]; omega
        have hm : (n : Int).tmod 10 = ((n % 10 : Nat) : Int) := by rw [Int.tmod_eq_emod_of_nonneg (by omega)]; omega
        have hlt : n % 10 < 10 := by omega
        have hlen := wholeL_len 18 (n / 10) (by omega)
        have hqb : n / 10 ≤ 4611686018427387904 := by omega
        generalize n % 10 = m at *
        generalize n / 10 = q at *
        have CB := fun ww => conv1 m hlt ww
        have CD : (convert 51 9 (.slice (some ⟨w.heap.size, 0, none⟩) 1 1)).run Tryd.prog (w.alloc (.cells #[.int .u8 (48 + (m : Int))] 5)).drew = .ok (.string (bs [dg m])) (w.alloc (.cells #[.int .u8 (48 + (m : Int))] 5)).drew := convAt m hlt _ _ (show (w.alloc (.cells #[.int .u8 (48 + (m : Int))] 5)).cell? ⟨w.heap.size, 0, none⟩ = _ by rw [World.cell?_alloc_at _ _ _ _ rfl]; rfl)
        have AD := fun ww => add2 (wholeL q) [dg m] (by simp; omega) ww
        have hsz : ¬ ((bs (wholeL q)).size + (bs [dg m]).size > 9223372036854775807) := by rw [bs_size, bs_size]; simp; omega
        have IH2 := Lib.hid IH
        have hq : (q : Int) ≤ 4611686018427387904 := by omega
        have w1 : IntKind.i64.wrap (q : Int) = (q : Int) := wrapI _ (by omega) (by omega)
        have w2 : IntKind.i64.wrap (48 + (m : Int)) = 48 + (m : Int) := wrapI _ (by omega) (by omega)
        have w3 : IntKind.u8.wrap (48 + (m : Int)) = 48 + (m : Int) := wrapU8 _ (by omega) (by omega)
        clear IH hlen
        go_enter Tryd.func35, Tryd.ntmps35
        go_wp2_with fail
        go_region_with ((go_at_call 35; refine (IH2.out _).mono ?_; rintro e w2 ⟨rfl, hb⟩; (first | (have hcc := (hb.cell (p := ⟨w.heap.size, 0, none⟩) (by show w.heap.size < (w.alloc (.cells #[.int .u8 (48 + (m : Int))] 5)).heap.size; simp)).trans (show (w.alloc (.cells #[.int .u8 (48 + (m : Int))] 5)).cell? ⟨w.heap.size, 0, none⟩ = some (.int .u8 (48 + (m : Int))) by rw [World.cell?_alloc_at _ _ _ _ rfl]; rfl); have CC := convAt m hlt w2 w.heap.size hcc) | skip)))
        all_goals
          go_wp2
          go_ret
          refine ⟨rfl, ?_⟩
          first
            | exact ((Below.refl w.heap.size w).drew.trans (hb.mono (Nat.le_refl _))).alloc (by have := hb.size; simp at this; omega) _
            | exact (((Below.refl w.heap.size w).alloc (Nat.le_refl _) _).drew).trans (hb.mono (by simp))
theorem dumpNum_any (n : Int) (w : World) (h1 : -4611686018427387904 ≤ n) (h2 : n ≤ 4611686018427387904) :
    Calls Tryd.prog 35 #[.int .i64 n] w fun e w' => e = .returned (.string (bs (numN n))) ∧ Below w.heap.size w w' := by
  unfold numN
  by_cases h0 : n < 0
  · rw [if_pos h0]
    obtain ⟨m, hm⟩ := Int.eq_ofNat_of_zero_le (show 0 ≤ -n by omega)
    have W := fun ww => dumpWhole_any m m ww (Nat.le_refl _) (by omega)
    rw [hm, Int.toNat_natCast]
    have hl := wholeL_len 18 m (by omega)
    have hsz : ¬ (9223372036854775807 < 1 + (bs (wholeL m)).size) := by rw [bs_size]; omega
    generalize wholeL m = T at *
    have W2 := Lib.hid W
    clear W hl
    go_enter Tryd.func35, Tryd.ntmps35
    go_wp2_with fail
    refine (W2.out _).mono ?_
    rintro e w1 ⟨rfl, hb1⟩
    go_wp2
    go_ret
    exact ⟨by rw [show (45 :: T) = [45] ++ T from rfl, ← bs_append]; rfl, hb1⟩
  · rw [if_neg h0]
    obtain ⟨m, hm⟩ := Int.eq_ofNat_of_zero_le (show 0 ≤ n by omega)
    subst hm
    rw [Int.toNat_natCast]
    exact dumpWhole_any m m w (Nat.le_refl _) (by omega)
end Go.Proofs.YtcoaidpiignheaaDoor
