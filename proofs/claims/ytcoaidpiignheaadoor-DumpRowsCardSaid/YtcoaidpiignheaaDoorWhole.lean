/-
  The walk of ref01.Whole: the digits of a number that is not below 0.
-/
import Derived.Test.YtcoaidpiignheaaDoorNames
import Derived.Test.YtcoaidpiignheaaDoorMem
import Derived.Test.YtcoaidpiignheaaDoorPrintPlain
import Derived.RegionTactic
import Derived.ChangeAlike
import Derived.BigRegion
import Derived.Deep.RegionHeld3
import Derived.Laws.IdiomStrings
import Derived.Laws.Concat
namespace Go.Proofs.YtcoaidpiignheaaDoor
open Go.RowKit Wsc
theorem bs_append (x y : List UInt8) : bs x ++ bs y = bs (x ++ y) := by unfold bs; rw [ByteArray.mk_append_mk]
theorem wrapI (x : Int) (h1 : -9223372036854775808 ≤ x) (h2 : x ≤ 9223372036854775807) : IntKind.i64.wrap x = x := by
  unfold IntKind.wrap; simp [IntKind.bits, IntKind.signed]; omega
theorem wrapU8 (x : Int) (h1 : 0 ≤ x) (h2 : x ≤ 255) : IntKind.u8.wrap x = x := by
  unfold IntKind.wrap; simp [IntKind.bits, IntKind.signed]; omega
/-- a byte made a text. -/
theorem convAt (m : Nat) (hm : m < 10) (ww : World) (g : Nat) (h : ww.cell? ⟨g, 0, none⟩ = some (.int .u8 (48 + (m : Int)))) : (convert 51 9 (.slice (some ⟨g, 0, none⟩) 1 1)).run Tryd.prog ww = .ok (.string (bs [dg m])) ww := by
  refine run_convert_bytes_back (P := Tryd.prog) _ 51 9 5 ⟨g, 0, none⟩ 1 [dg m] Tryd.underlying51 Tryd.underlying5 Tryd.underlying9 (fun j hj => ?_)
  have h0 : j = 0 := by simp at hj; exact hj
  subst h0
  rw [show (⟨g, 0, none⟩ : Addr).add 0 = ⟨g, 0, none⟩ from rfl, h]
  have := bn_dg m hm
  unfold bn at this
  simp [this]
theorem conv1 (m : Nat) (hm : m < 10) (ww : World) : (convert 51 9 (.slice (some ⟨ww.heap.size, 0, none⟩) 1 1)).run Tryd.prog (ww.alloc (.cells #[.int .u8 (48 + (m : Int))] 5)) =
    .ok (.string (bs [dg m])) (ww.alloc (.cells #[.int .u8 (48 + (m : Int))] 5)) :=
  convAt m hm _ _ (by rw [World.cell?_alloc_at _ _ _ _ rfl]; rfl)
/-- two texts in one. -/
theorem add2 (x y : List UInt8) (h : x.length + y.length ≤ 9223372036854775807) (ww : World) : (Go.Op.stringOp .add (bs x) (bs y)).run Tryd.prog ww = .ok (.string (bs (x ++ y))) ww := by
  rw [run_string_add_sum ww _ _ (by rw [bs_size, bs_size]; omega), bs_append]
set_option maxRecDepth 100000 in
set_option maxHeartbeats 1000000 in
theorem whole_any : ∀ (k n : Nat) (w : World), n ≤ k → n ≤ 4611686018427387904 →
    Calls Tryd.prog 67 #[.int .i64 n] w fun e w' => e = .returned (.string (bs (wholeL n))) ∧ Below w.heap.size w w'
  | k, n, w, hk, hn => by
    by_cases h10 : n < 10
    · rw [wholeL_small n h10]
      have CB := fun ww => conv1 n h10 ww
      go_enter Tryd.func67, Tryd.ntmps67
      go_wp2
      go_ret
      exact ⟨rfl, (Below.refl _ _).alloc (Nat.le_refl _) _⟩
    · rw [wholeL_big n h10]
      cases k with
      | zero => omega
      | succ k =>
        have IH := fun ww => whole_any k (n / 10) ww (by omega) (by omega)
        have hd : (n : Int).tdiv 10 = ((n / 10 : Nat) : Int) := by rw [Int.tdiv_eq_ediv_of_nonneg (by omega)]; omega
        have hm : (n : Int).tmod 10 = ((n % 10 : Nat) : Int) := by rw [Int.tmod_eq_emod_of_nonneg (by omega)]; omega
        have hlt : n % 10 < 10 := by omega
        have hlen := wholeL_len 18 (n / 10) (by omega)
        have hqb : n / 10 ≤ 4611686018427387904 := by omega
        generalize n % 10 = m at *
        generalize n / 10 = q at *
        have CB := fun ww => conv1 m hlt ww
        have CD : (convert 51 9 (.slice (some ⟨w.heap.size, 0, none⟩) 1 1)).run Tryd.prog (w.alloc (.cells #[.int .u8 (48 + (m : Int))] 5)).drew = .ok (.string (bs [dg m])) (w.alloc (.cells #[.int .u8 (48 + (m : Int))] 5)).drew := convAt m hlt _ _ (show (w.alloc (.cells #[.int .u8 (48 + (m : Int))] 5)).cell? ⟨w.heap.size, 0, none⟩ = _ by rw [World.cell?_alloc_at _ _ _ _ rfl]; rfl)
        have AD := fun ww => add2 (wholeL q) [dg m] (by simp; omega) ww
        have hsz : ¬ ((bs (wholeL q)).size + (bs [dg m]).size > 9223372036854775807) := by rw [bs_size, bs_size]; simp; omega
        have IH2 := Lib.hid IH
        have hq : (q : Int) ≤ 4611686018427387904 := by omega
        have w1 : IntKind.i64.wrap (q : Int) = (q : Int) := wrapI _ (by omega) (by omega)
        have w2 : IntKind.i64.wrap (48 + (m : Int)) = 48 + (m : Int) := wrapI _ (by omega) (by omega)
        have w3 : IntKind.u8.wrap (48 + (m : Int)) = 48 + (m : Int) := wrapU8 _ (by omega) (by omega)
        clear IH hlen
        go_enter Tryd.func67, Tryd.ntmps67
        go_wp2_with fail
        go_region_with ((go_at_call 67; refine (IH2.out _).mono ?_; rintro e w2 ⟨rfl, hb⟩; (first | (have hcc := (hb.cell (p := ⟨w.heap.size, 0, none⟩) (by show w.heap.size < (w.alloc (.cells #[.int .u8 (48 + (m : Int))] 5)).heap.size; simp)).trans (show (w.alloc (.cells #[.int .u8 (48 + (m : Int))] 5)).cell? ⟨w.heap.size, 0, none⟩ = some (.int .u8 (48 + (m : Int))) by rw [World.cell?_alloc_at _ _ _ _ rfl]; rfl); have CC := convAt m hlt w2 w.heap.size hcc) | skip)))
        all_goals
          go_wp2
          go_ret
          refine ⟨rfl, ?_⟩
          first
            | exact ((Below.refl w.heap.size w).drew.trans (hb.mono (Nat.le_refl _))).alloc (by have := hb.size; simp at this; omega) _
            | exact (((Below.refl w.heap.size w).alloc (Nat.le_refl _) _).drew).trans (hb.mono (by simp))
end Go.Proofs.YtcoaidpiignheaaDoor
