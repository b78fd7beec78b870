/-
  The law PropTakes: its walk.
-/
import Derived.Test.YtikhghmnclpigaaGreatDoorRefB
import Derived.Test.YtikhghmnclpigaaGreatDoorParJ
import Derived.Deep.RegionHeld3
namespace Go.Proofs.YtikhghmnclpigaaGreatDoor
open Go.RowKit Wsc
/-- a world above another one, new. -/
structure Ext10 (w w' : World) : Prop where
  lt : w.heap.size < w'.heap.size
  bel : Below w.heap.size w w'
theorem Ext10.next {w w1 w2 : World} (h : Ext10 w w1) (hb : Below w1.heap.size w1 w2) : Ext10 w w2 := ⟨Nat.lt_of_lt_of_le h.1 hb.size, h.2.trans (hb.mono h.2.size)⟩
theorem Ext10.drew {w w1 : World} (h : Ext10 w w1) : Ext10 w w1.drew := ⟨h.1, h.2.drew⟩
set_option maxHeartbeats 1000000 in
theorem propTakes_walk (p : Int) (v : Val) (w : World) (hg : Gl w) (hl : v.name.length ≤ maxLen) :
    Calls Tryz.prog 3 #[.int .i64 p, valV v] w fun e w' => e = .returned (.bool true) ∧ Below w.heap.size w w' := by
  unfold maxLen at hl
  have K := Lib.hid (fun ww (hb : Below w.heap.size w ww) => known10_any ww (hg.below hb))
  have R1 := fun ww (hb : Below w.heap.size w ww) => takes_any p v ww (hg.below hb)
  have R2 := fun ww => refTakes_any p v ww hl
  generalize takesM p v = r at *
  have BB := Lib.hid (Blk4.new w 23 (.int .i64 v.kind) (.int .i64 v.n) (.int .i64 v.d) (.string (bs v.name)))
  have HA := Lib.hid ((Below.refl w.heap.size w).alloc (Nat.le_refl _) (.cells #[.int .i64 v.kind, .int .i64 v.n, .int .i64 v.d, .string (bs v.name)] 23))
  have HZ := Lib.hid (show (w.alloc (.cells #[.int .i64 v.kind, .int .i64 v.n, .int .i64 v.d, .string (bs v.name)] 23)).heap.size = w.heap.size + 1 by simp)
  unfold valV at *
  have K1 := Lib.hid R1
  have K2 := Lib.hid R2
  clear R1 R2
  have hrr : (r == r) = true := by simp
  go_enter Tryz.func3, Tryz.ntmps3
  go_wp2_with fail
  have hX0 : Ext10 w (w.alloc (.cells #[.int .i64 v.kind, .int .i64 v.n, .int .i64 v.d, .string (bs v.name)] 23)) := ⟨by have := HZ.out; omega, HA.out⟩
  obtain ⟨q0, q1, q2, q3, _, _, _, _⟩ := BB.out
  generalize hW : w.alloc (.cells #[.int .i64 v.kind, .int .i64 v.n, .int .i64 v.d, .string (bs v.name)] 23) = W at *
  clear hW
  go_region_held3 (fun w' => w'.cell? ⟨w.heap.size, 0, none⟩ = some (.int .i64 v.kind) ∧ w'.cell? ⟨w.heap.size, 1, none⟩ = some (.int .i64 v.n) ∧ w'.cell? ⟨w.heap.size, 2, none⟩ = some (.int .i64 v.d) ∧ w'.cell? ⟨w.heap.size, 3, none⟩ = some (.string (bs v.name)) ∧ Ext10 w w')
    (first
      | exact ⟨q0, q1, q2, q3, Ext10.drew hX0⟩
      | (go_split_ands
         refine ⟨?_, ?_, ?_, ?_, ?_⟩
         all_goals (first | (refine (hb.cell (Ext10.lt (by assumption))).trans ?_; assumption) | exact Ext10.next (by assumption) hb)))
    ((first
      | (go_at_call 8; go_split_ands; refine (K1.out _ (Ext10.bel (show Ext10 w _ by assumption))).mono ?_; rintro e w1 ⟨rfl, hb⟩)
      | (go_at_call 9; refine (K2.out _).mono ?_; rintro e w1 ⟨rfl, hb⟩)
      | (go_at_call 10; go_split_ands; refine (K.out _ (Ext10.bel (show Ext10 w _ by assumption))).mono ?_; rintro e w5 ⟨rfl, hb⟩)))
  go_wp2
  go_ret
  rename_i hH
  exact ⟨rfl, hH.2.2.2.2.bel⟩
end Go.Proofs.YtikhghmnclpigaaGreatDoor
