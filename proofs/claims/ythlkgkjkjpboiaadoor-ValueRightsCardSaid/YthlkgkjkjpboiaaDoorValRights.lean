/-
  The walk of law09.ValueRights.
-/
import Derived.Test.YthlkgkjkjpboiaaDoorValF
import Derived.Test.YthlkgkjkjpboiaaDoorToksB
namespace Go.Proofs.YthlkgkjkjpboiaaDoor
open Go.RowKit Wsc
theorem sameToks_true (v1 v2 : Value) (xs : List Tok) (w : World) (h1 : SlAt w v1 xs.length (toks xs)) (h2 : SlAt w v2 xs.length (toks xs)) :
    Calls Tryd.prog 23 #[v1, v2] w fun e w' => e = .returned (.bool true) ∧ Below w.heap.size w w' := by
  have := sameToks_any v1 v2 xs xs w h1 h2
  rw [decide_eq_true rfl] at this
  exact this
/-- a later world, in which what was there still stands. -/
structure Ext (w w' : World) : Prop where
  lt : w.heap.size < w'.heap.size
  bel : Below w.heap.size w w'
theorem Ext.next {w w1 w2 : World} (h : Ext w w1) (hb : Below w1.heap.size w1 w2) : Ext w w2 := ⟨Nat.lt_of_lt_of_le h.1 hb.size, h.2.trans (hb.mono h.2.size)⟩
theorem Ext.drew {w w1 : World} (h : Ext w w1) : Ext w w1.drew := ⟨h.1, h.2.drew⟩
set_option maxRecDepth 100000 in
set_option maxHeartbeats 1000000 in
theorem valueRights_walk (v : Val) (w : World) (hg : Gl w) (hl : v.name.length ≤ maxLen) :
    Calls Tryd.prog 5 #[valV v] w fun e w' => e = .returned (.bool true) ∧ Below w.heap.size w w' := by
  unfold maxLen at hl
  have K := Lib.hid (fun ww (hb : Below w.heap.size w ww) => known_any ww (hg.below hb))
  have R1 := fun ww (hb : Below w.heap.size w ww) => right_any v ww (hg.below hb)
  have R2 := fun ww => refRight_any v ww hl
  have T1 := fun ww (hb : Below w.heap.size w ww) => vtokens_any v ww (hg.below hb)
  have T2 := fun ww => rtokens_any v ww hl
  generalize rightV v = r at *
  generalize tokensL v = tl at *
  have BB := Lib.hid (Blk4.new w 32 (.int .i64 v.kind) (.int .i64 v.n) (.int .i64 v.d) (.string (bs v.name)))
  have HA := Lib.hid ((Below.refl w.heap.size w).alloc (Nat.le_refl _) (.cells #[.int .i64 v.kind, .int .i64 v.n, .int .i64 v.d, .string (bs v.name)] 32))
  have HZ := Lib.hid (show (w.alloc (.cells #[.int .i64 v.kind, .int .i64 v.n, .int .i64 v.d, .string (bs v.name)] 32)).heap.size = w.heap.size + 1 by simp)
  unfold valV at *
  have K1 := Lib.hid R1
  have K2 := Lib.hid R2
  have K3 := Lib.hid T1
  have K4 := Lib.hid T2
  clear R1 R2 T1 T2
  have hrr : (r == r) = true := by simp
  go_enter Tryd.func5, Tryd.ntmps5
  go_wp2_with fail
  have hX0 : Ext w (w.alloc (.cells #[.int .i64 v.kind, .int .i64 v.n, .int .i64 v.d, .string (bs v.name)] 32)) := ⟨by have := HZ.out; omega, HA.out⟩
  obtain ⟨q0, q1, q2, q3, _, _, _, _⟩ := BB.out
  generalize hW : w.alloc (.cells #[.int .i64 v.kind, .int .i64 v.n, .int .i64 v.d, .string (bs v.name)] 32) = W at *
  clear hW
  go_region_held3 (fun w' => w'.cell? ⟨w.heap.size, 0, none⟩ = some (.int .i64 v.kind) ∧ w'.cell? ⟨w.heap.size, 1, none⟩ = some (.int .i64 v.n) ∧ w'.cell? ⟨w.heap.size, 2, none⟩ = some (.int .i64 v.d) ∧ w'.cell? ⟨w.heap.size, 3, none⟩ = some (.string (bs v.name)) ∧ Ext w w')
    (first
      | exact ⟨q0, q1, q2, q3, Ext.drew hX0⟩
      | (go_split_ands
         refine ⟨?_, ?_, ?_, ?_, ?_⟩
         all_goals (first | (refine (hb.cell (Ext.lt (by assumption))).trans ?_; assumption) | exact Ext.next (by assumption) hb)))
    ((first
      | (go_at_call 21; go_split_ands; refine (K1.out _ (Ext.bel (show Ext w _ by assumption))).mono ?_; rintro e w1 ⟨rfl, hb⟩)
      | (go_at_call 22; refine (K2.out _).mono ?_; rintro e w1 ⟨rfl, hb⟩)
      | (go_at_call 24; go_split_ands; refine (K3.out _ (Ext.bel (show Ext w _ by assumption))).mono ?_; rintro e w2 ⟨⟨a1, c1, rfl, hs1⟩, hb⟩)
      | (go_at_call 25; refine (K4.out _).mono ?_; rintro e w3 ⟨⟨a2, c2, rfl, hs2⟩, hb⟩; have hs3 := hs1.below hb)
      | (go_at_call 23; refine (sameToks_true _ _ tl _ hs3.sl hs2.sl).mono ?_; rintro e w4 ⟨rfl, hb⟩)
      | (go_at_call 14; go_split_ands; refine (K.out _ (Ext.bel (show Ext w _ by assumption))).mono ?_; rintro e w5 ⟨rfl, hb⟩)))
  go_wp2
  go_ret
  rename_i hH
  exact ⟨rfl, hH.2.2.2.2.bel⟩
end Go.Proofs.YthlkgkjkjpboiaaDoor
