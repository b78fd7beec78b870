/-
  The walk of dump.row: a line's row.
-/
import Derived.Test.YtcoaidpiignheaaDoorScanB
import Derived.Test.YtcoaidpiignheaaDoorLibSplit
import Derived.Laws.ResultCell
namespace Go.Proofs.YtcoaidpiignheaaDoor
open Go.RowKit Wsc
/-- the next word of those that are left. -/
def wx (s : List (List UInt8) × Bool) : List UInt8 × (List (List UInt8) × Bool) :=
  match s.1 with
  | [] => ([], ([], false))
  | x :: r => (x, (r, s.2))
theorem wx_any (g : Nat) (a : Option Addr) (c : Nat) (s : List (List UInt8) × Bool) (w : World) (h : ScAt w g a c s.1 s.2) :
    Calls Tryd.prog 45 #[.pointer (some ⟨g, 0, none⟩)] w fun e w' => e = .returned (.string (bs (wx s).1)) ∧ (∃ a' c', ScAt w' g a' c' (wx s).2.1 (wx s).2.2) ∧ But g w w' := by
  obtain ⟨ws, ok⟩ := s
  cases ws with
  | nil => exact (scWord_none g a c ok w h).mono fun e w' ⟨h1, h2, h3⟩ => ⟨h1, ⟨_, _, h2⟩, h3⟩
  | cons x r => exact scWord_some g a c x r ok w h
/-- a line's words. -/
def splitW (t : List UInt8) : List (List UInt8) := Lib.splitK [32] 0 (Lib.count t [32]) t
theorem split_any (t : List UInt8) (w : World) (hg : Gl w) (hs : t.length ≤ 16777216) :
    Calls Tryd.prog 43 #[.string (bs t), .string ⟨#[32]⟩] w fun e w' =>
      e = .returned (.slice (some ⟨w.heap.size, 0, none⟩) (splitW t).length (splitW t).length) ∧ w' = w.alloc (.cells (strs (splitW t)).toArray 9) := by
  have h := libSplit (bs t) w hg (by rw [bs_size]; omega)
  have e : (pieces (bs t)).map (·.data.toList) = splitW t := by rw [pieces_data, bs_data]; rfl
  have e1 : (pieces (bs t)).length = (splitW t).length := by rw [← e, List.length_map]
  have e2 : (pieces (bs t)).map Value.string = strs (splitW t) := by
    rw [← e]; unfold strs; rw [List.map_map]; apply List.map_congr_left; intro x _; simp [bs_of]
  rw [e1, e2] at h
  exact h
theorem splitW_le (t : List UInt8) (hs : t.length ≤ 16777216) : (splitW t).length ≤ 16777218 := by
  have := (pieces_le (bs t) (by rw [bs_size]; omega)).2
  have e : (pieces (bs t)).map (·.data.toList) = splitW t := by rw [pieces_data, bs_data]; rfl
  rwa [← e, List.length_map]
/-- a row's block. -/
structure Blk8 (w : World) (r : Nat) (v0 v1 v2 v3 v4 v5 v6 v7 : Value) : Prop where
  c0 : w.cell? ⟨r, 0, none⟩ = some v0
  c1 : w.cell? ⟨r, 1, none⟩ = some v1
  c2 : w.cell? ⟨r, 2, none⟩ = some v2
  c3 : w.cell? ⟨r, 3, none⟩ = some v3
  c4 : w.cell? ⟨r, 4, none⟩ = some v4
  c5 : w.cell? ⟨r, 5, none⟩ = some v5
  c6 : w.cell? ⟨r, 6, none⟩ = some v6
  c7 : w.cell? ⟨r, 7, none⟩ = some v7
  f0 : w.frozen? ⟨r, 0, none⟩ = false
  f1 : w.frozen? ⟨r, 1, none⟩ = false
  f2 : w.frozen? ⟨r, 2, none⟩ = false
  f3 : w.frozen? ⟨r, 3, none⟩ = false
  f4 : w.frozen? ⟨r, 4, none⟩ = false
  f5 : w.frozen? ⟨r, 5, none⟩ = false
  f6 : w.frozen? ⟨r, 6, none⟩ = false
  f7 : w.frozen? ⟨r, 7, none⟩ = false
theorem Blk8.new (w : World) (t : TypeId) (v0 v1 v2 v3 v4 v5 v6 v7 : Value) : Blk8 (w.alloc (.cells #[v0, v1, v2, v3, v4, v5, v6, v7] t)) w.heap.size v0 v1 v2 v3 v4 v5 v6 v7 := by
  constructor <;> first | (rw [World.cell?_alloc_at _ _ _ _ rfl]; rfl) | simp
theorem Blk8.but {g : Nat} {w w' : World} {r : Nat} {v0 v1 v2 v3 v4 v5 v6 v7 : Value} (h : Blk8 w r v0 v1 v2 v3 v4 v5 v6 v7) (hb : But g w w') (hr : r < w.heap.size) (hne : r ≠ g) : Blk8 w' r v0 v1 v2 v3 v4 v5 v6 v7 :=
  ⟨(hb.cell hr hne).trans h.c0, (hb.cell hr hne).trans h.c1, (hb.cell hr hne).trans h.c2, (hb.cell hr hne).trans h.c3, (hb.cell hr hne).trans h.c4, (hb.cell hr hne).trans h.c5, (hb.cell hr hne).trans h.c6, (hb.cell hr hne).trans h.c7, (hb.frozen hr hne).trans h.f0, (hb.frozen hr hne).trans h.f1, (hb.frozen hr hne).trans h.f2, (hb.frozen hr hne).trans h.f3, (hb.frozen hr hne).trans h.f4, (hb.frozen hr hne).trans h.f5, (hb.frozen hr hne).trans h.f6, (hb.frozen hr hne).trans h.f7⟩
theorem Blk8.below {B : Nat} {w w' : World} {r : Nat} {v0 v1 v2 v3 v4 v5 v6 v7 : Value} (h : Blk8 w r v0 v1 v2 v3 v4 v5 v6 v7) (hb : Below B w w') (hr : r < B) : Blk8 w' r v0 v1 v2 v3 v4 v5 v6 v7 :=
  ⟨(hb.cell (p := ⟨r, 0, none⟩) hr).trans h.c0, (hb.cell (p := ⟨r, 1, none⟩) hr).trans h.c1, (hb.cell (p := ⟨r, 2, none⟩) hr).trans h.c2, (hb.cell (p := ⟨r, 3, none⟩) hr).trans h.c3, (hb.cell (p := ⟨r, 4, none⟩) hr).trans h.c4, (hb.cell (p := ⟨r, 5, none⟩) hr).trans h.c5, (hb.cell (p := ⟨r, 6, none⟩) hr).trans h.c6, (hb.cell (p := ⟨r, 7, none⟩) hr).trans h.c7, (hb.frozen (p := ⟨r, 0, none⟩) hr).trans h.f0, (hb.frozen (p := ⟨r, 1, none⟩) hr).trans h.f1, (hb.frozen (p := ⟨r, 2, none⟩) hr).trans h.f2, (hb.frozen (p := ⟨r, 3, none⟩) hr).trans h.f3, (hb.frozen (p := ⟨r, 4, none⟩) hr).trans h.f4, (hb.frozen (p := ⟨r, 5, none⟩) hr).trans h.f5, (hb.frozen (p := ⟨r, 6, none⟩) hr).trans h.f6, (hb.frozen (p := ⟨r, 7, none⟩) hr).trans h.f7⟩
theorem Blk8.put {w : World} {r : Nat} {v0 v1 v2 v3 v4 v5 v6 v7 : Value} (h : Blk8 w r v0 v1 v2 v3 v4 v5 v6 v7) (u0 u1 u2 u3 u4 u5 u6 u7 : Value) : Blk8 ((((((((w.setCell ⟨r, 0, none⟩ u0).setCell ⟨r, 1, none⟩ u1).setCell ⟨r, 2, none⟩ u2).setCell ⟨r, 3, none⟩ u3).setCell ⟨r, 4, none⟩ u4).setCell ⟨r, 5, none⟩ u5).setCell ⟨r, 6, none⟩ u6).setCell ⟨r, 7, none⟩ u7) r u0 u1 u2 u3 u4 u5 u6 u7 := by
  obtain ⟨c0, c1, c2, c3, c4, c5, c6, c7, f0, f1, f2, f3, f4, f5, f6, f7⟩ := h
  constructor <;> simp [World.cell?_setCell_same', World.cell?_setCell_other, *]
theorem below_put8 {B r : Nat} {w0 w : World} (h : Below B w0 w) (hr : B ≤ r) (u0 u1 u2 u3 u4 u5 u6 u7 : Value) : Below B w0 ((((((((w.setCell ⟨r, 0, none⟩ u0).setCell ⟨r, 1, none⟩ u1).setCell ⟨r, 2, none⟩ u2).setCell ⟨r, 3, none⟩ u3).setCell ⟨r, 4, none⟩ u4).setCell ⟨r, 5, none⟩ u5).setCell ⟨r, 6, none⟩ u6).setCell ⟨r, 7, none⟩ u7) :=
  (((((((h.setCell hr _).setCell hr _).setCell hr _).setCell hr _).setCell hr _).setCell hr _).setCell hr _).setCell hr _
theorem load_row {w : World} {g : Nat} {v0 v1 v2 v3 v4 v5 v6 v7 : Value} (h : Blk8 w g v0 v1 v2 v3 v4 v5 v6 v7) : (loadVar 49 ⟨g, 0, none⟩).run Tryd.prog w = .ok (.agg #[v0, v1, v2, v3, v4, v5, v6, v7]) w := by
  obtain ⟨c0, c1, c2, c3, c4, c5, c6, c7, _, _, _, _, _, _, _, _⟩ := h
  simp [go_sem, c0, c1, c2, c3, c4, c5, c6, c7]
theorem ret_row {fn : Func} {p u : Tmp} {R : Ending → World → Prop} {a : Act} {w : World} {g : Nat} {v0 v1 v2 v3 v4 v5 v6 v7 : Value} (h : fn.results = #[.cell p 49, .tmp u])
    (hp : a.tmps.getD p undef = .pointer (some ⟨g, 0, none⟩)) (hQ : Blk8 w g v0 v1 v2 v3 v4 v5 v6 v7) (hd : a.defers = []) (hR : R (.returned (.tuple #[.agg #[v0, v1, v2, v3, v4, v5, v6, v7], a.tmps.getD u undef])) w) : bodyPost Tryd.prog fn R .ret a w := by
  refine bodyPost_ret (v := .tuple #[.agg #[v0, v1, v2, v3, v4, v5, v6, v7], a.tmps.getD u undef]) ?_ hd hR
  rw [results_cell_tmp h, hp]
  simp [asAddr, Result.andThen, load_row hQ]
theorem scStart (w : World) (Z : Obj) (ty ts : TypeId) (ws : List (List UInt8)) (hn : ws.length ≤ 16777218) (w1 : World) (hw1 : w1 = (w.alloc Z).alloc (.cells (strs ws).toArray ts)) :
    ScAt (w1.alloc (.cells #[.slice (some ⟨w.heap.size + 1, 0, none⟩) ws.length ws.length, .bool true] ty)) w1.heap.size (some ⟨w.heap.size + 1, 0, none⟩) ws.length ws true ∧ w1.heap.size = w.heap.size + 2 ∧ Below (w.heap.size + 1) (w.alloc Z) (w1.alloc (.cells #[.slice (some ⟨w.heap.size + 1, 0, none⟩) ws.length ws.length, .bool true] ty)) := by
  have hz : w1.heap.size = w.heap.size + 2 := by rw [hw1]; simp
  have hz1 : (w.alloc Z).heap.size = w.heap.size + 1 := by simp
  have B1 : Below (w.heap.size + 1) (w.alloc Z) w1 := by rw [hw1]; exact (Below.refl _ _).alloc (by simp) _
  have B2 := (Below.refl w1.heap.size w1).alloc (Nat.le_refl _) (.cells #[.slice (some ⟨w.heap.size + 1, 0, none⟩) ws.length ws.length, .bool true] ty)
  refine ⟨⟨?_, ?_, ?_, ?_, ?_, ⟨Nat.le_refl _, by omega⟩, fun _ => ⟨_, _, rfl, by omega, ?_⟩⟩, hz, B1.trans (B2.mono (by omega))⟩
  · rw [World.cell?_alloc_at _ _ _ _ rfl]; rfl
  · rw [World.cell?_alloc_at _ _ _ _ rfl]; rfl
  · simp
  · simp
  · simp
  · have C : CellsAt w1 (w.heap.size + 1) 0 (strs ws) := by
      intro k u hu
      rw [hw1, Nat.zero_add, ← hz1, World.cell?_alloc_at _ _ _ _ rfl]
      simpa using hu
    exact C.below B2 (by omega)
theorem Blk8.putBox {w : World} {r : Nat} {v0 v1 v2 v3 v4 v5 v6 v7 : Value} (h : Blk8 w r v0 v1 v2 v3 v4 v5 v6 v7) (u0 u1 u2 u3 u4 u5 : Value) : Blk8 ((((((w.setCell ⟨r, 2, none⟩ u0).setCell ⟨r, 3, none⟩ u1).setCell ⟨r, 4, none⟩ u2).setCell ⟨r, 5, none⟩ u3).setCell ⟨r, 6, none⟩ u4).setCell ⟨r, 7, none⟩ u5) r v0 v1 u0 u1 u2 u3 u4 u5 := by
  obtain ⟨c0, c1, c2, c3, c4, c5, c6, c7, f0, f1, f2, f3, f4, f5, f6, f7⟩ := h
  constructor <;> simp [World.cell?_setCell_same', World.cell?_setCell_other, *]
theorem below_putBox {B r : Nat} {w0 w : World} (h : Below B w0 w) (hr : B ≤ r) (u0 u1 u2 u3 u4 u5 : Value) : Below B w0 ((((((w.setCell ⟨r, 2, none⟩ u0).setCell ⟨r, 3, none⟩ u1).setCell ⟨r, 4, none⟩ u2).setCell ⟨r, 5, none⟩ u3).setCell ⟨r, 6, none⟩ u4).setCell ⟨r, 7, none⟩ u5) :=
  (((((h.setCell hr _).setCell hr _).setCell hr _).setCell hr _).setCell hr _).setCell hr _
theorem Blk8.drew {w : World} {r : Nat} {v0 v1 v2 v3 v4 v5 v6 v7 : Value} (h : Blk8 w r v0 v1 v2 v3 v4 v5 v6 v7) : Blk8 w.drew r v0 v1 v2 v3 v4 v5 v6 v7 :=
  ⟨h.c0, h.c1, h.c2, h.c3, h.c4, h.c5, h.c6, h.c7, h.f0, h.f1, h.f2, h.f3, h.f4, h.f5, h.f6, h.f7⟩
def zeroRow : RowP := ⟨0, [], zeroBox⟩
/-- a line's row, and whether it is one. -/
def tagOf (x : List UInt8) : List UInt8 := if x = [34] then [] else x
def rowHead (t : List UInt8) : Int × (List (List UInt8) × Bool) := nx (splitW t, true)
def rowTag (t : List UInt8) : List UInt8 × (List (List UInt8) × Bool) := wx (rowHead t).2
def rowBox (t : List UInt8) : BoxP × (List (List UInt8) × Bool) := boxOf (decide (tagOf (rowTag t).1 = [])) (rowTag t).2
def rowGot (t : List UInt8) : RowP := ⟨(rowHead t).1, tagOf (rowTag t).1, (rowBox t).1⟩
def rowOf (t : List UInt8) : RowP × Bool :=
  if (rowTag t).1 = [] then (zeroRow, false)
  else (rowGot t, (rowBox t).2.2 && decide ((rowBox t).2.1.length = 0) && rightR (rowGot t))
set_option maxRecDepth 100000 in
set_option maxHeartbeats 2000000 in
theorem row_notag (t : List UInt8) (w : World) (hg : Gl w) (hs : t.length ≤ 16777216) (ht : (rowTag t).1 = []) :
    Calls Tryd.prog 24 #[.string (bs t)] w fun e w' => e = .returned (.tuple #[rowV zeroRow, .bool false]) ∧ Below w.heap.size w w' := by
  have hA := (Below.refl w.heap.size w).alloc (Nat.le_refl _) (.cells #[.int .i64 0, .string ⟨#[]⟩, .bool false, .int .i64 0, .int .i64 0, .int .i64 0, .int .i64 0, .int .i64 0] 49)
  have SP := Lib.hid (split_any t _ (hg.below hA) hs)
  have hl := splitW_le t hs
  have R0 := Lib.hid (Blk8.new w 49 (.int .i64 0) (.string ⟨#[]⟩) (.bool false) (.int .i64 0) (.int .i64 0) (.int .i64 0) (.int .i64 0) (.int .i64 0))
  have HA := Lib.hid hA
  unfold rowTag rowHead at ht
  generalize splitW t = ws at *
  obtain ⟨G, hG⟩ : ∃ G, G = (wx (nx (ws, true)).2).2 := ⟨_, rfl⟩
  have HD := Lib.hid (show wx (nx (ws, true)).2 = ([], G) by rw [hG, ← ht])
  clear hG ht
  clear hA
  go_enter Tryd.func24, Tryd.ntmps24
  go_wp2_with fail
  refine SP.out.mono ?_
  rintro e w1 ⟨rfl, hw1⟩
  have ST := fun ty => scStart w _ ty _ ws hl w1 hw1
  have HST := Lib.hid ST
  have HZ1 := Lib.hid (ST 0).2.1
  clear hw1 ST
  go_wp2_with fail
  have hz1 := HZ1.out
  obtain ⟨S2, hzz, B2⟩ := HST.out 87
  clear hzz
  have hg0 : w1.heap.size < (w1.alloc (.cells #[.slice (some ⟨w.heap.size + 1, 0, none⟩) ws.length ws.length, .bool true] 87)).heap.size := by simp
  have N2 := Lib.hid (nx_any _ _ _ (ws, true) _ S2)
  have R2 := Lib.hid (R0.out.below B2 (by omega))
  have HB2 := Lib.hid (HA.out.trans (B2.mono (by omega)))
  clear S2 B2
  generalize hW2 : w1.alloc (.cells #[.slice (some ⟨w.heap.size + 1, 0, none⟩) ws.length ws.length, .bool true] 87) = w2 at *
  generalize hgg : w1.heap.size = g at *
  have hr1 : w.heap.size < g := by omega
  have hr2 : w.heap.size ≠ g := by omega
  clear hW2 HST HZ1 hgg hz1
  refine N2.out.mono ?_
  rintro e w3 ⟨rfl, ⟨a3, k3, s3⟩, hb⟩
  have R3 := Lib.hid (R2.out.but hb (by omega) (by omega))
  have HB3 := Lib.hid (HB2.out.trans (hb.bel.mono (by omega)))
  have hg3 : g < w3.heap.size := s3.hg
  have N3 := wx_any _ _ _ _ _ s3
  rw [HD.out] at N3
  have N4 := Lib.hid N3
  clear hb s3 N3 R2
  go_wp2_with fail
  refine N4.out.mono ?_
  rintro e w4 ⟨rfl, ⟨a4, k4, s4⟩, hb⟩
  have R4 := Lib.hid (R3.out.but hb (by omega) (by omega))
  have HB4 := Lib.hid (HB3.out.trans (hb.bel.mono (by omega)))
  have hg4 : g < w4.heap.size := s4.hg
  have S4 := Lib.hid s4
  clear hb s4 R3
  rw [show bs ([], G).1 = ⟨#[]⟩ from rfl]
  have hr4 : w.heap.size < w4.heap.size := by omega
  have P3 := R4.out.put (.int .i64 0) (.string ⟨#[]⟩) (.bool false) (.int .i64 0) (.int .i64 0) (.int .i64 0) (.int .i64 0) (.int .i64 0)
  have L3 := below_put8 (r := w.heap.size) HB4.out (Nat.le_refl _) (.int .i64 0) (.string ⟨#[]⟩) (.bool false) (.int .i64 0) (.int .i64 0) (.int .i64 0) (.int .i64 0) (.int .i64 0)
  have P4 := Lib.hid (fun o => P3.below ((Below.refl w4.heap.size _).alloc (by simp) o) hr4)
  have L4 := Lib.hid (fun o => L3.alloc (by have := L3.size; omega) o)
  clear P3 L3
  obtain ⟨r0, r1, r2, r3, r4, r5, r6, r7, q0, q1, q2, q3, q4, q5, q6, q7⟩ := R4.out
  clear R4
  go_wp2_with fail
  exact ret_row rfl rfl (P4.out _) rfl ⟨rfl, L4.out _⟩
set_option maxRecDepth 100000 in
set_option maxHeartbeats 2000000 in
theorem row_other (t : List UInt8) (w : World) (hg : Gl w) (hs : t.length ≤ 16777216) (X : List UInt8) (hX : (rowTag t).1 = X) (hX0 : X ≠ []) (hX1 : X ≠ [34]) :
    Calls Tryd.prog 24 #[.string (bs t)] w fun e w' => e = .returned (.tuple #[rowV (rowOf t).1, .bool (rowOf t).2]) ∧ Below w.heap.size w w' := by
  have hA := (Below.refl w.heap.size w).alloc (Nat.le_refl _) (.cells #[.int .i64 0, .string ⟨#[]⟩, .bool false, .int .i64 0, .int .i64 0, .int .i64 0, .int .i64 0, .int .i64 0] 49)
  have SP := Lib.hid (split_any t _ (hg.below hA) hs)
  have hl := splitW_le t hs
  have R0 := Lib.hid (Blk8.new w 49 (.int .i64 0) (.string ⟨#[]⟩) (.bool false) (.int .i64 0) (.int .i64 0) (.int .i64 0) (.int .i64 0) (.int .i64 0))
  have HA := Lib.hid hA
  have RO : rowOf t = (rowGot t, (rowBox t).2.2 && decide ((rowBox t).2.1.length = 0) && rightR (rowGot t)) := by unfold rowOf; rw [if_neg (by rw [hX]; exact hX0)]
  have HRO := Lib.hid RO
  have BX := Lib.hid (show rowBox t = boxOf false (rowTag t).2 by unfold rowBox tagOf; rw [hX, if_neg hX1, decide_eq_false hX0])
  have HRG := Lib.hid (show rowGot t = ⟨(rowHead t).1, X, (rowBox t).1⟩ by unfold rowGot tagOf; rw [hX, if_neg hX1])
  obtain ⟨e1, e2, e3⟩ := nonempty_of' _ hX0
  have e4 : ((bs X).toList == ([34] : List UInt8)) = false := by rw [Lib.toList_data, bs_data]; simpa using hX1
  have e5 : ¬ (bs X).toList = [34] := by rw [Lib.toList_data, bs_data]; exact hX1
  generalize hG : (rowTag t).2 = G at *
  have HD := Lib.hid (show wx (nx (splitW t, true)).2 = (X, G) by rw [← hX, ← hG]; rfl)
  have HH := Lib.hid (show (nx (splitW t, true)).1 = (rowHead t).1 from rfl)
  generalize splitW t = ws at *
  clear RO hX0 hX1 hX hG
  clear hA
  go_enter Tryd.func24, Tryd.ntmps24
  go_wp2_with fail
  refine SP.out.mono ?_
  rintro e w1 ⟨rfl, hw1⟩
  have ST := fun ty => scStart w _ ty _ ws hl w1 hw1
  have HST := Lib.hid ST
  have HZ1 := Lib.hid (ST 0).2.1
  clear hw1 ST
  go_wp2_with fail
  have hz1 := HZ1.out
  obtain ⟨S2, hzz, B2⟩ := HST.out 87
  clear hzz
  have hg0 : w1.heap.size < (w1.alloc (.cells #[.slice (some ⟨w.heap.size + 1, 0, none⟩) ws.length ws.length, .bool true] 87)).heap.size := by simp
  have N2 := Lib.hid (nx_any _ _ _ (ws, true) _ S2)
  have R2 := Lib.hid (R0.out.below B2 (by omega))
  have HB2 := Lib.hid (HA.out.trans (B2.mono (by omega)))
  clear S2 B2
  generalize hW2 : w1.alloc (.cells #[.slice (some ⟨w.heap.size + 1, 0, none⟩) ws.length ws.length, .bool true] 87) = w2 at *
  generalize hgg : w1.heap.size = g at *
  have hr1 : w.heap.size < g := by omega
  have hr2 : w.heap.size ≠ g := by omega
  clear hW2 HST HZ1 hgg hz1
  refine N2.out.mono ?_
  rintro e w3 ⟨rfl, ⟨a3, k3, s3⟩, hb⟩
  have R3 := Lib.hid (R2.out.but hb (by omega) (by omega))
  have HB3 := Lib.hid (HB2.out.trans (hb.bel.mono (by omega)))
  have hg3 : g < w3.heap.size := s3.hg
  have N3 := wx_any _ _ _ _ _ s3
  rw [HD.out] at N3
  have N4 := Lib.hid N3
  clear hb s3 N3 R2
  go_wp2_with fail
  refine N4.out.mono ?_
  rintro e w4 ⟨rfl, ⟨a4, k4, s4⟩, hb⟩
  have R4 := Lib.hid (R3.out.but hb (by omega) (by omega))
  have HB4 := Lib.hid (HB3.out.trans (hb.bel.mono (by omega)))
  have hg4 : g < w4.heap.size := s4.hg
  have S4 := Lib.hid s4
  clear hb s4 R3
  rw [HH.out]
  have hr4 : w.heap.size < w4.heap.size := by omega
  have hA4 := (Below.refl w4.heap.size w4).alloc (Nat.le_refl _) (.cells #[.int .i64 (rowHead t).1, .string (bs X), .bool false, .int .i64 0, .int .i64 0, .int .i64 0, .int .i64 0, .int .i64 0] 49)
  have hz4 : (w4.alloc (.cells #[.int .i64 (rowHead t).1, .string (bs X), .bool false, .int .i64 0, .int .i64 0, .int .i64 0, .int .i64 0, .int .i64 0] 49)).heap.size = w4.heap.size + 1 := by simp
  have X4 := Lib.hid (Blk8.new w4 49 (.int .i64 (rowHead t).1) (.string (bs X)) (.bool false) (.int .i64 0) (.int .i64 0) (.int .i64 0) (.int .i64 0) (.int .i64 0))
  have R5 := Lib.hid (R4.out.below hA4 hr4)
  have HB5 := Lib.hid (HB4.out.trans (hA4.mono (Nat.le_of_lt hr4)))
  have BXX := scBox_any g a4 k4 G false _ (S4.out.below hA4)
  rw [← BX.out] at BXX
  have HBX := Lib.hid BXX
  have HZ4 := Lib.hid hz4
  clear BXX hA4 hz4
  generalize rowBox t = BB at *
  obtain ⟨bx, rest5, ok5⟩ := BB
  go_wp2_with fail
  refine HBX.out.mono ?_
  rintro e w5 ⟨rfl, ⟨a5, k5, s5⟩, hb⟩
  have hrr : w4.heap.size ≠ g := by omega
  have R6 := Lib.hid (R5.out.but hb (by have := HZ4.out; omega) (by omega))
  have X6 := Lib.hid (X4.out.but hb (by have := HZ4.out; omega) hrr)
  have HB6 := Lib.hid (HB5.out.trans (hb.bel.mono (by omega)))
  have hr5 : w4.heap.size < w5.heap.size := by have := hb.bel.size; have := HZ4.out; omega
  have hg5 : g < w5.heap.size := by omega
  have LB := below_putBox (Below.refl w4.heap.size w5) (Nat.le_refl _) (.bool bx.shown) (.int .i64 bx.x) (.int .i64 bx.y) (.int .i64 bx.w) (.int .i64 bx.h) (.int .i64 bx.lines)
  have X7 := Lib.hid (X6.out.putBox (.bool bx.shown) (.int .i64 bx.x) (.int .i64 bx.y) (.int .i64 bx.w) (.int .i64 bx.h) (.int .i64 bx.lines))
  have R7 := Lib.hid (R6.out.below LB hr4)
  have S7 := Lib.hid (s5.upto LB (show g < w4.heap.size by omega))
  have HB7 := Lib.hid (HB6.out.trans (LB.mono (Nat.le_of_lt hr4)))
  have HW7 := Lib.hid (show w4.heap.size < ((((((w5.setCell ⟨w4.heap.size, 2, none⟩ (.bool bx.shown)).setCell ⟨w4.heap.size, 3, none⟩ (.int .i64 bx.x)).setCell ⟨w4.heap.size, 4, none⟩ (.int .i64 bx.y)).setCell ⟨w4.heap.size, 5, none⟩ (.int .i64 bx.w)).setCell ⟨w4.heap.size, 6, none⟩ (.int .i64 bx.h)).setCell ⟨w4.heap.size, 7, none⟩ (.int .i64 bx.lines)).heap.size by simpa using hr5)
  obtain ⟨x0, x1, x2, x3, x4, x5, x6, x7, y0, y1, y2, y3, y4, y5, y6, y7⟩ := X6.out
  clear hb X4 R5 HBX s5 LB
  unfold boxV
  go_wp2_with fail
  generalize hWW : ((((((w5.setCell ⟨w4.heap.size, 2, none⟩ (.bool bx.shown)).setCell ⟨w4.heap.size, 3, none⟩ (.int .i64 bx.x)).setCell ⟨w4.heap.size, 4, none⟩ (.int .i64 bx.y)).setCell ⟨w4.heap.size, 5, none⟩ (.int .i64 bx.w)).setCell ⟨w4.heap.size, 6, none⟩ (.int .i64 bx.h)).setCell ⟨w4.heap.size, 7, none⟩ (.int .i64 bx.lines)) = W at *
  have hr7 := HW7.out
  clear hWW x0 x1 x2 x3 x4 x5 x6 x7 y0 y1 y2 y3 y4 y5 y6 y7 X6 R6 HB6
  obtain ⟨t0, t1, t2, t3, t4, _, _⟩ := S7.out
  obtain ⟨x0, x1, x2, x3, x4, x5, x6, x7, _, _, _, _, _, _, _, _⟩ := X7.out
  obtain ⟨r0, r1, r2, r3, r4, r5, r6, r7, q0, q1, q2, q3, q4, q5, q6, q7⟩ := R7.out
  have P8 := Lib.hid (R7.out.put (.int .i64 (rowHead t).1) (.string (bs X)) (.bool bx.shown) (.int .i64 bx.x) (.int .i64 bx.y) (.int .i64 bx.w) (.int .i64 bx.h) (.int .i64 bx.lines))
  have L8 := Lib.hid (below_put8 (r := w.heap.size) HB7.out (Nat.le_refl _) (.int .i64 (rowHead t).1) (.string (bs X)) (.bool bx.shown) (.int .i64 bx.x) (.int .i64 bx.y) (.int .i64 bx.w) (.int .i64 bx.h) (.int .i64 bx.lines))
  cases ok5
  · go_region
    go_wp2
    exact ret_row rfl rfl P8.out.drew rfl ⟨by rw [HRO.out, HRG.out]; rfl, L8.out.drew⟩
  · by_cases hn : rest5.length = 0
    · have HN := Lib.hid hn
      rw [hn] at t0
      have RT := fun ww => dright_any ⟨(rowHead t).1, X, bx⟩ ww
      unfold rowV at RT
      simp only at RT
      have HRT := Lib.hid RT
      clear RT hn P8 L8
      go_region_with ((go_at_call 17; refine (HRT.out _).mono ?_; rintro e w8 ⟨rfl, hb8⟩; have X8 := X7.out.drew.below hb8 (by exact hr7); have R8 := R7.out.drew.below hb8 (by exact Nat.lt_trans hr4 hr7); have HB8 := Lib.hid (HB7.out.drew.trans (hb8.mono (by exact HB7.out.size))); have HR8 := Lib.hid R8; obtain ⟨a0, a1, a2, a3, a4', a5', a6, a7, _, _, _, _, _, _, _, _⟩ := X8; obtain ⟨b0, b1, b2, b3, b4, b5, b6, b7, c0', c1', c2', c3', c4', c5', c6', c7'⟩ := R8; clear hb8))
      all_goals
        have P9 := HR8.out.put (.int .i64 (rowHead t).1) (.string (bs X)) (.bool bx.shown) (.int .i64 bx.x) (.int .i64 bx.y) (.int .i64 bx.w) (.int .i64 bx.h) (.int .i64 bx.lines)
        have L9 := below_put8 (r := w.heap.size) HB8.out (Nat.le_refl _) (.int .i64 (rowHead t).1) (.string (bs X)) (.bool bx.shown) (.int .i64 bx.x) (.int .i64 bx.y) (.int .i64 bx.w) (.int .i64 bx.h) (.int .i64 bx.lines)
        have HP9 := Lib.hid P9
        have HL9 := Lib.hid L9
        clear P9 L9
        go_wp2
        exact ret_row rfl rfl HP9.out rfl ⟨by rw [HRO.out, HRG.out, decide_eq_true HN.out]; rfl, HL9.out⟩
    · have hnz : ((rest5.length : Int) == 0) = false := beq_eq_false_iff_ne.2 (by omega)
      have HN := Lib.hid hn
      clear hn
      go_region
      go_wp2
      exact ret_row rfl rfl P8.out.drew rfl ⟨by rw [HRO.out, HRG.out, decide_eq_false HN.out]; rfl, L8.out.drew⟩
set_option maxRecDepth 100000 in
set_option maxHeartbeats 2000000 in
theorem row_quote (t : List UInt8) (w : World) (hg : Gl w) (hs : t.length ≤ 16777216) (hX : (rowTag t).1 = [34]) :
    Calls Tryd.prog 24 #[.string (bs t)] w fun e w' => e = .returned (.tuple #[rowV (rowOf t).1, .bool (rowOf t).2]) ∧ Below w.heap.size w w' := by
  have hA := (Below.refl w.heap.size w).alloc (Nat.le_refl _) (.cells #[.int .i64 0, .string ⟨#[]⟩, .bool false, .int .i64 0, .int .i64 0, .int .i64 0, .int .i64 0, .int .i64 0] 49)
  have SP := Lib.hid (split_any t _ (hg.below hA) hs)
  have hl := splitW_le t hs
  have R0 := Lib.hid (Blk8.new w 49 (.int .i64 0) (.string ⟨#[]⟩) (.bool false) (.int .i64 0) (.int .i64 0) (.int .i64 0) (.int .i64 0) (.int .i64 0))
  have HA := Lib.hid hA
  have RO : rowOf t = (rowGot t, (rowBox t).2.2 && decide ((rowBox t).2.1.length = 0) && rightR (rowGot t)) := by unfold rowOf; rw [if_neg (by rw [hX]; simp)]
  have HRO := Lib.hid RO
  have BX := Lib.hid (show rowBox t = boxOf true (rowTag t).2 by unfold rowBox tagOf; rw [hX, if_pos rfl]; rfl)
  have HRG := Lib.hid (show rowGot t = ⟨(rowHead t).1, [], (rowBox t).1⟩ by unfold rowGot tagOf; rw [hX, if_pos rfl])
  generalize hG : (rowTag t).2 = G at *
  have HD := Lib.hid (show wx (nx (splitW t, true)).2 = ([34], G) by rw [← hX, ← hG]; rfl)
  have HH := Lib.hid (show (nx (splitW t, true)).1 = (rowHead t).1 from rfl)
  generalize splitW t = ws at *
  clear RO hX hG
  clear hA
  go_enter Tryd.func24, Tryd.ntmps24
  go_wp2_with fail
  refine SP.out.mono ?_
  rintro e w1 ⟨rfl, hw1⟩
  have ST := fun ty => scStart w _ ty _ ws hl w1 hw1
  have HST := Lib.hid ST
  have HZ1 := Lib.hid (ST 0).2.1
  clear hw1 ST
  go_wp2_with fail
  have hz1 := HZ1.out
  obtain ⟨S2, hzz, B2⟩ := HST.out 87
  clear hzz
  have hg0 : w1.heap.size < (w1.alloc (.cells #[.slice (some ⟨w.heap.size + 1, 0, none⟩) ws.length ws.length, .bool true] 87)).heap.size := by simp
  have N2 := Lib.hid (nx_any _ _ _ (ws, true) _ S2)
  have R2 := Lib.hid (R0.out.below B2 (by omega))
  have HB2 := Lib.hid (HA.out.trans (B2.mono (by omega)))
  clear S2 B2
  generalize hW2 : w1.alloc (.cells #[.slice (some ⟨w.heap.size + 1, 0, none⟩) ws.length ws.length, .bool true] 87) = w2 at *
  generalize hgg : w1.heap.size = g at *
  have hr1 : w.heap.size < g := by omega
  have hr2 : w.heap.size ≠ g := by omega
  clear hW2 HST HZ1 hgg hz1
  refine N2.out.mono ?_
  rintro e w3 ⟨rfl, ⟨a3, k3, s3⟩, hb⟩
  have R3 := Lib.hid (R2.out.but hb (by omega) (by omega))
  have HB3 := Lib.hid (HB2.out.trans (hb.bel.mono (by omega)))
  have hg3 : g < w3.heap.size := s3.hg
  have N3 := wx_any _ _ _ _ _ s3
  rw [HD.out] at N3
  have N4 := Lib.hid N3
  clear hb s3 N3 R2
  go_wp2_with fail
  refine N4.out.mono ?_
  rintro e w4 ⟨rfl, ⟨a4, k4, s4⟩, hb⟩
  have R4 := Lib.hid (R3.out.but hb (by omega) (by omega))
  have HB4 := Lib.hid (HB3.out.trans (hb.bel.mono (by omega)))
  have hg4 : g < w4.heap.size := s4.hg
  have S4 := Lib.hid s4
  clear hb s4 R3
  rw [HH.out, show bs ([(34 : UInt8)], G).1 = ⟨#[34]⟩ from rfl]
  have hr4 : w.heap.size < w4.heap.size := by omega
  have hA4 := (Below.refl w4.heap.size w4).alloc (Nat.le_refl _) (.cells #[.int .i64 (rowHead t).1, .string ⟨#[]⟩, .bool false, .int .i64 0, .int .i64 0, .int .i64 0, .int .i64 0, .int .i64 0] 49)
  have hz4 : (w4.alloc (.cells #[.int .i64 (rowHead t).1, .string ⟨#[]⟩, .bool false, .int .i64 0, .int .i64 0, .int .i64 0, .int .i64 0, .int .i64 0] 49)).heap.size = w4.heap.size + 1 := by simp
  have X4 := Lib.hid (Blk8.new w4 49 (.int .i64 (rowHead t).1) (.string ⟨#[]⟩) (.bool false) (.int .i64 0) (.int .i64 0) (.int .i64 0) (.int .i64 0) (.int .i64 0))
  have R5 := Lib.hid (R4.out.below hA4 hr4)
  have HB5 := Lib.hid (HB4.out.trans (hA4.mono (Nat.le_of_lt hr4)))
  have BXX := scBox_any g a4 k4 G true _ (S4.out.below hA4)
  rw [← BX.out] at BXX
  have HBX := Lib.hid BXX
  have HZ4 := Lib.hid hz4
  clear BXX hA4 hz4
  generalize rowBox t = BB at *
  obtain ⟨bx, rest5, ok5⟩ := BB
  go_wp2_with fail
  refine HBX.out.mono ?_
  rintro e w5 ⟨rfl, ⟨a5, k5, s5⟩, hb⟩
  have hrr : w4.heap.size ≠ g := by omega
  have R6 := Lib.hid (R5.out.but hb (by have := HZ4.out; omega) (by omega))
  have X6 := Lib.hid (X4.out.but hb (by have := HZ4.out; omega) hrr)
  have HB6 := Lib.hid (HB5.out.trans (hb.bel.mono (by omega)))
  have hr5 : w4.heap.size < w5.heap.size := by have := hb.bel.size; have := HZ4.out; omega
  have hg5 : g < w5.heap.size := by omega
  have LB := below_putBox (Below.refl w4.heap.size w5) (Nat.le_refl _) (.bool bx.shown) (.int .i64 bx.x) (.int .i64 bx.y) (.int .i64 bx.w) (.int .i64 bx.h) (.int .i64 bx.lines)
  have X7 := Lib.hid (X6.out.putBox (.bool bx.shown) (.int .i64 bx.x) (.int .i64 bx.y) (.int .i64 bx.w) (.int .i64 bx.h) (.int .i64 bx.lines))
  have R7 := Lib.hid (R6.out.below LB hr4)
  have S7 := Lib.hid (s5.upto LB (show g < w4.heap.size by omega))
  have HB7 := Lib.hid (HB6.out.trans (LB.mono (Nat.le_of_lt hr4)))
  have HW7 := Lib.hid (show w4.heap.size < ((((((w5.setCell ⟨w4.heap.size, 2, none⟩ (.bool bx.shown)).setCell ⟨w4.heap.size, 3, none⟩ (.int .i64 bx.x)).setCell ⟨w4.heap.size, 4, none⟩ (.int .i64 bx.y)).setCell ⟨w4.heap.size, 5, none⟩ (.int .i64 bx.w)).setCell ⟨w4.heap.size, 6, none⟩ (.int .i64 bx.h)).setCell ⟨w4.heap.size, 7, none⟩ (.int .i64 bx.lines)).heap.size by simpa using hr5)
  obtain ⟨x0, x1, x2, x3, x4, x5, x6, x7, y0, y1, y2, y3, y4, y5, y6, y7⟩ := X6.out
  clear hb X4 R5 HBX s5 LB
  unfold boxV
  go_wp2_with fail
  generalize hWW : ((((((w5.setCell ⟨w4.heap.size, 2, none⟩ (.bool bx.shown)).setCell ⟨w4.heap.size, 3, none⟩ (.int .i64 bx.x)).setCell ⟨w4.heap.size, 4, none⟩ (.int .i64 bx.y)).setCell ⟨w4.heap.size, 5, none⟩ (.int .i64 bx.w)).setCell ⟨w4.heap.size, 6, none⟩ (.int .i64 bx.h)).setCell ⟨w4.heap.size, 7, none⟩ (.int .i64 bx.lines)) = W at *
  have hr7 := HW7.out
  clear hWW x0 x1 x2 x3 x4 x5 x6 x7 y0 y1 y2 y3 y4 y5 y6 y7 X6 R6 HB6
  obtain ⟨t0, t1, t2, t3, t4, _, _⟩ := S7.out
  obtain ⟨x0, x1, x2, x3, x4, x5, x6, x7, _, _, _, _, _, _, _, _⟩ := X7.out
  obtain ⟨r0, r1, r2, r3, r4, r5, r6, r7, q0, q1, q2, q3, q4, q5, q6, q7⟩ := R7.out
  have P8 := Lib.hid (R7.out.put (.int .i64 (rowHead t).1) (.string ⟨#[]⟩) (.bool bx.shown) (.int .i64 bx.x) (.int .i64 bx.y) (.int .i64 bx.w) (.int .i64 bx.h) (.int .i64 bx.lines))
  have L8 := Lib.hid (below_put8 (r := w.heap.size) HB7.out (Nat.le_refl _) (.int .i64 (rowHead t).1) (.string ⟨#[]⟩) (.bool bx.shown) (.int .i64 bx.x) (.int .i64 bx.y) (.int .i64 bx.w) (.int .i64 bx.h) (.int .i64 bx.lines))
  cases ok5
  · go_region
    go_wp2
    exact ret_row rfl rfl P8.out.drew rfl ⟨by rw [HRO.out, HRG.out]; rfl, L8.out.drew⟩
  · by_cases hn : rest5.length = 0
    · have HN := Lib.hid hn
      rw [hn] at t0
      have RT := fun ww => dright_any ⟨(rowHead t).1, [], bx⟩ ww
      unfold rowV at RT
      simp only at RT
      rw [show bs [] = ⟨#[]⟩ from rfl] at RT
      have HRT := Lib.hid RT
      clear RT hn P8 L8
      go_region_with ((go_at_call 17; refine (HRT.out _).mono ?_; rintro e w8 ⟨rfl, hb8⟩; have X8 := X7.out.drew.below hb8 (by exact hr7); have R8 := R7.out.drew.below hb8 (by exact Nat.lt_trans hr4 hr7); have HB8 := Lib.hid (HB7.out.drew.trans (hb8.mono (by exact HB7.out.size))); have HR8 := Lib.hid R8; obtain ⟨a0, a1, a2, a3, a4', a5', a6, a7, _, _, _, _, _, _, _, _⟩ := X8; obtain ⟨b0, b1, b2, b3, b4, b5, b6, b7, c0', c1', c2', c3', c4', c5', c6', c7'⟩ := R8; clear hb8))
      all_goals
        have P9 := HR8.out.put (.int .i64 (rowHead t).1) (.string ⟨#[]⟩) (.bool bx.shown) (.int .i64 bx.x) (.int .i64 bx.y) (.int .i64 bx.w) (.int .i64 bx.h) (.int .i64 bx.lines)
        have L9 := below_put8 (r := w.heap.size) HB8.out (Nat.le_refl _) (.int .i64 (rowHead t).1) (.string ⟨#[]⟩) (.bool bx.shown) (.int .i64 bx.x) (.int .i64 bx.y) (.int .i64 bx.w) (.int .i64 bx.h) (.int .i64 bx.lines)
        have HP9 := Lib.hid P9
        have HL9 := Lib.hid L9
        clear P9 L9
        go_wp2
        exact ret_row rfl rfl HP9.out rfl ⟨by rw [HRO.out, HRG.out, decide_eq_true HN.out]; rfl, HL9.out⟩
    · have hnz : ((rest5.length : Int) == 0) = false := beq_eq_false_iff_ne.2 (by omega)
      have HN := Lib.hid hn
      clear hn
      go_region
      go_wp2
      exact ret_row rfl rfl P8.out.drew rfl ⟨by rw [HRO.out, HRG.out, decide_eq_false HN.out]; rfl, L8.out.drew⟩
theorem dumpRow_any (t : List UInt8) (w : World) (hg : Gl w) (hs : t.length ≤ 16777216) :
    Calls Tryd.prog 24 #[.string (bs t)] w fun e w' => e = .returned (.tuple #[rowV (rowOf t).1, .bool (rowOf t).2]) ∧ Below w.heap.size w w' := by
  by_cases h0 : (rowTag t).1 = []
  · have e : rowOf t = (zeroRow, false) := by unfold rowOf; rw [if_pos h0]
    rw [e]; exact row_notag t w hg hs h0
  · by_cases h1 : (rowTag t).1 = [34]
    · exact row_quote t w hg hs h1
    · exact row_other t w hg hs _ rfl h0 h1
end Go.Proofs.YtcoaidpiignheaaDoor
