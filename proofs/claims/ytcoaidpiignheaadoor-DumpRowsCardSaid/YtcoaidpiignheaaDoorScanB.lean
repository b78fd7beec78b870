/-
  Walks of layer 29's scanner: box; a line's row.
-/
import Derived.Test.YtcoaidpiignheaaDoorScanA
import Derived.Test.YtcoaidpiignheaaDoorDumpB
namespace Go.Proofs.YtcoaidpiignheaaDoor
open Go.RowKit Wsc
/-- the next number of the words that are left. -/
def nx (s : List (List UInt8) × Bool) : Int × (List (List UInt8) × Bool) :=
  match s.1 with
  | [] => (0, ([], false))
  | x :: r => ((scanNum x).1, (r, s.2 && (scanNum x).2))
theorem nx_any (g : Nat) (a : Option Addr) (c : Nat) (s : List (List UInt8) × Bool) (w : World) (h : ScAt w g a c s.1 s.2) :
    Calls Tryd.prog 44 #[.pointer (some ⟨g, 0, none⟩)] w fun e w' => e = .returned (.int .i64 (nx s).1) ∧ (∃ a' c', ScAt w' g a' c' (nx s).2.1 (nx s).2.2) ∧ But g w w' := by
  obtain ⟨ws, ok⟩ := s
  cases ws with
  | nil => exact (scNum_none g a c ok w h).mono fun e w' ⟨h1, h2, h3⟩ => ⟨h1, ⟨_, _, h2⟩, h3⟩
  | cons x r => exact scNum_any g a c x r ok w h
theorem nx_bd (s : List (List UInt8) × Bool) : -1000000000000 < (nx s).1 ∧ (nx s).1 < 1000000000000 := by
  unfold nx
  split
  · simp
  · rename_i x r _
    simp only
    unfold scanNum
    split
    · simp
    · rename_i h1
      split
      · rename_i h2
        have := decL_12 (digL x) (by omega) h2
        unfold signL
        simp only
        split <;> omega
      · simp
/-- the box's block. -/
structure Blk6 (w : World) (r : Nat) (v0 v1 v2 v3 v4 v5 : Value) : Prop where
  c0 : w.cell? ⟨r, 0, none⟩ = some v0
  c1 : w.cell? ⟨r, 1, none⟩ = some v1
  c2 : w.cell? ⟨r, 2, none⟩ = some v2
  c3 : w.cell? ⟨r, 3, none⟩ = some v3
  c4 : w.cell? ⟨r, 4, none⟩ = some v4
  c5 : w.cell? ⟨r, 5, none⟩ = some v5
  f0 : w.frozen? ⟨r, 0, none⟩ = false
  f1 : w.frozen? ⟨r, 1, none⟩ = false
  f2 : w.frozen? ⟨r, 2, none⟩ = false
  f3 : w.frozen? ⟨r, 3, none⟩ = false
  f4 : w.frozen? ⟨r, 4, none⟩ = false
  f5 : w.frozen? ⟨r, 5, none⟩ = false
theorem Blk6.new (w : World) (t : TypeId) (v0 v1 v2 v3 v4 v5 : Value) : Blk6 (w.alloc (.cells #[v0, v1, v2, v3, v4, v5] t)) w.heap.size v0 v1 v2 v3 v4 v5 := by
  constructor <;> first | (rw [World.cell?_alloc_at _ _ _ _ rfl]; rfl) | simp
theorem Blk6.but {g : Nat} {w w' : World} {r : Nat} {v0 v1 v2 v3 v4 v5 : Value} (h : Blk6 w r v0 v1 v2 v3 v4 v5) (hb : But g w w') (hr : r < w.heap.size) (hne : r ≠ g) : Blk6 w' r v0 v1 v2 v3 v4 v5 :=
  ⟨(hb.cell hr hne).trans h.c0, (hb.cell hr hne).trans h.c1, (hb.cell hr hne).trans h.c2, (hb.cell hr hne).trans h.c3, (hb.cell hr hne).trans h.c4, (hb.cell hr hne).trans h.c5,
   (hb.frozen hr hne).trans h.f0, (hb.frozen hr hne).trans h.f1, (hb.frozen hr hne).trans h.f2, (hb.frozen hr hne).trans h.f3, (hb.frozen hr hne).trans h.f4, (hb.frozen hr hne).trans h.f5⟩
theorem Blk6.put {w : World} {r : Nat} {v0 v1 v2 v3 v4 v5 : Value} (h : Blk6 w r v0 v1 v2 v3 v4 v5) (u0 u1 u2 u3 u4 u5 : Value) :
    Blk6 ((((((w.setCell ⟨r, 0, none⟩ u0).setCell ⟨r, 1, none⟩ u1).setCell ⟨r, 2, none⟩ u2).setCell ⟨r, 3, none⟩ u3).setCell ⟨r, 4, none⟩ u4).setCell ⟨r, 5, none⟩ u5) r u0 u1 u2 u3 u4 u5 := by
  obtain ⟨c0, c1, c2, c3, c4, c5, f0, f1, f2, f3, f4, f5⟩ := h
  constructor <;> simp [World.cell?_setCell_same', World.cell?_setCell_other, *]
theorem Blk6.below {B : Nat} {w w' : World} {r : Nat} {v0 v1 v2 v3 v4 v5 : Value} (h : Blk6 w r v0 v1 v2 v3 v4 v5) (hb : Below B w w') (hr : r < B) : Blk6 w' r v0 v1 v2 v3 v4 v5 :=
  ⟨(hb.cell (p := ⟨r, 0, none⟩) hr).trans h.c0, (hb.cell (p := ⟨r, 1, none⟩) hr).trans h.c1, (hb.cell (p := ⟨r, 2, none⟩) hr).trans h.c2, (hb.cell (p := ⟨r, 3, none⟩) hr).trans h.c3, (hb.cell (p := ⟨r, 4, none⟩) hr).trans h.c4, (hb.cell (p := ⟨r, 5, none⟩) hr).trans h.c5,
   (hb.frozen (p := ⟨r, 0, none⟩) hr).trans h.f0, (hb.frozen (p := ⟨r, 1, none⟩) hr).trans h.f1, (hb.frozen (p := ⟨r, 2, none⟩) hr).trans h.f2, (hb.frozen (p := ⟨r, 3, none⟩) hr).trans h.f3, (hb.frozen (p := ⟨r, 4, none⟩) hr).trans h.f4, (hb.frozen (p := ⟨r, 5, none⟩) hr).trans h.f5⟩
theorem below_put6 {B r : Nat} {w0 w : World} (h : Below B w0 w) (hr : B ≤ r) (u0 u1 u2 u3 u4 u5 : Value) : Below B w0 ((((((w.setCell ⟨r, 0, none⟩ u0).setCell ⟨r, 1, none⟩ u1).setCell ⟨r, 2, none⟩ u2).setCell ⟨r, 3, none⟩ u3).setCell ⟨r, 4, none⟩ u4).setCell ⟨r, 5, none⟩ u5) :=
  (((((h.setCell hr _).setCell hr _).setCell hr _).setCell hr _).setCell hr _).setCell hr _
theorem load_box {w : World} {g : Nat} {v0 v1 v2 v3 v4 v5 : Value} (h : Blk6 w g v0 v1 v2 v3 v4 v5) : (loadVar 47 ⟨g, 0, none⟩).run Tryd.prog w = .ok (.agg #[v0, v1, v2, v3, v4, v5]) w := by
  obtain ⟨c0, c1, c2, c3, c4, c5, _, _, _, _, _, _⟩ := h
  simp [go_sem, c0, c1, c2, c3, c4, c5]
theorem ret_box {fn : Func} {p : Tmp} {R : Ending → World → Prop} {a : Act} {w : World} {g : Nat} {v0 v1 v2 v3 v4 v5 : Value} (h : fn.results = #[.cell p 47])
    (hp : a.tmps.getD p undef = .pointer (some ⟨g, 0, none⟩)) (hQ : Blk6 w g v0 v1 v2 v3 v4 v5) (hd : a.defers = []) (hR : R (.returned (.agg #[v0, v1, v2, v3, v4, v5])) w) : bodyPost Tryd.prog fn R .ret a w := by
  refine bodyPost_ret (v := .agg #[v0, v1, v2, v3, v4, v5]) ?_ hd hR
  have hp2 : a.tmps[p]?.getD undef = .pointer (some ⟨g, 0, none⟩) := by simpa using hp
  simp [results, h, asAddr, hp2, load_box hQ]
theorem scBox_dash (g : Nat) (a : Option Addr) (c : Nat) (s : List (List UInt8) × Bool) (wd : Bool) (w : World) (h : ScAt w g a c s.1 s.2) (hx : s.1 = [[45]]) :
    Calls Tryd.prog 46 #[.pointer (some ⟨g, 0, none⟩), .bool wd] w fun e w' => e = .returned (.agg #[.bool false, .int .i64 0, .int .i64 0, .int .i64 0, .int .i64 0, .int .i64 0]) ∧ (∃ a' c', ScAt w' g a' c' [] s.2) ∧ But g w w' := by
  have hA := (Below.refl w.heap.size w).alloc (Nat.le_refl _) (.cells #[.bool false, .int .i64 0, .int .i64 0, .int .i64 0, .int .i64 0, .int .i64 0] 47)
  have R0 := Lib.hid (Blk6.new w 47 (.bool false) (.int .i64 0) (.int .i64 0) (.int .i64 0) (.int .i64 0) (.int .i64 0))
  have HS0 := Lib.hid (h.below hA)
  have HB0 := Lib.hid (But.of hA (Nat.le_of_lt h.hg))
  obtain ⟨c0, c1, f0, f1, hg, hc, hw⟩ := h
  rw [hx] at c0 hc hw
  obtain ⟨bb, oo, rfl, hbb, hCC⟩ := hw (by simp)
  have hxc : w.cell? ⟨bb, oo, none⟩ = some (.string (bs [45])) := by have := strs_get hCC 0 (by simp); simpa using this
  rw [show bs [45] = ⟨#[45]⟩ from rfl] at hxc
  have hbw : bb < w.heap.size := Nat.lt_trans hbb hg
  rw [show ([[(45 : UInt8)]] : List (List UInt8)).length = 1 from rfl] at c0
  have hcx := Lib.hid hc
  clear hCC hc hw hA
  go_enter Tryd.func46, Tryd.ntmps46
  have P := scAt_put0 c0 c1 f0 f1 hg none 0 [] ⟨Nat.le_refl _, by omega⟩ (fun h => absurd h (by simp))
  have hz : (w.setCell ⟨g, 0, none⟩ (.slice none 0 0)).heap.size = w.heap.size := by simp
  have Q := Blk6.new (w.setCell ⟨g, 0, none⟩ (.slice none 0 0)) 47 (.bool false) (.int .i64 0) (.int .i64 0) (.int .i64 0) (.int .i64 0) (.int .i64 0)
  rw [hz] at Q
  have AL := (Below.refl (w.setCell ⟨g, 0, none⟩ (.slice none 0 0)).heap.size (w.setCell ⟨g, 0, none⟩ (.slice none 0 0))).alloc (Nat.le_refl _) (.cells #[.bool false, .int .i64 0, .int .i64 0, .int .i64 0, .int .i64 0, .int .i64 0] 47)
  have HQ := Lib.hid Q
  have HP := Lib.hid P
  have HAL := Lib.hid AL
  clear Q P AL hz
  go_wp2
  exact ret_box rfl rfl HQ.out rfl ⟨rfl, ⟨_, _, HP.out.1.below HAL.out⟩, HP.out.2.trans (But.of HAL.out (by simp; omega))⟩
set_option maxHeartbeats 1000000 in
theorem scBox_four (g : Nat) (a : Option Addr) (c : Nat) (s : List (List UInt8) × Bool) (w : World) (h : ScAt w g a c s.1 s.2) (h2 : s.1.length ≠ 1) :
    Calls Tryd.prog 46 #[.pointer (some ⟨g, 0, none⟩), .bool false] w fun e w' => e = .returned (.agg #[.bool true, .int .i64 (nx s).1, .int .i64 (nx (nx s).2).1, .int .i64 (nx (nx (nx s).2).2).1, .int .i64 (nx (nx (nx (nx s).2).2).2).1, .int .i64 0]) ∧ (∃ a' c', ScAt w' g a' c' (nx (nx (nx (nx s).2).2).2).2.1 (nx (nx (nx (nx s).2).2).2).2.2) ∧ But g w w' := by
  have hA := (Below.refl w.heap.size w).alloc (Nat.le_refl _) (.cells #[.bool false, .int .i64 0, .int .i64 0, .int .i64 0, .int .i64 0, .int .i64 0] 47)
  have hsz : (w.alloc (.cells #[.bool false, .int .i64 0, .int .i64 0, .int .i64 0, .int .i64 0, .int .i64 0] 47)).heap.size = w.heap.size + 1 := by simp
  have R0 := Blk6.new w 47 (.bool false) (.int .i64 0) (.int .i64 0) (.int .i64 0) (.int .i64 0) (.int .i64 0)
  have HS0 := h.below hA
  have N0 := nx_any g a c s _ HS0
  have HB0 := But.of hA (Nat.le_of_lt h.hg)
  obtain ⟨c0, c1, f0, f1, hg, hc, hw⟩ := h
  have hz : ((s.1.length : Int) == 1) = false := by simp; omega
  have hne : w.heap.size ≠ g := by omega
  have N02 := Lib.hid N0
  have HB02 := Lib.hid HB0
  have R02 := Lib.hid R0
  have HSZ := Lib.hid hsz
  generalize s.1.length = n at *
  clear N0 HB0 R0 HS0 hA hsz hw
  go_enter Tryd.func46, Tryd.ntmps46
  go_wp2_with fail
  refine N02.out.mono ?_
  rintro e w1 ⟨rfl, ⟨a1, k1, s1⟩, hb⟩
  have B1 := Lib.hid (HB02.out.trans hb)
  have R1 := Lib.hid (R02.out.but hb (by have := HSZ.out; omega) hne)
  have hs1 : w.heap.size < w1.heap.size := by have := hb.bel.size; have := HSZ.out; omega
  have HN1 := Lib.hid (nx_any g a1 k1 _ w1 s1)
  clear hb s1 c0 c1 f0 f1
  go_wp2_with fail
  refine HN1.out.mono ?_
  rintro e w2 ⟨rfl, ⟨a2, k2, s2⟩, hb⟩
  have B2 := Lib.hid (B1.out.trans hb)
  have R2 := Lib.hid (R1.out.but hb hs1 hne)
  have hs2 : w.heap.size < w2.heap.size := Nat.lt_of_lt_of_le hs1 hb.bel.size
  have HN2 := Lib.hid (nx_any g a2 k2 _ w2 s2)
  clear hb s2
  go_wp2_with fail
  refine HN2.out.mono ?_
  rintro e w3 ⟨rfl, ⟨a3, k3, s3⟩, hb⟩
  have B3 := Lib.hid (B2.out.trans hb)
  have R3 := Lib.hid (R2.out.but hb hs2 hne)
  have hs3 : w.heap.size < w3.heap.size := Nat.lt_of_lt_of_le hs2 hb.bel.size
  have HN3 := Lib.hid (nx_any g a3 k3 _ w3 s3)
  clear hb s3
  go_wp2_with fail
  refine HN3.out.mono ?_
  rintro e w4 ⟨rfl, ⟨a4, k4, s4⟩, hb⟩
  have B4 := Lib.hid (B3.out.trans hb)
  have R4 := R3.out.but hb hs3 hne
  have hs4 : w.heap.size < w4.heap.size := Nat.lt_of_lt_of_le hs3 hb.bel.size
  have S4 := Lib.hid s4
  have P6 := R4.put (.bool true) (.int .i64 (nx s).1) (.int .i64 (nx (nx s).2).1) (.int .i64 (nx (nx (nx s).2).2).1) (.int .i64 (nx (nx (nx (nx s).2).2).2).1) (.int .i64 0)
  have L6 := below_put6 (r := w.heap.size) (Below.refl w.heap.size w4) (Nat.le_refl _) (.bool true) (.int .i64 (nx s).1) (.int .i64 (nx (nx s).2).1) (.int .i64 (nx (nx (nx s).2).2).1) (.int .i64 (nx (nx (nx (nx s).2).2).2).1) (.int .i64 0)
  have A6 := fun o => (Below.refl w4.heap.size ((((((w4.setCell ⟨w.heap.size, 0, none⟩ (.bool true)).setCell ⟨w.heap.size, 1, none⟩ (.int .i64 (nx s).1)).setCell ⟨w.heap.size, 2, none⟩ (.int .i64 (nx (nx s).2).1)).setCell ⟨w.heap.size, 3, none⟩ (.int .i64 (nx (nx (nx s).2).2).1)).setCell ⟨w.heap.size, 4, none⟩ (.int .i64 (nx (nx (nx (nx s).2).2).2).1)).setCell ⟨w.heap.size, 5, none⟩ (.int .i64 0))).alloc (by simp) o
  have P7 := Lib.hid (fun o => P6.below (A6 o) hs4)
  have L7 := Lib.hid (fun o => L6.trans ((A6 o).mono (Nat.le_of_lt hs4)))
  clear P6 L6 A6
  obtain ⟨r0, r1, r2, r3, r4, r5, q0, q1, q2, q3, q4, q5⟩ := R4
  clear hb s4
  go_wp2_with fail
  exact ret_box rfl rfl (P7.out _) rfl ⟨rfl, ⟨_, _, S4.out.upto (L7.out _) hg⟩, B4.out.then (L7.out _) (Nat.le_of_lt hg)⟩
set_option maxHeartbeats 1000000 in
theorem scBox_five (g : Nat) (a : Option Addr) (c : Nat) (s : List (List UInt8) × Bool) (w : World) (h : ScAt w g a c s.1 s.2) (h2 : s.1.length ≠ 1) :
    Calls Tryd.prog 46 #[.pointer (some ⟨g, 0, none⟩), .bool true] w fun e w' => e = .returned (.agg #[.bool true, .int .i64 (nx s).1, .int .i64 (nx (nx s).2).1, .int .i64 (nx (nx (nx s).2).2).1, .int .i64 (nx (nx (nx (nx s).2).2).2).1, .int .i64 (nx (nx (nx (nx (nx s).2).2).2).2).1]) ∧ (∃ a' c', ScAt w' g a' c' (nx (nx (nx (nx (nx s).2).2).2).2).2.1 (nx (nx (nx (nx (nx s).2).2).2).2).2.2) ∧ But g w w' := by
  have hA := (Below.refl w.heap.size w).alloc (Nat.le_refl _) (.cells #[.bool false, .int .i64 0, .int .i64 0, .int .i64 0, .int .i64 0, .int .i64 0] 47)
  have hsz : (w.alloc (.cells #[.bool false, .int .i64 0, .int .i64 0, .int .i64 0, .int .i64 0, .int .i64 0] 47)).heap.size = w.heap.size + 1 := by simp
  have R0 := Blk6.new w 47 (.bool false) (.int .i64 0) (.int .i64 0) (.int .i64 0) (.int .i64 0) (.int .i64 0)
  have HS0 := h.below hA
  have N0 := nx_any g a c s _ HS0
  have HB0 := But.of hA (Nat.le_of_lt h.hg)
  obtain ⟨c0, c1, f0, f1, hg, hc, hw⟩ := h
  have hz : ((s.1.length : Int) == 1) = false := by simp; omega
  have hne : w.heap.size ≠ g := by omega
  have N02 := Lib.hid N0
  have HB02 := Lib.hid HB0
  have R02 := Lib.hid R0
  have HSZ := Lib.hid hsz
  generalize s.1.length = n at *
  clear N0 HB0 R0 HS0 hA hsz hw
  go_enter Tryd.func46, Tryd.ntmps46
  go_wp2_with fail
  refine N02.out.mono ?_
  rintro e w1 ⟨rfl, ⟨a1, k1, s1⟩, hb⟩
  have B1 := Lib.hid (HB02.out.trans hb)
  have R1 := Lib.hid (R02.out.but hb (by have := HSZ.out; omega) hne)
  have hs1 : w.heap.size < w1.heap.size := by have := hb.bel.size; have := HSZ.out; omega
  have HN1 := Lib.hid (nx_any g a1 k1 _ w1 s1)
  clear hb s1 c0 c1 f0 f1
  go_wp2_with fail
  refine HN1.out.mono ?_
  rintro e w2 ⟨rfl, ⟨a2, k2, s2⟩, hb⟩
  have B2 := Lib.hid (B1.out.trans hb)
  have R2 := Lib.hid (R1.out.but hb hs1 hne)
  have hs2 : w.heap.size < w2.heap.size := Nat.lt_of_lt_of_le hs1 hb.bel.size
  have HN2 := Lib.hid (nx_any g a2 k2 _ w2 s2)
  clear hb s2
  go_wp2_with fail
  refine HN2.out.mono ?_
  rintro e w3 ⟨rfl, ⟨a3, k3, s3⟩, hb⟩
  have B3 := Lib.hid (B2.out.trans hb)
  have R3 := Lib.hid (R2.out.but hb hs2 hne)
  have hs3 : w.heap.size < w3.heap.size := Nat.lt_of_lt_of_le hs2 hb.bel.size
  have HN3 := Lib.hid (nx_any g a3 k3 _ w3 s3)
  clear hb s3
  go_wp2_with fail
  refine HN3.out.mono ?_
  rintro e w4 ⟨rfl, ⟨a4, k4, s4⟩, hb⟩
  have B4 := Lib.hid (B3.out.trans hb)
  have R4 := R3.out.but hb hs3 hne
  have hs4 : w.heap.size < w4.heap.size := Nat.lt_of_lt_of_le hs3 hb.bel.size
  have S4 := Lib.hid s4
  have hA5 := (Below.refl w4.heap.size w4).alloc (Nat.le_refl _) (.cells #[.bool true, .int .i64 (nx s).1, .int .i64 (nx (nx s).2).1, .int .i64 (nx (nx (nx s).2).2).1, .int .i64 (nx (nx (nx (nx s).2).2).2).1, .int .i64 0] 47)
  have hz5 : (w4.alloc (.cells #[.bool true, .int .i64 (nx s).1, .int .i64 (nx (nx s).2).1, .int .i64 (nx (nx (nx s).2).2).1, .int .i64 (nx (nx (nx (nx s).2).2).2).1, .int .i64 0] 47)).heap.size = w4.heap.size + 1 := by simp
  have X5 := Blk6.new w4 47 (.bool true) (.int .i64 (nx s).1) (.int .i64 (nx (nx s).2).1) (.int .i64 (nx (nx (nx s).2).2).1) (.int .i64 (nx (nx (nx (nx s).2).2).2).1) (.int .i64 0)
  have R5 := R4.below hA5 hs4
  have S5 := s4.below hA5
  have N5 := Lib.hid (nx_any g a4 k4 _ _ S5)
  have B5 := Lib.hid (B4.out.trans (But.of hA5 (by omega)))
  have HR5 := Lib.hid R5
  have HX5 := Lib.hid X5
  have HZ5 := Lib.hid hz5
  clear hb s4 R4 hA5 hz5 X5 R5 S5
  go_wp2_with fail
  refine N5.out.mono ?_
  rintro e w5 ⟨rfl, ⟨a5, k5, s5⟩, hb⟩
  have hg4 : g < w4.heap.size := by omega
  have R6 := HR5.out.but hb (by have := HZ5.out; omega) hne
  have X6 := HX5.out.but hb (by have := HZ5.out; omega) (by omega)
  have B6 := Lib.hid (B5.out.trans hb)
  have hs5 : w4.heap.size < w5.heap.size := by have := hb.bel.size; have := HZ5.out; omega
  have S6 := Lib.hid s5
  have M0 := Below.setCell (p := ⟨w4.heap.size, 5, none⟩) (Below.refl w4.heap.size w5) (Nat.le_refl _) (.int .i64 (nx (nx (nx (nx (nx s).2).2).2).2).1)
  have P7 := Lib.hid ((R6.below M0 hs4).put (.bool true) (.int .i64 (nx s).1) (.int .i64 (nx (nx s).2).1) (.int .i64 (nx (nx (nx s).2).2).1) (.int .i64 (nx (nx (nx (nx s).2).2).2).1) (.int .i64 (nx (nx (nx (nx (nx s).2).2).2).2).1))
  have L7 := Lib.hid (below_put6 (r := w.heap.size) (M0.mono (Nat.le_of_lt hs4)) (Nat.le_refl _) (.bool true) (.int .i64 (nx s).1) (.int .i64 (nx (nx s).2).1) (.int .i64 (nx (nx (nx s).2).2).1) (.int .i64 (nx (nx (nx (nx s).2).2).2).1) (.int .i64 (nx (nx (nx (nx (nx s).2).2).2).2).1))
  clear M0
  obtain ⟨r0, r1, r2, r3, r4, r5, q0, q1, q2, q3, q4, q5⟩ := R6
  obtain ⟨x0, x1, x2, x3, x4, x5, y0, y1, y2, y3, y4, y5⟩ := X6
  have hrx : w.heap.size ≠ w4.heap.size := by omega
  clear hb s5
  go_wp2_with fail
  exact ret_box rfl rfl P7.out rfl ⟨rfl, ⟨_, _, S6.out.upto L7.out hg⟩, B6.out.then L7.out (Nat.le_of_lt hg)⟩
set_option maxHeartbeats 1000000 in
theorem scBox_four1 (g : Nat) (a : Option Addr) (c : Nat) (s : List (List UInt8) × Bool) (w : World) (h : ScAt w g a c s.1 s.2) (x : List UInt8) (hx : s.1 = [x]) (h2 : x ≠ [45]) :
    Calls Tryd.prog 46 #[.pointer (some ⟨g, 0, none⟩), .bool false] w fun e w' => e = .returned (.agg #[.bool true, .int .i64 (nx s).1, .int .i64 (nx (nx s).2).1, .int .i64 (nx (nx (nx s).2).2).1, .int .i64 (nx (nx (nx (nx s).2).2).2).1, .int .i64 0]) ∧ (∃ a' c', ScAt w' g a' c' (nx (nx (nx (nx s).2).2).2).2.1 (nx (nx (nx (nx s).2).2).2).2.2) ∧ But g w w' := by
  have hA := (Below.refl w.heap.size w).alloc (Nat.le_refl _) (.cells #[.bool false, .int .i64 0, .int .i64 0, .int .i64 0, .int .i64 0, .int .i64 0] 47)
  have hsz : (w.alloc (.cells #[.bool false, .int .i64 0, .int .i64 0, .int .i64 0, .int .i64 0, .int .i64 0] 47)).heap.size = w.heap.size + 1 := by simp
  have R0 := Blk6.new w 47 (.bool false) (.int .i64 0) (.int .i64 0) (.int .i64 0) (.int .i64 0) (.int .i64 0)
  have HS0 := h.below hA
  have N0 := nx_any g a c s _ HS0
  have HB0 := But.of hA (Nat.le_of_lt h.hg)
  obtain ⟨c0, c1, f0, f1, hg, hc, hw⟩ := h
  rw [hx] at c0 hc hw
  obtain ⟨bb, oo, rfl, hbb, hCC⟩ := hw (by simp)
  have hxc : w.cell? ⟨bb, oo, none⟩ = some (.string (bs x)) := by have := strs_get hCC 0 (by simp); simpa using this
  have hxe : ((bs x).toList == ([45] : List UInt8)) = false := by rw [Lib.toList_data, bs_data]; simpa using h2
  have hxe2 : ¬ (bs x).toList = [45] := by rw [Lib.toList_data, bs_data]; exact h2
  have hbw : bb < w.heap.size := Nat.lt_trans hbb hg
  rw [show [x].length = 1 from rfl] at c0
  have hcx := Lib.hid hc
  clear hCC hc hx h2
  have hne : w.heap.size ≠ g := by omega
  have N02 := Lib.hid N0
  have HB02 := Lib.hid HB0
  have R02 := Lib.hid R0
  have HSZ := Lib.hid hsz
  clear N0 HB0 R0 HS0 hA hsz
  go_enter Tryd.func46, Tryd.ntmps46
  go_wp2_with fail
  refine N02.out.mono ?_
  rintro e w1 ⟨rfl, ⟨a1, k1, s1⟩, hb⟩
  have B1 := Lib.hid (HB02.out.trans hb)
  have R1 := Lib.hid (R02.out.but hb (by have := HSZ.out; omega) hne)
  have hs1 : w.heap.size < w1.heap.size := by have := hb.bel.size; have := HSZ.out; omega
  have HN1 := Lib.hid (nx_any g a1 k1 _ w1 s1)
  clear hb s1 c0 c1 f0 f1 hxc
  go_wp2_with fail
  refine HN1.out.mono ?_
  rintro e w2 ⟨rfl, ⟨a2, k2, s2⟩, hb⟩
  have B2 := Lib.hid (B1.out.trans hb)
  have R2 := Lib.hid (R1.out.but hb hs1 hne)
  have hs2 : w.heap.size < w2.heap.size := Nat.lt_of_lt_of_le hs1 hb.bel.size
  have HN2 := Lib.hid (nx_any g a2 k2 _ w2 s2)
  clear hb s2
  go_wp2_with fail
  refine HN2.out.mono ?_
  rintro e w3 ⟨rfl, ⟨a3, k3, s3⟩, hb⟩
  have B3 := Lib.hid (B2.out.trans hb)
  have R3 := Lib.hid (R2.out.but hb hs2 hne)
  have hs3 : w.heap.size < w3.heap.size := Nat.lt_of_lt_of_le hs2 hb.bel.size
  have HN3 := Lib.hid (nx_any g a3 k3 _ w3 s3)
  clear hb s3
  go_wp2_with fail
  refine HN3.out.mono ?_
  rintro e w4 ⟨rfl, ⟨a4, k4, s4⟩, hb⟩
  have B4 := Lib.hid (B3.out.trans hb)
  have R4 := R3.out.but hb hs3 hne
  have hs4 : w.heap.size < w4.heap.size := Nat.lt_of_lt_of_le hs3 hb.bel.size
  have S4 := Lib.hid s4
  have P6 := R4.put (.bool true) (.int .i64 (nx s).1) (.int .i64 (nx (nx s).2).1) (.int .i64 (nx (nx (nx s).2).2).1) (.int .i64 (nx (nx (nx (nx s).2).2).2).1) (.int .i64 0)
  have L6 := below_put6 (r := w.heap.size) (Below.refl w.heap.size w4) (Nat.le_refl _) (.bool true) (.int .i64 (nx s).1) (.int .i64 (nx (nx s).2).1) (.int .i64 (nx (nx (nx s).2).2).1) (.int .i64 (nx (nx (nx (nx s).2).2).2).1) (.int .i64 0)
  have A6 := fun o => (Below.refl w4.heap.size ((((((w4.setCell ⟨w.heap.size, 0, none⟩ (.bool true)).setCell ⟨w.heap.size, 1, none⟩ (.int .i64 (nx s).1)).setCell ⟨w.heap.size, 2, none⟩ (.int .i64 (nx (nx s).2).1)).setCell ⟨w.heap.size, 3, none⟩ (.int .i64 (nx (nx (nx s).2).2).1)).setCell ⟨w.heap.size, 4, none⟩ (.int .i64 (nx (nx (nx (nx s).2).2).2).1)).setCell ⟨w.heap.size, 5, none⟩ (.int .i64 0))).alloc (by simp) o
  have P7 := Lib.hid (fun o => P6.below (A6 o) hs4)
  have L7 := Lib.hid (fun o => L6.trans ((A6 o).mono (Nat.le_of_lt hs4)))
  clear P6 L6 A6
  obtain ⟨r0, r1, r2, r3, r4, r5, q0, q1, q2, q3, q4, q5⟩ := R4
  clear hb s4
  go_wp2_with fail
  exact ret_box rfl rfl (P7.out _) rfl ⟨rfl, ⟨_, _, S4.out.upto (L7.out _) hg⟩, B4.out.then (L7.out _) (Nat.le_of_lt hg)⟩
set_option maxHeartbeats 1000000 in
theorem scBox_five1 (g : Nat) (a : Option Addr) (c : Nat) (s : List (List UInt8) × Bool) (w : World) (h : ScAt w g a c s.1 s.2) (x : List UInt8) (hx : s.1 = [x]) (h2 : x ≠ [45]) :
    Calls Tryd.prog 46 #[.pointer (some ⟨g, 0, none⟩), .bool true] w fun e w' => e = .returned (.agg #[.bool true, .int .i64 (nx s).1, .int .i64 (nx (nx s).2).1, .int .i64 (nx (nx (nx s).2).2).1, .int .i64 (nx (nx (nx (nx s).2).2).2).1, .int .i64 (nx (nx (nx (nx (nx s).2).2).2).2).1]) ∧ (∃ a' c', ScAt w' g a' c' (nx (nx (nx (nx (nx s).2).2).2).2).2.1 (nx (nx (nx (nx (nx s).2).2).2).2).2.2) ∧ But g w w' := by
  have hA := (Below.refl w.heap.size w).alloc (Nat.le_refl _) (.cells #[.bool false, .int .i64 0, .int .i64 0, .int .i64 0, .int .i64 0, .int .i64 0] 47)
  have hsz : (w.alloc (.cells #[.bool false, .int .i64 0, .int .i64 0, .int .i64 0, .int .i64 0, .int .i64 0] 47)).heap.size = w.heap.size + 1 := by simp
  have R0 := Blk6.new w 47 (.bool false) (.int .i64 0) (.int .i64 0) (.int .i64 0) (.int .i64 0) (.int .i64 0)
  have HS0 := h.below hA
  have N0 := nx_any g a c s _ HS0
  have HB0 := But.of hA (Nat.le_of_lt h.hg)
  obtain ⟨c0, c1, f0, f1, hg, hc, hw⟩ := h
  rw [hx] at c0 hc hw
  obtain ⟨bb, oo, rfl, hbb, hCC⟩ := hw (by simp)
  have hxc : w.cell? ⟨bb, oo, none⟩ = some (.string (bs x)) := by have := strs_get hCC 0 (by simp); simpa using this
  have hxe : ((bs x).toList == ([45] : List UInt8)) = false := by rw [Lib.toList_data, bs_data]; simpa using h2
  have hxe2 : ¬ (bs x).toList = [45] := by rw [Lib.toList_data, bs_data]; exact h2
  have hbw : bb < w.heap.size := Nat.lt_trans hbb hg
  rw [show [x].length = 1 from rfl] at c0
  have hcx := Lib.hid hc
  clear hCC hc hx h2
  have hne : w.heap.size ≠ g := by omega
  have N02 := Lib.hid N0
  have HB02 := Lib.hid HB0
  have R02 := Lib.hid R0
  have HSZ := Lib.hid hsz
  clear N0 HB0 R0 HS0 hA hsz
  go_enter Tryd.func46, Tryd.ntmps46
  go_wp2_with fail
  refine N02.out.mono ?_
  rintro e w1 ⟨rfl, ⟨a1, k1, s1⟩, hb⟩
  have B1 := Lib.hid (HB02.out.trans hb)
  have R1 := Lib.hid (R02.out.but hb (by have := HSZ.out; omega) hne)
  have hs1 : w.heap.size < w1.heap.size := by have := hb.bel.size; have := HSZ.out; omega
  have HN1 := Lib.hid (nx_any g a1 k1 _ w1 s1)
  clear hb s1 c0 c1 f0 f1 hxc
  go_wp2_with fail
  refine HN1.out.mono ?_
  rintro e w2 ⟨rfl, ⟨a2, k2, s2⟩, hb⟩
  have B2 := Lib.hid (B1.out.trans hb)
  have R2 := Lib.hid (R1.out.but hb hs1 hne)
  have hs2 : w.heap.size < w2.heap.size := Nat.lt_of_lt_of_le hs1 hb.bel.size
  have HN2 := Lib.hid (nx_any g a2 k2 _ w2 s2)
  clear hb s2
  go_wp2_with fail
  refine HN2.out.mono ?_
  rintro e w3 ⟨rfl, ⟨a3, k3, s3⟩, hb⟩
  have B3 := Lib.hid (B2.out.trans hb)
  have R3 := Lib.hid (R2.out.but hb hs2 hne)
  have hs3 : w.heap.size < w3.heap.size := Nat.lt_of_lt_of_le hs2 hb.bel.size
  have HN3 := Lib.hid (nx_any g a3 k3 _ w3 s3)
  clear hb s3
  go_wp2_with fail
  refine HN3.out.mono ?_
  rintro e w4 ⟨rfl, ⟨a4, k4, s4⟩, hb⟩
  have B4 := Lib.hid (B3.out.trans hb)
  have R4 := R3.out.but hb hs3 hne
  have hs4 : w.heap.size < w4.heap.size := Nat.lt_of_lt_of_le hs3 hb.bel.size
  have S4 := Lib.hid s4
  have hA5 := (Below.refl w4.heap.size w4).alloc (Nat.le_refl _) (.cells #[.bool true, .int .i64 (nx s).1, .int .i64 (nx (nx s).2).1, .int .i64 (nx (nx (nx s).2).2).1, .int .i64 (nx (nx (nx (nx s).2).2).2).1, .int .i64 0] 47)
  have hz5 : (w4.alloc (.cells #[.bool true, .int .i64 (nx s).1, .int .i64 (nx (nx s).2).1, .int .i64 (nx (nx (nx s).2).2).1, .int .i64 (nx (nx (nx (nx s).2).2).2).1, .int .i64 0] 47)).heap.size = w4.heap.size + 1 := by simp
  have X5 := Blk6.new w4 47 (.bool true) (.int .i64 (nx s).1) (.int .i64 (nx (nx s).2).1) (.int .i64 (nx (nx (nx s).2).2).1) (.int .i64 (nx (nx (nx (nx s).2).2).2).1) (.int .i64 0)
  have R5 := R4.below hA5 hs4
  have S5 := s4.below hA5
  have N5 := Lib.hid (nx_any g a4 k4 _ _ S5)
  have B5 := Lib.hid (B4.out.trans (But.of hA5 (by omega)))
  have HR5 := Lib.hid R5
  have HX5 := Lib.hid X5
  have HZ5 := Lib.hid hz5
  clear hb s4 R4 hA5 hz5 X5 R5 S5
  go_wp2_with fail
  refine N5.out.mono ?_
  rintro e w5 ⟨rfl, ⟨a5, k5, s5⟩, hb⟩
  have hg4 : g < w4.heap.size := by omega
  have R6 := HR5.out.but hb (by have := HZ5.out; omega) hne
  have X6 := HX5.out.but hb (by have := HZ5.out; omega) (by omega)
  have B6 := Lib.hid (B5.out.trans hb)
  have hs5 : w4.heap.size < w5.heap.size := by have := hb.bel.size; have := HZ5.out; omega
  have S6 := Lib.hid s5
  have M0 := Below.setCell (p := ⟨w4.heap.size, 5, none⟩) (Below.refl w4.heap.size w5) (Nat.le_refl _) (.int .i64 (nx (nx (nx (nx (nx s).2).2).2).2).1)
  have P7 := Lib.hid ((R6.below M0 hs4).put (.bool true) (.int .i64 (nx s).1) (.int .i64 (nx (nx s).2).1) (.int .i64 (nx (nx (nx s).2).2).1) (.int .i64 (nx (nx (nx (nx s).2).2).2).1) (.int .i64 (nx (nx (nx (nx (nx s).2).2).2).2).1))
  have L7 := Lib.hid (below_put6 (r := w.heap.size) (M0.mono (Nat.le_of_lt hs4)) (Nat.le_refl _) (.bool true) (.int .i64 (nx s).1) (.int .i64 (nx (nx s).2).1) (.int .i64 (nx (nx (nx s).2).2).1) (.int .i64 (nx (nx (nx (nx s).2).2).2).1) (.int .i64 (nx (nx (nx (nx (nx s).2).2).2).2).1))
  clear M0
  obtain ⟨r0, r1, r2, r3, r4, r5, q0, q1, q2, q3, q4, q5⟩ := R6
  obtain ⟨x0, x1, x2, x3, x4, x5, y0, y1, y2, y3, y4, y5⟩ := X6
  have hrx : w.heap.size ≠ w4.heap.size := by omega
  clear hb s5
  go_wp2_with fail
  exact ret_box rfl rfl P7.out rfl ⟨rfl, ⟨_, _, S6.out.upto L7.out hg⟩, B6.out.then L7.out (Nat.le_of_lt hg)⟩
/-- what stands behind a row's tag. -/
def boxOf (wd : Bool) (s : List (List UInt8) × Bool) : BoxP × (List (List UInt8) × Bool) :=
  if s.1 = [[45]] then (zeroBox, ([], s.2))
  else if wd = true then (⟨true, (nx s).1, (nx (nx s).2).1, (nx (nx (nx s).2).2).1, (nx (nx (nx (nx s).2).2).2).1, (nx (nx (nx (nx (nx s).2).2).2).2).1⟩, (nx (nx (nx (nx (nx s).2).2).2).2).2)
  else (⟨true, (nx s).1, (nx (nx s).2).1, (nx (nx (nx s).2).2).1, (nx (nx (nx (nx s).2).2).2).1, 0⟩, (nx (nx (nx (nx s).2).2).2).2)
def boxV (b : BoxP) : Value := .agg #[.bool b.shown, .int .i64 b.x, .int .i64 b.y, .int .i64 b.w, .int .i64 b.h, .int .i64 b.lines]
theorem scBox_any (g : Nat) (a : Option Addr) (c : Nat) (s : List (List UInt8) × Bool) (wd : Bool) (w : World) (h : ScAt w g a c s.1 s.2) :
    Calls Tryd.prog 46 #[.pointer (some ⟨g, 0, none⟩), .bool wd] w fun e w' => e = .returned (boxV (boxOf wd s).1) ∧ (∃ a' c', ScAt w' g a' c' (boxOf wd s).2.1 (boxOf wd s).2.2) ∧ But g w w' := by
  unfold boxOf
  by_cases hd : s.1 = [[45]]
  · rw [if_pos hd]; exact scBox_dash g a c s wd w h hd
  rw [if_neg hd]
  by_cases h1 : s.1.length = 1
  · obtain ⟨x, hx⟩ : ∃ x, s.1 = [x] := by
      match hs : s.1, h1 with
      | [x], _ => exact ⟨x, rfl⟩
    have hx2 : x ≠ [45] := by rintro rfl; exact hd hx
    cases wd
    · rw [if_neg (by simp)]; exact scBox_four1 g a c s w h x hx hx2
    · rw [if_pos rfl]; exact scBox_five1 g a c s w h x hx hx2
  · cases wd
    · rw [if_neg (by simp)]; exact scBox_four g a c s w h h1
    · rw [if_pos rfl]; exact scBox_five g a c s w h h1
end Go.Proofs.YtcoaidpiignheaaDoor
