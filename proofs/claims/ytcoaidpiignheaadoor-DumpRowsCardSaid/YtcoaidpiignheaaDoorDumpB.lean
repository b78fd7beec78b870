/-
  Walks of layer 29: right rows.
-/
import Derived.Test.YtcoaidpiignheaaDoorNames
import Derived.Test.YtcoaidpiignheaaDoorFix
import Derived.Test.YtcoaidpiignheaaDoorMem
import Derived.Test.YtcoaidpiignheaaDoorDumpPlain
import Derived.RegionTactic
import Derived.ChangeAlike
import Derived.BigRegion
namespace Go.Proofs.YtcoaidpiignheaaDoor
open Go.RowKit Wsc
def boxc (b : BoxP) : List Value := [.bool b.shown, .int .i64 b.x, .int .i64 b.y, .int .i64 b.w, .int .i64 b.h, .int .i64 b.lines]
def rowc (r : RowP) : List Value := [.int .i64 r.depth, .string (bs r.tag), .bool r.box.shown, .int .i64 r.box.x, .int .i64 r.box.y, .int .i64 r.box.w, .int .i64 r.box.h, .int .i64 r.box.lines]
def rowV (r : RowP) : Value := .agg #[.int .i64 r.depth, .string (bs r.tag), .bool r.box.shown, .int .i64 r.box.x, .int .i64 r.box.y, .int .i64 r.box.w, .int .i64 r.box.h, .int .i64 r.box.lines]
theorem gB : Tryd.prog.eqGuardType Tryd.prog.depth 47 = false := by kernel_rfl
def boxEq (a b : BoxP) : Bool := decide (a = b)
theorem box_beq (a b : BoxP) : decide (a = b) = decide (a.shown = b.shown ∧ a.x = b.x ∧ a.y = b.y ∧ a.w = b.w ∧ a.h = b.h ∧ a.lines = b.lines) := by
  obtain ⟨a0, a1, a2, a3, a4, a5⟩ := a
  obtain ⟨b0, b1, b2, b3, b4, b5⟩ := b
  rw [Bool.eq_iff_iff]; simp
theorem eqlB (a b : BoxP) (w : World) : (binOp .eql 47 (.agg #[.bool a.shown, .int .i64 a.x, .int .i64 a.y, .int .i64 a.w, .int .i64 a.h, .int .i64 a.lines]) (.agg #[.bool b.shown, .int .i64 b.x, .int .i64 b.y, .int .i64 b.w, .int .i64 b.h, .int .i64 b.lines])).run Tryd.prog w = .ok (.bool (boxEq a b)) w := by
  unfold boxEq
  rw [box_beq]
  simp [go_sem]
  (repeat' split) <;> simp_all
theorem dheld_any (n : Int) (w : World) :
    Calls Tryd.prog 33 #[.int .i64 n] w fun e w' => e = .returned (.bool (isHeld n)) ∧ w = w' := by
  have H := fun ww => hold_any n ww
  unfold isHeld
  generalize hold n = h at *
  have H := Lib.hid H
  go_enter Tryd.func33, Tryd.ntmps33
  go_wp2_with (go_at_call 59; refine (H.out _).mono ?_; rintro e w' ⟨rfl, rfl⟩)
  go_ret
  exact ⟨ret_bo (by rw [BEq.comm]; rfl), rfl⟩
theorem empty_of (l : List UInt8) (h : l = []) : (bs l).toList = [] ∧ (bs l).toList.isEmpty = true ∧ (!(bs l).toList.isEmpty) = false := by
  subst h; rw [Lib.toList_data, bs_data]; simp
theorem nonempty_of (l : List UInt8) (h : l ≠ []) : ¬ (bs l).toList = [] ∧ (bs l).toList.isEmpty = false ∧ (!(bs l).toList.isEmpty) = true := by
  rw [Lib.toList_data, bs_data]; cases l with
  | nil => exact absurd rfl h
  | cons c r => simp
theorem below_two (w : World) (a b : Obj) : Below w.heap.size w ((w.alloc a).alloc b) := ((Below.refl _ _).alloc (Nat.le_refl _) _).alloc (by simp) _
theorem dr_depth (d : Int) (tg : List UInt8) (sh : Bool) (x y bw bh ln : Int) (w : World) (hd : ¬ (1 ≤ d ∧ d ≤ 64)) :
    Calls Tryd.prog 17 #[rowV ⟨d, tg, ⟨sh, x, y, bw, bh, ln⟩⟩] w fun e w' => e = .returned (.bool (rightR ⟨d, tg, ⟨sh, x, y, bw, bh, ln⟩⟩)) ∧ Below w.heap.size w w' := by
  have E : rightR ⟨d, tg, ⟨sh, x, y, bw, bh, ln⟩⟩ = false := by unfold rightR headOk; simp only; rw [decide_eq_false hd]; rfl
  rw [E]
  unfold rowV
  by_cases h1 : d < 1
  · clear hd
    go_enter Tryd.func17, Tryd.ntmps17
    go_wp2
    go_ret
    exact ⟨rfl, below_two _ _ _⟩
  · have h2 : 64 < d := by omega
    clear hd
    go_enter Tryd.func17, Tryd.ntmps17
    go_wp2
    go_ret
    exact ⟨rfl, below_two _ _ _⟩
theorem dr_tag (d : Int) (tg : List UInt8) (sh : Bool) (x y bw bh ln : Int) (w : World) (hd : 1 ≤ d ∧ d ≤ 64) (ht : tg ≠ []) (hn : nameB tg = false) :
    Calls Tryd.prog 17 #[rowV ⟨d, tg, ⟨sh, x, y, bw, bh, ln⟩⟩] w fun e w' => e = .returned (.bool (rightR ⟨d, tg, ⟨sh, x, y, bw, bh, ln⟩⟩)) ∧ Below w.heap.size w w' := by
  have E : rightR ⟨d, tg, ⟨sh, x, y, bw, bh, ln⟩⟩ = false := by unfold rightR headOk; simp only; rw [decide_eq_false ht, hn]; simp
  rw [E]
  obtain ⟨e1, e2, e3⟩ := nonempty_of _ ht
  have N := fun ww => treeName_any (bs tg) ww
  rw [bs_data, hn] at N
  have N2 := Lib.hid N
  obtain ⟨d1, d2⟩ := hd
  clear N hn ht
  unfold rowV
  go_enter Tryd.func17, Tryd.ntmps17
  go_wp2_with (go_at_call 32; refine (N2.out _).mono ?_; rintro e w' ⟨rfl, rfl⟩)
  go_ret
  exact ⟨rfl, below_two _ _ _⟩
set_option maxRecDepth 100000 in
set_option maxHeartbeats 1000000 in
theorem dr_none_e (d : Int) (tg : List UInt8) (x y bw bh ln : Int) (w : World) (hd : 1 ≤ d ∧ d ≤ 64) (ht : tg = []) :
    Calls Tryd.prog 17 #[rowV ⟨d, tg, ⟨false, x, y, bw, bh, ln⟩⟩] w fun e w' => e = .returned (.bool (rightR ⟨d, tg, ⟨false, x, y, bw, bh, ln⟩⟩)) ∧ Below w.heap.size w w' := by
  obtain ⟨e1, e2, e3⟩ := empty_of _ ht
  have HH := Lib.hid ht
  have EQ := fun ww => eqlB ⟨false, x, y, bw, bh, ln⟩ zeroBox ww
  have E : rightR ⟨d, tg, ⟨false, x, y, bw, bh, ln⟩⟩ = boxEq ⟨false, x, y, bw, bh, ln⟩ zeroBox := by unfold rightR headOk boxEq; simp [hd, ht]
  rw [E]
  generalize boxEq ⟨false, x, y, bw, bh, ln⟩ zeroBox = q at *
  unfold zeroBox at EQ
  simp only at EQ
  have gb := gB
  obtain ⟨d1, d2⟩ := hd
  clear ht E
  unfold rowV
  go_enter Tryd.func17, Tryd.ntmps17
  go_wp2_with fail
  go_ret
  exact ⟨rfl, below_two _ _ _⟩
theorem dr_shown_e0 (d : Int) (tg : List UInt8) (x y bw bh ln : Int) (w : World) (hd : 1 ≤ d ∧ d ≤ 64) (ht : tg = [])  (hx : isHeld x = false) :
    Calls Tryd.prog 17 #[rowV ⟨d, tg, ⟨true, x, y, bw, bh, ln⟩⟩] w fun e w' => e = .returned (.bool (rightR ⟨d, tg, ⟨true, x, y, bw, bh, ln⟩⟩)) ∧ Below w.heap.size w w' := by
  obtain ⟨e1, e2, e3⟩ := empty_of _ ht
  have HH := Lib.hid ht
  have Dx := fun ww => dheld_any x ww
  rw [hx] at Dx
  have Ex := Lib.hid Dx
  have Gx := Lib.hid hx
  obtain ⟨d1, d2⟩ := hd
  clear ht Dx hx
  unfold rowV
  go_enter Tryd.func17, Tryd.ntmps17
  go_wp2_with fail
  refine (Ex.out _).mono ?_
  rintro e w' ⟨rfl, rfl⟩
  go_wp2
  all_goals go_ret
  all_goals exact ⟨ret_bo (by go_light; rw [Bool.eq_iff_iff]; simp [rightR, headOk, shownOk, HH.out, Gx.out] <;> omega), below_two _ _ _⟩
theorem dr_shown_e1 (d : Int) (tg : List UInt8) (x y bw bh ln : Int) (w : World) (hd : 1 ≤ d ∧ d ≤ 64) (ht : tg = []) (hx : isHeld x = true) (hy : isHeld y = false) :
    Calls Tryd.prog 17 #[rowV ⟨d, tg, ⟨true, x, y, bw, bh, ln⟩⟩] w fun e w' => e = .returned (.bool (rightR ⟨d, tg, ⟨true, x, y, bw, bh, ln⟩⟩)) ∧ Below w.heap.size w w' := by
  obtain ⟨e1, e2, e3⟩ := empty_of _ ht
  have HH := Lib.hid ht
  have Dx := fun ww => dheld_any x ww
  rw [hx] at Dx
  have Ex := Lib.hid Dx
  have Gx := Lib.hid hx
  have Dy := fun ww => dheld_any y ww
  rw [hy] at Dy
  have Ey := Lib.hid Dy
  have Gy := Lib.hid hy
  obtain ⟨d1, d2⟩ := hd
  clear ht Dx hx Dy hy
  unfold rowV
  go_enter Tryd.func17, Tryd.ntmps17
  go_wp2_with fail
  refine (Ex.out _).mono ?_
  rintro e w' ⟨rfl, rfl⟩
  go_wp2_with fail
  refine (Ey.out _).mono ?_
  rintro e w' ⟨rfl, rfl⟩
  go_wp2
  all_goals go_ret
  all_goals exact ⟨ret_bo (by go_light; rw [Bool.eq_iff_iff]; simp [rightR, headOk, shownOk, HH.out, Gx.out, Gy.out] <;> omega), below_two _ _ _⟩
theorem dr_shown_e2 (d : Int) (tg : List UInt8) (x y bw bh ln : Int) (w : World) (hd : 1 ≤ d ∧ d ≤ 64) (ht : tg = []) (hx : isHeld x = true) (hy : isHeld y = true) (hbw : isHeld bw = false) :
    Calls Tryd.prog 17 #[rowV ⟨d, tg, ⟨true, x, y, bw, bh, ln⟩⟩] w fun e w' => e = .returned (.bool (rightR ⟨d, tg, ⟨true, x, y, bw, bh, ln⟩⟩)) ∧ Below w.heap.size w w' := by
  obtain ⟨e1, e2, e3⟩ := empty_of _ ht
  have HH := Lib.hid ht
  have Dx := fun ww => dheld_any x ww
  rw [hx] at Dx
  have Ex := Lib.hid Dx
  have Gx := Lib.hid hx
  have Dy := fun ww => dheld_any y ww
  rw [hy] at Dy
  have Ey := Lib.hid Dy
  have Gy := Lib.hid hy
  have Dbw := fun ww => dheld_any bw ww
  rw [hbw] at Dbw
  have Ebw := Lib.hid Dbw
  have Gbw := Lib.hid hbw
  obtain ⟨d1, d2⟩ := hd
  clear ht Dx hx Dy hy Dbw hbw
  unfold rowV
  go_enter Tryd.func17, Tryd.ntmps17
  go_wp2_with fail
  refine (Ex.out _).mono ?_
  rintro e w' ⟨rfl, rfl⟩
  go_wp2_with fail
  refine (Ey.out _).mono ?_
  rintro e w' ⟨rfl, rfl⟩
  go_wp2_with fail
  refine (Ebw.out _).mono ?_
  rintro e w' ⟨rfl, rfl⟩
  go_wp2
  all_goals go_ret
  all_goals exact ⟨ret_bo (by go_light; rw [Bool.eq_iff_iff]; simp [rightR, headOk, shownOk, HH.out, Gx.out, Gy.out, Gbw.out] <;> omega), below_two _ _ _⟩
theorem dr_shown_e3 (d : Int) (tg : List UInt8) (x y bw bh ln : Int) (w : World) (hd : 1 ≤ d ∧ d ≤ 64) (ht : tg = []) (hx : isHeld x = true) (hy : isHeld y = true) (hbw : isHeld bw = true) (hbh : isHeld bh = false) :
    Calls Tryd.prog 17 #[rowV ⟨d, tg, ⟨true, x, y, bw, bh, ln⟩⟩] w fun e w' => e = .returned (.bool (rightR ⟨d, tg, ⟨true, x, y, bw, bh, ln⟩⟩)) ∧ Below w.heap.size w w' := by
  obtain ⟨e1, e2, e3⟩ := empty_of _ ht
  have HH := Lib.hid ht
  have Dx := fun ww => dheld_any x ww
  rw [hx] at Dx
  have Ex := Lib.hid Dx
  have Gx := Lib.hid hx
  have Dy := fun ww => dheld_any y ww
  rw [hy] at Dy
  have Ey := Lib.hid Dy
  have Gy := Lib.hid hy
  have Dbw := fun ww => dheld_any bw ww
  rw [hbw] at Dbw
  have Ebw := Lib.hid Dbw
  have Gbw := Lib.hid hbw
  have Dbh := fun ww => dheld_any bh ww
  rw [hbh] at Dbh
  have Ebh := Lib.hid Dbh
  have Gbh := Lib.hid hbh
  obtain ⟨d1, d2⟩ := hd
  clear ht Dx hx Dy hy Dbw hbw Dbh hbh
  unfold rowV
  go_enter Tryd.func17, Tryd.ntmps17
  go_wp2_with fail
  refine (Ex.out _).mono ?_
  rintro e w' ⟨rfl, rfl⟩
  go_wp2_with fail
  refine (Ey.out _).mono ?_
  rintro e w' ⟨rfl, rfl⟩
  go_wp2_with fail
  refine (Ebw.out _).mono ?_
  rintro e w' ⟨rfl, rfl⟩
  go_wp2_with fail
  refine (Ebh.out _).mono ?_
  rintro e w' ⟨rfl, rfl⟩
  go_wp2
  all_goals go_ret
  all_goals exact ⟨ret_bo (by go_light; rw [Bool.eq_iff_iff]; simp [rightR, headOk, shownOk, HH.out, Gx.out, Gy.out, Gbw.out, Gbh.out] <;> omega), below_two _ _ _⟩
theorem dr_shown_e4 (d : Int) (tg : List UInt8) (x y bw bh ln : Int) (w : World) (hd : 1 ≤ d ∧ d ≤ 64) (ht : tg = []) (hx : isHeld x = true) (hy : isHeld y = true) (hbw : isHeld bw = true) (hbh : isHeld bh = true) :
    Calls Tryd.prog 17 #[rowV ⟨d, tg, ⟨true, x, y, bw, bh, ln⟩⟩] w fun e w' => e = .returned (.bool (rightR ⟨d, tg, ⟨true, x, y, bw, bh, ln⟩⟩)) ∧ Below w.heap.size w w' := by
  obtain ⟨e1, e2, e3⟩ := empty_of _ ht
  have HH := Lib.hid ht
  have Dx := fun ww => dheld_any x ww
  rw [hx] at Dx
  have Ex := Lib.hid Dx
  have Gx := Lib.hid hx
  have Dy := fun ww => dheld_any y ww
  rw [hy] at Dy
  have Ey := Lib.hid Dy
  have Gy := Lib.hid hy
  have Dbw := fun ww => dheld_any bw ww
  rw [hbw] at Dbw
  have Ebw := Lib.hid Dbw
  have Gbw := Lib.hid hbw
  have Dbh := fun ww => dheld_any bh ww
  rw [hbh] at Dbh
  have Ebh := Lib.hid Dbh
  have Gbh := Lib.hid hbh
  obtain ⟨d1, d2⟩ := hd
  clear ht Dx hx Dy hy Dbw hbw Dbh hbh
  unfold rowV
  go_enter Tryd.func17, Tryd.ntmps17
  go_wp2_with fail
  refine (Ex.out _).mono ?_
  rintro e w' ⟨rfl, rfl⟩
  go_wp2_with fail
  refine (Ey.out _).mono ?_
  rintro e w' ⟨rfl, rfl⟩
  go_wp2_with fail
  refine (Ebw.out _).mono ?_
  rintro e w' ⟨rfl, rfl⟩
  go_wp2_with fail
  refine (Ebh.out _).mono ?_
  rintro e w' ⟨rfl, rfl⟩
  go_wp2
  all_goals go_ret
  all_goals exact ⟨ret_bo (by go_light; rw [Bool.eq_iff_iff]; simp [rightR, headOk, shownOk, HH.out, Gx.out, Gy.out, Gbw.out, Gbh.out] <;> omega), below_two _ _ _⟩
set_option maxRecDepth 100000 in
set_option maxHeartbeats 1000000 in
theorem dr_none_n (d : Int) (tg : List UInt8) (x y bw bh ln : Int) (w : World) (hd : 1 ≤ d ∧ d ≤ 64) (ht : tg ≠ []) (hn : nameB tg = true) :
    Calls Tryd.prog 17 #[rowV ⟨d, tg, ⟨false, x, y, bw, bh, ln⟩⟩] w fun e w' => e = .returned (.bool (rightR ⟨d, tg, ⟨false, x, y, bw, bh, ln⟩⟩)) ∧ Below w.heap.size w w' := by
  obtain ⟨e1, e2, e3⟩ := nonempty_of _ ht
  have HH := Lib.hid ht
  have HN := Lib.hid hn
  have N := fun ww => treeName_any (bs tg) ww
  rw [bs_data, hn] at N
  have N2 := Lib.hid N
  have EQ := fun ww => eqlB ⟨false, x, y, bw, bh, ln⟩ zeroBox ww
  have E : rightR ⟨d, tg, ⟨false, x, y, bw, bh, ln⟩⟩ = boxEq ⟨false, x, y, bw, bh, ln⟩ zeroBox := by unfold rightR headOk boxEq; simp [hd, hn]
  rw [E]
  generalize boxEq ⟨false, x, y, bw, bh, ln⟩ zeroBox = q at *
  unfold zeroBox at EQ
  simp only at EQ
  have gb := gB
  obtain ⟨d1, d2⟩ := hd
  clear ht N hn E
  unfold rowV
  go_enter Tryd.func17, Tryd.ntmps17
  go_wp2_with (go_at_call 32; refine (N2.out _).mono ?_; rintro e w' ⟨rfl, rfl⟩)
  go_ret
  exact ⟨rfl, below_two _ _ _⟩
theorem dr_shown_n0 (d : Int) (tg : List UInt8) (x y bw bh ln : Int) (w : World) (hd : 1 ≤ d ∧ d ≤ 64) (ht : tg ≠ []) (hn : nameB tg = true)  (hx : isHeld x = false) :
    Calls Tryd.prog 17 #[rowV ⟨d, tg, ⟨true, x, y, bw, bh, ln⟩⟩] w fun e w' => e = .returned (.bool (rightR ⟨d, tg, ⟨true, x, y, bw, bh, ln⟩⟩)) ∧ Below w.heap.size w w' := by
  obtain ⟨e1, e2, e3⟩ := nonempty_of _ ht
  have HH := Lib.hid ht
  have HN := Lib.hid hn
  have N := fun ww => treeName_any (bs tg) ww
  rw [bs_data, hn] at N
  have N2 := Lib.hid N
  have Dx := fun ww => dheld_any x ww
  rw [hx] at Dx
  have Ex := Lib.hid Dx
  have Gx := Lib.hid hx
  obtain ⟨d1, d2⟩ := hd
  clear ht N hn Dx hx
  unfold rowV
  go_enter Tryd.func17, Tryd.ntmps17
  go_wp2_with fail
  refine (N2.out _).mono ?_
  rintro e w' ⟨rfl, rfl⟩
  go_wp2_with fail
  refine (Ex.out _).mono ?_
  rintro e w' ⟨rfl, rfl⟩
  go_wp2
  all_goals go_ret
  all_goals exact ⟨ret_bo (by go_light; rw [Bool.eq_iff_iff]; simp [rightR, headOk, shownOk, HH.out, HN.out, Gx.out] <;> omega), below_two _ _ _⟩
theorem dr_shown_n1 (d : Int) (tg : List UInt8) (x y bw bh ln : Int) (w : World) (hd : 1 ≤ d ∧ d ≤ 64) (ht : tg ≠ []) (hn : nameB tg = true) (hx : isHeld x = true) (hy : isHeld y = false) :
    Calls Tryd.prog 17 #[rowV ⟨d, tg, ⟨true, x, y, bw, bh, ln⟩⟩] w fun e w' => e = .returned (.bool (rightR ⟨d, tg, ⟨true, x, y, bw, bh, ln⟩⟩)) ∧ Below w.heap.size w w' := by
  obtain ⟨e1, e2, e3⟩ := nonempty_of _ ht
  have HH := Lib.hid ht
  have HN := Lib.hid hn
  have N := fun ww => treeName_any (bs tg) ww
  rw [bs_data, hn] at N
  have N2 := Lib.hid N
  have Dx := fun ww => dheld_any x ww
  rw [hx] at Dx
  have Ex := Lib.hid Dx
  have Gx := Lib.hid hx
  have Dy := fun ww => dheld_any y ww
  rw [hy] at Dy
  have Ey := Lib.hid Dy
  have Gy := Lib.hid hy
  obtain ⟨d1, d2⟩ := hd
  clear ht N hn Dx hx Dy hy
  unfold rowV
  go_enter Tryd.func17, Tryd.ntmps17
  go_wp2_with fail
  refine (N2.out _).mono ?_
  rintro e w' ⟨rfl, rfl⟩
  go_wp2_with fail
  refine (Ex.out _).mono ?_
  rintro e w' ⟨rfl, rfl⟩
  go_wp2_with fail
  refine (Ey.out _).mono ?_
  rintro e w' ⟨rfl, rfl⟩
  go_wp2
  all_goals go_ret
  all_goals exact ⟨ret_bo (by go_light; rw [Bool.eq_iff_iff]; simp [rightR, headOk, shownOk, HH.out, HN.out, Gx.out, Gy.out] <;> omega), below_two _ _ _⟩
theorem dr_shown_n2 (d : Int) (tg : List UInt8) (x y bw bh ln : Int) (w : World) (hd : 1 ≤ d ∧ d ≤ 64) (ht : tg ≠ []) (hn : nameB tg = true) (hx : isHeld x = true) (hy : isHeld y = true) (hbw : isHeld bw = false) :
    Calls Tryd.prog 17 #[rowV ⟨d, tg, ⟨true, x, y, bw, bh, ln⟩⟩] w fun e w' => e = .returned (.bool (rightR ⟨d, tg, ⟨true, x, y, bw, bh, ln⟩⟩)) ∧ Below w.heap.size w w' := by
  obtain ⟨e1, e2, e3⟩ := nonempty_of _ ht
  have HH := Lib.hid ht
  have HN := Lib.hid hn
  have N := fun ww => treeName_any (bs tg) ww
  rw [bs_data, hn] at N
  have N2 := Lib.hid N
  have Dx := fun ww => dheld_any x ww
  rw [hx] at Dx
  have Ex := Lib.hid Dx
  have Gx := Lib.hid hx
  have Dy := fun ww => dheld_any y ww
  rw [hy] at Dy
  have Ey := Lib.hid Dy
  have Gy := Lib.hid hy
  have Dbw := fun ww => dheld_any bw ww
  rw [hbw] at Dbw
  have Ebw := Lib.hid Dbw
  have Gbw := Lib.hid hbw
  obtain ⟨d1, d2⟩ := hd
  clear ht N hn Dx hx Dy hy Dbw hbw
  unfold rowV
  go_enter Tryd.func17, Tryd.ntmps17
  go_wp2_with fail
  refine (N2.out _).mono ?_
  rintro e w' ⟨rfl, rfl⟩
  go_wp2_with fail
  refine (Ex.out _).mono ?_
  rintro e w' ⟨rfl, rfl⟩
  go_wp2_with fail
  refine (Ey.out _).mono ?_
  rintro e w' ⟨rfl, rfl⟩
  go_wp2_with fail
  refine (Ebw.out _).mono ?_
  rintro e w' ⟨rfl, rfl⟩
  go_wp2
  all_goals go_ret
  all_goals exact ⟨ret_bo (by go_light; rw [Bool.eq_iff_iff]; simp [rightR, headOk, shownOk, HH.out, HN.out, Gx.out, Gy.out, Gbw.out] <;> omega), below_two _ _ _⟩
theorem dr_shown_n3 (d : Int) (tg : List UInt8) (x y bw bh ln : Int) (w : World) (hd : 1 ≤ d ∧ d ≤ 64) (ht : tg ≠ []) (hn : nameB tg = true) (hx : isHeld x = true) (hy : isHeld y = true) (hbw : isHeld bw = true) (hbh : isHeld bh = false) :
    Calls Tryd.prog 17 #[rowV ⟨d, tg, ⟨true, x, y, bw, bh, ln⟩⟩] w fun e w' => e = .returned (.bool (rightR ⟨d, tg, ⟨true, x, y, bw, bh, ln⟩⟩)) ∧ Below w.heap.size w w' := by
  obtain ⟨e1, e2, e3⟩ := nonempty_of _ ht
  have HH := Lib.hid ht
  have HN := Lib.hid hn
  have N := fun ww => treeName_any (bs tg) ww
  rw [bs_data, hn] at N
  have N2 := Lib.hid N
  have Dx := fun ww => dheld_any x ww
  rw [hx] at Dx
  have Ex := Lib.hid Dx
  have Gx := Lib.hid hx
  have Dy := fun ww => dheld_any y ww
  rw [hy] at Dy
  have Ey := Lib.hid Dy
  have Gy := Lib.hid hy
  have Dbw := fun ww => dheld_any bw ww
  rw [hbw] at Dbw
  have Ebw := Lib.hid Dbw
  have Gbw := Lib.hid hbw
  have Dbh := fun ww => dheld_any bh ww
  rw [hbh] at Dbh
  have Ebh := Lib.hid Dbh
  have Gbh := Lib.hid hbh
  obtain ⟨d1, d2⟩ := hd
  clear ht N hn Dx hx Dy hy Dbw hbw Dbh hbh
  unfold rowV
  go_enter Tryd.func17, Tryd.ntmps17
  go_wp2_with fail
  refine (N2.out _).mono ?_
  rintro e w' ⟨rfl, rfl⟩
  go_wp2_with fail
  refine (Ex.out _).mono ?_
  rintro e w' ⟨rfl, rfl⟩
  go_wp2_with fail
  refine (Ey.out _).mono ?_
  rintro e w' ⟨rfl, rfl⟩
  go_wp2_with fail
  refine (Ebw.out _).mono ?_
  rintro e w' ⟨rfl, rfl⟩
  go_wp2_with fail
  refine (Ebh.out _).mono ?_
  rintro e w' ⟨rfl, rfl⟩
  go_wp2
  all_goals go_ret
  all_goals exact ⟨ret_bo (by go_light; rw [Bool.eq_iff_iff]; simp [rightR, headOk, shownOk, HH.out, HN.out, Gx.out, Gy.out, Gbw.out, Gbh.out] <;> omega), below_two _ _ _⟩
theorem dr_shown_n4 (d : Int) (tg : List UInt8) (x y bw bh ln : Int) (w : World) (hd : 1 ≤ d ∧ d ≤ 64) (ht : tg ≠ []) (hn : nameB tg = true) (hx : isHeld x = true) (hy : isHeld y = true) (hbw : isHeld bw = true) (hbh : isHeld bh = true) :
    Calls Tryd.prog 17 #[rowV ⟨d, tg, ⟨true, x, y, bw, bh, ln⟩⟩] w fun e w' => e = .returned (.bool (rightR ⟨d, tg, ⟨true, x, y, bw, bh, ln⟩⟩)) ∧ Below w.heap.size w w' := by
  obtain ⟨e1, e2, e3⟩ := nonempty_of _ ht
  have HH := Lib.hid ht
  have HN := Lib.hid hn
  have N := fun ww => treeName_any (bs tg) ww
  rw [bs_data, hn] at N
  have N2 := Lib.hid N
  have Dx := fun ww => dheld_any x ww
  rw [hx] at Dx
  have Ex := Lib.hid Dx
  have Gx := Lib.hid hx
  have Dy := fun ww => dheld_any y ww
  rw [hy] at Dy
  have Ey := Lib.hid Dy
  have Gy := Lib.hid hy
  have Dbw := fun ww => dheld_any bw ww
  rw [hbw] at Dbw
  have Ebw := Lib.hid Dbw
  have Gbw := Lib.hid hbw
  have Dbh := fun ww => dheld_any bh ww
  rw [hbh] at Dbh
  have Ebh := Lib.hid Dbh
  have Gbh := Lib.hid hbh
  obtain ⟨d1, d2⟩ := hd
  clear ht N hn Dx hx Dy hy Dbw hbw Dbh hbh
  unfold rowV
  go_enter Tryd.func17, Tryd.ntmps17
  go_wp2_with fail
  refine (N2.out _).mono ?_
  rintro e w' ⟨rfl, rfl⟩
  go_wp2_with fail
  refine (Ex.out _).mono ?_
  rintro e w' ⟨rfl, rfl⟩
  go_wp2_with fail
  refine (Ey.out _).mono ?_
  rintro e w' ⟨rfl, rfl⟩
  go_wp2_with fail
  refine (Ebw.out _).mono ?_
  rintro e w' ⟨rfl, rfl⟩
  go_wp2_with fail
  refine (Ebh.out _).mono ?_
  rintro e w' ⟨rfl, rfl⟩
  go_wp2
  all_goals go_ret
  all_goals exact ⟨ret_bo (by go_light; rw [Bool.eq_iff_iff]; simp [rightR, headOk, shownOk, HH.out, HN.out, Gx.out, Gy.out, Gbw.out, Gbh.out] <;> omega), below_two _ _ _⟩
theorem dright_any (r : RowP) (w : World) :
    Calls Tryd.prog 17 #[rowV r] w fun e w' => e = .returned (.bool (rightR r)) ∧ Below w.heap.size w w' := by
  obtain ⟨d, tg, ⟨sh, x, y, bw, bh, ln⟩⟩ := r
  by_cases hd : 1 ≤ d ∧ d ≤ 64
  · by_cases ht : tg = []
    · cases sh
      · exact dr_none_e d tg x y bw bh ln w hd ht
      · cases hx : isHeld x
        · exact dr_shown_e0 d tg x y bw bh ln w hd ht hx
        · cases hy : isHeld y
          · exact dr_shown_e1 d tg x y bw bh ln w hd ht hx hy
          · cases hw : isHeld bw
            · exact dr_shown_e2 d tg x y bw bh ln w hd ht hx hy hw
            · cases hh : isHeld bh
              · exact dr_shown_e3 d tg x y bw bh ln w hd ht hx hy hw hh
              · exact dr_shown_e4 d tg x y bw bh ln w hd ht hx hy hw hh
    · cases hn : nameB tg
      · exact dr_tag d tg sh x y bw bh ln w hd ht hn
      · cases sh
        · exact dr_none_n d tg x y bw bh ln w hd ht hn
        · cases hx : isHeld x
          · exact dr_shown_n0 d tg x y bw bh ln w hd ht hn hx
          · cases hy : isHeld y
            · exact dr_shown_n1 d tg x y bw bh ln w hd ht hn hx hy
            · cases hw : isHeld bw
              · exact dr_shown_n2 d tg x y bw bh ln w hd ht hn hx hy hw
              · cases hh : isHeld bh
                · exact dr_shown_n3 d tg x y bw bh ln w hd ht hn hx hy hw hh
                · exact dr_shown_n4 d tg x y bw bh ln w hd ht hn hx hy hw hh
  · exact dr_depth d tg sh x y bw bh ln w hd
end Go.Proofs.YtcoaidpiignheaaDoor
