/-
  The walks of layer 20: a case as it lies in memory; its leaves (printed by gen_siza.py).
  The walks of layer 20: worth, least, most, rated, size, box, pair (printed by gen_sizb.py).
-/
import Derived.Test.YtkbnmmknjmmlmaaGreatDoorSizPlain
import Derived.Test.YtkbnmmknjmmlmaaGreatDoorMem
import Derived.Test.YtkbnmmknjmmlmaaGreatDoorFix
import Derived.Test.YtkbnmmknjmmlmaaGreatDoorStyA
import Derived.Deep.QuietTactic
import Derived.BigQuiet
import Derived.Deep.RegionHeld3
namespace Go.Proofs.YtkbnmmknjmmlmaaGreatDoor
open Go.RowKit Wsc
def casC (c : Cas) (j : Nat) : Value := if j < 55 then Sty.cell c.s j else if j = 55 then .int .i64 c.av else if j = 56 then .int .i64 c.ba else if j = 57 then .int .i64 c.le else .int .i64 c.mo
def casA (c : Cas) : Array Value := #[Sty.cell c.s 0, Sty.cell c.s 1, Sty.cell c.s 2, Sty.cell c.s 3, Sty.cell c.s 4, Sty.cell c.s 5, Sty.cell c.s 6, Sty.cell c.s 7, Sty.cell c.s 8, Sty.cell c.s 9, Sty.cell c.s 10, Sty.cell c.s 11, Sty.cell c.s 12, Sty.cell c.s 13, Sty.cell c.s 14, Sty.cell c.s 15, Sty.cell c.s 16, Sty.cell c.s 17, Sty.cell c.s 18, Sty.cell c.s 19, Sty.cell c.s 20, Sty.cell c.s 21, Sty.cell c.s 22, Sty.cell c.s 23, Sty.cell c.s 24, Sty.cell c.s 25, Sty.cell c.s 26, Sty.cell c.s 27, Sty.cell c.s 28, Sty.cell c.s 29, Sty.cell c.s 30, Sty.cell c.s 31, Sty.cell c.s 32, Sty.cell c.s 33, Sty.cell c.s 34, Sty.cell c.s 35, Sty.cell c.s 36, Sty.cell c.s 37, Sty.cell c.s 38, Sty.cell c.s 39, Sty.cell c.s 40, Sty.cell c.s 41, Sty.cell c.s 42, Sty.cell c.s 43, Sty.cell c.s 44, Sty.cell c.s 45, Sty.cell c.s 46, Sty.cell c.s 47, Sty.cell c.s 48, Sty.cell c.s 49, Sty.cell c.s 50, Sty.cell c.s 51, Sty.cell c.s 52, Sty.cell c.s 53, Sty.cell c.s 54, .int .i64 c.av, .int .i64 c.ba, .int .i64 c.le, .int .i64 c.mo]
theorem casA_row (c : Cas) : (casA c).toList = fnL 59 (casC c) := rfl
theorem infoCas : (Tryz.prog.info? 61).map (·.size) = some 59 := by kernel_rfl
theorem casA_len (c : Cas) : (casA c).toList.length = 59 := rfl
abbrev casW (w : World) (c : Cas) : World := w.alloc (.cells (casA c) 61)
theorem casW_at (w : World) (c : Cas) : FnAt (casW w c) w.heap.size 59 (casC c) := FnAt.new w _ 59 _ (casA c) (casA_row c)
theorem casW_below (w : World) (c : Cas) : Below w.heap.size w (casW w c) := (Below.refl _ _).alloc (Nat.le_refl _) _
theorem fixAdd_any (a b : Int) (w : World) :
    Calls Tryz.prog 55 #[.int .i64 a, .int .i64 b] w fun e w' => e = .returned (.int .i64 (addP a b)) ∧ w = w' := by
  have h1 := hold_bd a
  have h2 := hold_bd b
  have E : addP a b = hold (hold a + hold b) := rfl
  have HA := Lib.hid (fun ww => hold_any a ww)
  have HB := Lib.hid (fun ww => hold_any b ww)
  rw [E]
  clear E
  generalize hold a = x at *
  generalize hold b = y at *
  go_enter Tryz.func55, Tryz.ntmps55
  go_wp2_with fail
  refine (HA.out _).mono ?_
  rintro e w1 ⟨rfl, rfl⟩
  go_wp2_with fail
  refine (HB.out _).mono ?_
  rintro e w1 ⟨rfl, rfl⟩
  go_wp2_with fail
  refine (hold_any _ _).mono ?_
  rintro e w1 ⟨rfl, rfl⟩
  go_wp2
  go_ret
  exact ⟨rfl, rfl⟩
theorem fixSub_any (a b : Int) (w : World) :
    Calls Tryz.prog 96 #[.int .i64 a, .int .i64 b] w fun e w' => e = .returned (.int .i64 (subP a b)) ∧ w = w' := by
  have h1 := hold_bd a
  have h2 := hold_bd b
  have E : subP a b = hold (hold a - hold b) := rfl
  have HA := Lib.hid (fun ww => hold_any a ww)
  have HB := Lib.hid (fun ww => hold_any b ww)
  rw [E]
  clear E
  generalize hold a = x at *
  generalize hold b = y at *
  go_enter Tryz.func96, Tryz.ntmps96
  go_wp2_with fail
  refine (HA.out _).mono ?_
  rintro e w1 ⟨rfl, rfl⟩
  go_wp2_with fail
  refine (HB.out _).mono ?_
  rintro e w1 ⟨rfl, rfl⟩
  go_wp2_with fail
  refine (hold_any _ _).mono ?_
  rintro e w1 ⟨rfl, rfl⟩
  go_wp2
  go_ret
  exact ⟨rfl, rfl⟩
abbrev sz2 (w : World) (k n : Int) : World := w.alloc (.cells #[.int .i64 k, .int .i64 n] 30)
theorem edge_any (c : Cas) (k n : Int) (w : World) :
    Calls Tryz.prog 56 #[.agg (casA c), .agg #[.int .i64 k, .int .i64 n]] w fun e w' => e = .returned (.int .i64 (edgeP k n c.av)) ∧ Below w.heap.size w w' := by
  have hv : (sz2 (casW w c) k n).cell? ⟨w.heap.size, 55, none⟩ = some (.int .i64 c.av) := ((casW_at w c).alloc _).c 55 (by decide)
  have HB := Lib.hid ((casW_below w c).alloc (casW_below w c).size (.cells #[.int .i64 k, .int .i64 n] 30))
  unfold sz2 casW at hv HB
  generalize casA c = ca at *
  generalize c.av = av at *
  by_cases h1 : k = 1
  · have E : edgeP k n av = hold n := by unfold edgeP; rw [if_pos h1]
    rw [E]
    clear E
    subst h1
    go_enter Tryz.func56, Tryz.ntmps56
    go_wp2_with (go_at_call 57; refine (hold_any _ _).mono ?_; rintro e w1 ⟨rfl, rfl⟩)
    go_ret
    exact ⟨rfl, HB.out⟩
  · by_cases h2 : k = 2
    · have E : edgeP k n av = fpart av n 100000 := by unfold edgeP; rw [if_neg h1, if_pos h2]
      rw [E]
      clear E h1
      subst h2
      go_enter Tryz.func56, Tryz.ntmps56
      go_wp2_with (go_at_call 71; refine (percent_any _ _ _).mono ?_; rintro e w1 ⟨rfl, rfl⟩)
      go_ret
      exact ⟨rfl, HB.out⟩
    · have E : edgeP k n av = 0 := by unfold edgeP; rw [if_neg h1, if_neg h2]
      rw [E]
      clear E
      go_enter Tryz.func56, Tryz.ntmps56
      go_wp2
      go_ret
      exact ⟨rfl, HB.out⟩
end Go.Proofs.YtkbnmmknjmmlmaaGreatDoor
namespace Go.Proofs.YtkbnmmknjmmlmaaGreatDoor
open Go.RowKit Wsc
theorem quiet_idS {P : Program} {f : FuncId} {args : Array Value} {w : World} {n : Nat} {v : Value}
    (h : Calls P f args (w.drewN n) fun e w' => e = .returned v ∧ w.drewN n = w') : Calls P f args (w.drewN n) fun e w'' => e = .returned v ∧ ∃ m, w'' = w.drewN m :=
  h.mono fun _ _ ⟨he, hm⟩ => ⟨he, n, hm.symm⟩
def worthV (k n base : Int) : Int × Bool := if k = 1 then (hold n, true) else if k = 2 then (fpart base n 100000, decide (0 ≤ base)) else (0, false)
theorem size_worth (k n base : Int) (w : World) :
    Calls Tryz.prog 97 #[.agg #[.int .i64 k, .int .i64 n], .int .i64 base] w fun e w' => e = .returned (.tuple #[.int .i64 (worthV k n base).1, .bool (worthV k n base).2]) ∧ Below w.heap.size w w' := by
  have HB := Lib.hid ((Below.refl w.heap.size w).alloc (Nat.le_refl _) (.cells #[.int .i64 k, .int .i64 n] 30))
  by_cases h1 : k = 1
  · have E : worthV k n base = (hold n, true) := by unfold worthV; rw [if_pos h1]
    rw [E]
    clear E
    subst h1
    go_enter Tryz.func97, Tryz.ntmps97
    go_wp2_with (go_at_call 57; refine (hold_any _ _).mono ?_; rintro e w1 ⟨rfl, rfl⟩)
    go_ret2
    exact ⟨rfl, HB.out⟩
  · by_cases h2 : k = 2
    · have E : worthV k n base = (fpart base n 100000, decide (0 ≤ base)) := by unfold worthV; rw [if_neg h1, if_pos h2]
      rw [E]
      clear E h1
      subst h2
      go_enter Tryz.func97, Tryz.ntmps97
      go_wp2_with (go_at_call 71; refine (percent_any _ _ _).mono ?_; rintro e w1 ⟨rfl, rfl⟩)
      go_ret2
      exact ⟨rfl, HB.out⟩
    · have E : worthV k n base = (0, false) := by unfold worthV; rw [if_neg h1, if_neg h2]
      rw [E]
      clear E
      go_enter Tryz.func97, Tryz.ntmps97
      go_wp2
      go_ret2
      exact ⟨rfl, HB.out⟩

theorem case_least (c : Cas) (w : World) :
    Calls Tryz.prog 92 #[.agg (casA c)] w fun e w' => e = .returned (.int .i64 (leastP c)) ∧ Below w.heap.size w w' := by
  have hv : (casW w c).cell? ⟨w.heap.size, 57, none⟩ = some (.int .i64 c.le) := (casW_at w c).c 57 (by decide)
  have HB := Lib.hid (casW_below w c)
  have E : leastP c = max (hold c.le) 0 := rfl
  rw [E]
  clear E
  unfold casW at hv HB
  generalize casA c = ca at *
  generalize c.le = x at *
  go_enter Tryz.func92, Tryz.ntmps92
  go_wp2_with (go_at_call 57; refine (hold_any _ _).mono ?_; rintro e w1 ⟨rfl, rfl⟩)
  go_ret
  exact ⟨rfl, HB.out⟩
theorem case_most (c : Cas) (w : World) :
    Calls Tryz.prog 93 #[.agg (casA c)] w fun e w' => e = .returned (.int .i64 (mostP c)) ∧ Below w.heap.size w w' := by
  have hv : (casW w c).cell? ⟨w.heap.size, 58, none⟩ = some (.int .i64 c.mo) := (casW_at w c).c 58 (by decide)
  have HB := Lib.hid (casW_below w c)
  have E : mostP c = max (hold c.mo) 0 := rfl
  rw [E]
  clear E
  unfold casW at hv HB
  generalize casA c = ca at *
  generalize c.mo = x at *
  go_enter Tryz.func93, Tryz.ntmps93
  go_wp2_with (go_at_call 57; refine (hold_any _ _).mono ?_; rintro e w1 ⟨rfl, rfl⟩)
  go_ret
  exact ⟨rfl, HB.out⟩
theorem case_rated (c : Cas) (w : World) :
    Calls Tryz.prog 73 #[.agg (casA c)] w fun e w' => e = .returned (.bool (ratedP c)) ∧ Below w.heap.size w w' := by
  have h1 : (casW w c).cell? ⟨w.heap.size, 34, none⟩ = some (.int .i64 (c.s.f 34)) := (casW_at w c).c 34 (by decide)
  have h2 : (casW w c).cell? ⟨w.heap.size, 35, none⟩ = some (.int .i64 (c.s.f 35)) := (casW_at w c).c 35 (by decide)
  have HB := Lib.hid (casW_below w c)
  have E : ratedP c = (decide (0 < c.s.f 34) && decide (0 < c.s.f 35)) := rfl
  rw [E]
  clear E
  unfold casW at h1 h2 HB
  generalize casA c = ca at *
  generalize c.s.f 34 = x at *
  generalize c.s.f 35 = y at *
  go_enter Tryz.func73, Tryz.ntmps73
  go_wp2
  all_goals go_ret
  all_goals exact ⟨ret_bb (by first | rfl | (rw [Bool.eq_iff_iff]; simp; omega)), HB.out⟩
theorem case_size (c : Cas) (n x : Int) (w : World) :
    Calls Tryz.prog 95 #[.agg (casA c), .int .i64 n, .int .i64 x] w fun e w' => e = .returned (.int .i64 (sizP c n x)) ∧ Below w.heap.size w w' := by
  have h1 : (casW w c).cell? ⟨w.heap.size, 1, none⟩ = some (.bool c.s.b) := (casW_at w c).c 1 (by decide)
  have HB := Lib.hid (casW_below w c)
  have E : sizP c n x = if c.s.b = true then hold n else max (subP n x) 0 := rfl
  rw [E]
  clear E
  unfold casW at h1 HB
  generalize casA c = ca at *
  generalize c.s.b = b at *
  cases b
  · go_enter Tryz.func95, Tryz.ntmps95
    go_wp2_with (go_at_call 96; refine (fixSub_any _ _ _).mono ?_; rintro e w1 ⟨rfl, rfl⟩)
    go_ret
    exact ⟨rfl, HB.out⟩
  · go_enter Tryz.func95, Tryz.ntmps95
    go_wp2_with (go_at_call 57; refine (hold_any _ _).mono ?_; rintro e w1 ⟨rfl, rfl⟩)
    go_ret
    exact ⟨rfl, HB.out⟩
theorem case_box (c : Cas) (n x : Int) (w : World) :
    Calls Tryz.prog 91 #[.agg (casA c), .int .i64 n, .int .i64 x] w fun e w' => e = .returned (.int .i64 (boxP c n x)) ∧ Below w.heap.size w w' := by
  have h1 : (casW w c).cell? ⟨w.heap.size, 1, none⟩ = some (.bool c.s.b) := (casW_at w c).c 1 (by decide)
  have HB := Lib.hid (casW_below w c)
  have E : boxP c n x = if c.s.b = true then max (hold n) x else addP (max n 0) x := rfl
  rw [E]
  clear E
  unfold casW at h1 HB
  generalize casA c = ca at *
  generalize c.s.b = b at *
  cases b
  · go_enter Tryz.func91, Tryz.ntmps91
    go_wp2_with (go_at_call 55; refine (fixAdd_any _ _ _).mono ?_; rintro e w1 ⟨rfl, rfl⟩)
    go_ret
    exact ⟨rfl, HB.out⟩
  · go_enter Tryz.func91, Tryz.ntmps91
    go_wp2_with (go_at_call 57; refine (hold_any _ _).mono ?_; rintro e w1 ⟨rfl, rfl⟩)
    go_ret
    exact ⟨rfl, HB.out⟩
/-- a frame's cells. -/
def frmC (c : Cas) (j : Nat) : Value := if j < 4 then .int .i64 (marginP c j) else if j < 8 then .bool (autoP c (j - 4)) else if j < 12 then .int .i64 (padP c (j - 8)) else .int .i64 (edgP c (j - 12))
def frmA (c : Cas) : Array Value := #[.int .i64 (marginP c 0), .int .i64 (marginP c 1), .int .i64 (marginP c 2), .int .i64 (marginP c 3), .bool (autoP c 0), .bool (autoP c 1), .bool (autoP c 2), .bool (autoP c 3), .int .i64 (padP c 0), .int .i64 (padP c 1), .int .i64 (padP c 2), .int .i64 (padP c 3), .int .i64 (edgP c 0), .int .i64 (edgP c 1), .int .i64 (edgP c 2), .int .i64 (edgP c 3)]
theorem frmA_row (c : Cas) : (frmA c).toList = fnL 16 (frmC c) := rfl
theorem infoFrm : (Tryz.prog.info? 66).map (·.size) = some 16 := by kernel_rfl
theorem frmA_len (c : Cas) : (frmA c).toList.length = 16 := rfl
abbrev frmW (w : World) (c : Cas) : World := w.alloc (.cells (frmA c) 66)
theorem frmW_at (w : World) (c : Cas) : FnAt (frmW w c) w.heap.size 16 (frmC c) := FnAt.new w _ 16 _ (frmA c) (frmA_row c)
theorem frmW_below (w : World) (c : Cas) : Below w.heap.size w (frmW w c) := (Below.refl _ _).alloc (Nat.le_refl _) _

theorem pair_31 (c : Cas) (w : World) :
    Calls Tryz.prog 54 #[.agg (frmA c), .int .i64 3, .int .i64 1] w fun e w' => e = .returned (.int .i64 (xP c)) ∧ Below w.heap.size w w' := by
  have h1 : (frmW w c).cell? ⟨w.heap.size, 11, none⟩ = some (.int .i64 (padP c 3)) := (frmW_at w c).c 11 (by decide)
  have h2 : (frmW w c).cell? ⟨w.heap.size, 9, none⟩ = some (.int .i64 (padP c 1)) := (frmW_at w c).c 9 (by decide)
  have h3 : (frmW w c).cell? ⟨w.heap.size, 15, none⟩ = some (.int .i64 (edgP c 3)) := (frmW_at w c).c 15 (by decide)
  have h4 : (frmW w c).cell? ⟨w.heap.size, 13, none⟩ = some (.int .i64 (edgP c 1)) := (frmW_at w c).c 13 (by decide)
  have HB := Lib.hid (frmW_below w c)
  have E : xP c = addP (addP (padP c 3) (padP c 1)) (addP (edgP c 3) (edgP c 1)) := rfl
  rw [E]
  clear E
  unfold frmW at h1 h2 h3 h4 HB
  generalize frmA c = fa at *
  generalize padP c 3 = x1 at *
  generalize padP c 1 = x2 at *
  generalize edgP c 3 = x3 at *
  generalize edgP c 1 = x4 at *
  go_enter Tryz.func54, Tryz.ntmps54
  go_wp2_with fail
  generalize hW : w.alloc (.cells fa 66) = W at *
  clear hW
  go_quiet ((go_at_call 55; exact quiet_idS (fixAdd_any _ _ _)))
  go_wp2
  go_ret
  exact ⟨rfl, below_drewN HB.out _⟩
theorem pair_02 (c : Cas) (w : World) :
    Calls Tryz.prog 54 #[.agg (frmA c), .int .i64 0, .int .i64 2] w fun e w' => e = .returned (.int .i64 (yP c)) ∧ Below w.heap.size w w' := by
  have h1 : (frmW w c).cell? ⟨w.heap.size, 8, none⟩ = some (.int .i64 (padP c 0)) := (frmW_at w c).c 8 (by decide)
  have h2 : (frmW w c).cell? ⟨w.heap.size, 10, none⟩ = some (.int .i64 (padP c 2)) := (frmW_at w c).c 10 (by decide)
  have h3 : (frmW w c).cell? ⟨w.heap.size, 12, none⟩ = some (.int .i64 (edgP c 0)) := (frmW_at w c).c 12 (by decide)
  have h4 : (frmW w c).cell? ⟨w.heap.size, 14, none⟩ = some (.int .i64 (edgP c 2)) := (frmW_at w c).c 14 (by decide)
  have HB := Lib.hid (frmW_below w c)
  have E : yP c = addP (addP (padP c 0) (padP c 2)) (addP (edgP c 0) (edgP c 2)) := rfl
  rw [E]
  clear E
  unfold frmW at h1 h2 h3 h4 HB
  generalize frmA c = fa at *
  generalize padP c 0 = x1 at *
  generalize padP c 2 = x2 at *
  generalize edgP c 0 = x3 at *
  generalize edgP c 2 = x4 at *
  go_enter Tryz.func54, Tryz.ntmps54
  go_wp2_with fail
  generalize hW : w.alloc (.cells fa 66) = W at *
  clear hW
  go_quiet ((go_at_call 55; exact quiet_idS (fixAdd_any _ _ _)))
  go_wp2
  go_ret
  exact ⟨rfl, below_drewN HB.out _⟩
end Go.Proofs.YtkbnmmknjmmlmaaGreatDoor

