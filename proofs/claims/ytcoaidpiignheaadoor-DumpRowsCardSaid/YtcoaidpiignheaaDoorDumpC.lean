/-
  Walks of layer 29: right rows, as the reference says.
-/
import Derived.Test.YtcoaidpiignheaaDoorDumpB
import Derived.Deep.QuietTactic
import Derived.BigQuiet
namespace Go.Proofs.YtcoaidpiignheaaDoor
open Go.RowKit Wsc
theorem quiet_id {P : Program} {f : FuncId} {args : Array Value} {w : World} {n : Nat} {v : Value}
    (h : Calls P f args (w.drewN n) fun e w' => e = .returned v ∧ w.drewN n = w') : Calls P f args (w.drewN n) fun e w'' => e = .returned v ∧ ∃ m, w'' = w.drewN m :=
  h.mono fun _ _ ⟨he, hm⟩ => ⟨he, n, hm.symm⟩
theorem held_yes {n : Int} (h : isHeld n = true) : (hold n == n) = true := by unfold isHeld at h; simpa using h
theorem held_no {n : Int} (h : isHeld n = false) : (hold n == n) = false := by unfold isHeld at h; simpa using h
set_option maxRecDepth 100000 in
set_option maxHeartbeats 1000000 in
theorem rr_lo_e_true (d : Int) (tg : List UInt8) (x y bw bh ln : Int) (w : World) (hd : d < 1) (ht : tg = []) (_hl : tg.length ≤ 9223372036854775807) :
    Calls Tryd.prog 21 #[rowV ⟨d, tg, ⟨true, x, y, bw, bh, ln⟩⟩] w fun e w' => e = .returned (.bool (rightR ⟨d, tg, ⟨true, x, y, bw, bh, ln⟩⟩)) ∧ Below w.heap.size w w' := by
  have E : rightR ⟨d, tg, ⟨true, x, y, bw, bh, ln⟩⟩ = false := by unfold rightR headOk; simp only; rw [decide_eq_false (show ¬ (1 ≤ d ∧ d ≤ 64) by omega)]; rfl
  rw [E]
  obtain ⟨e1, e2, e3⟩ := empty_of _ ht
  have HH := Lib.hid ht
  have d1 : decide ((1 : Int) ≤ d) = false := decide_eq_false (by omega)
  have d3 : ¬ ((1 : Int) ≤ d) := by omega
  clear ht hd E
  unfold rowV
  go_enter Tryd.func21, Tryd.ntmps21
  go_wp2_with fail
  all_goals try go_quiet (first | (go_at_call 38; exact quiet_id (refHold_any _ _)))
  all_goals try go_wp2_with fail
  all_goals try go_quiet (first | (go_at_call 38; exact quiet_id (refHold_any _ _)))
  all_goals try go_wp2_with fail
  all_goals try go_quiet (first | (go_at_call 38; exact quiet_id (refHold_any _ _)))
  all_goals try go_wp2
  all_goals go_ret
  all_goals
    refine ⟨rfl, ?_⟩
    first | exact below_two _ _ _ | exact below_drewN (below_two _ _ _) _ | exact below_drewN (below_drewN (below_two _ _ _) _) _ | exact below_drewN (below_drewN (below_drewN (below_two _ _ _) _) _) _
set_option maxRecDepth 100000 in
set_option maxHeartbeats 1000000 in
theorem rr_hi_e_true (d : Int) (tg : List UInt8) (x y bw bh ln : Int) (w : World) (hd : 64 < d) (ht : tg = []) (_hl : tg.length ≤ 9223372036854775807) :
    Calls Tryd.prog 21 #[rowV ⟨d, tg, ⟨true, x, y, bw, bh, ln⟩⟩] w fun e w' => e = .returned (.bool (rightR ⟨d, tg, ⟨true, x, y, bw, bh, ln⟩⟩)) ∧ Below w.heap.size w w' := by
  have E : rightR ⟨d, tg, ⟨true, x, y, bw, bh, ln⟩⟩ = false := by unfold rightR headOk; simp only; rw [decide_eq_false (show ¬ (1 ≤ d ∧ d ≤ 64) by omega)]; rfl
  rw [E]
  obtain ⟨e1, e2, e3⟩ := empty_of _ ht
  have HH := Lib.hid ht
  have d0 : (1 : Int) ≤ d := by omega
  have d1 : decide ((1 : Int) ≤ d) = true := decide_eq_true (by omega)
  have d2 : decide (d ≤ (64 : Int)) = false := decide_eq_false (by omega)
  have d3 : ¬ (d ≤ (64 : Int)) := by omega
  clear ht hd E
  unfold rowV
  go_enter Tryd.func21, Tryd.ntmps21
  go_wp2_with fail
  all_goals try go_quiet (first | (go_at_call 38; exact quiet_id (refHold_any _ _)))
  all_goals try go_wp2_with fail
  all_goals try go_quiet (first | (go_at_call 38; exact quiet_id (refHold_any _ _)))
  all_goals try go_wp2_with fail
  all_goals try go_quiet (first | (go_at_call 38; exact quiet_id (refHold_any _ _)))
  all_goals try go_wp2
  all_goals go_ret
  all_goals
    refine ⟨rfl, ?_⟩
    first | exact below_two _ _ _ | exact below_drewN (below_two _ _ _) _ | exact below_drewN (below_drewN (below_two _ _ _) _) _ | exact below_drewN (below_drewN (below_drewN (below_two _ _ _) _) _) _
set_option maxRecDepth 100000 in
set_option maxHeartbeats 1000000 in
theorem rr_lo_n0_true (d : Int) (tg : List UInt8) (x y bw bh ln : Int) (w : World) (hd : d < 1) (ht : tg ≠ []) (_hl : tg.length ≤ 9223372036854775807) :
    Calls Tryd.prog 21 #[rowV ⟨d, tg, ⟨true, x, y, bw, bh, ln⟩⟩] w fun e w' => e = .returned (.bool (rightR ⟨d, tg, ⟨true, x, y, bw, bh, ln⟩⟩)) ∧ Below w.heap.size w w' := by
  have E : rightR ⟨d, tg, ⟨true, x, y, bw, bh, ln⟩⟩ = false := by unfold rightR headOk; simp only; rw [decide_eq_false (show ¬ (1 ≤ d ∧ d ≤ 64) by omega)]; rfl
  rw [E]
  obtain ⟨e1, e2, e3⟩ := nonempty_of _ ht
  have d1 : decide ((1 : Int) ≤ d) = false := decide_eq_false (by omega)
  have d3 : ¬ ((1 : Int) ≤ d) := by omega
  clear ht hd E
  unfold rowV
  go_enter Tryd.func21, Tryd.ntmps21
  go_wp2_with fail
  all_goals try go_quiet (first | (go_at_call 38; exact quiet_id (refHold_any _ _)))
  all_goals try go_wp2_with fail
  all_goals try go_quiet (first | (go_at_call 38; exact quiet_id (refHold_any _ _)))
  all_goals try go_wp2_with fail
  all_goals try go_quiet (first | (go_at_call 38; exact quiet_id (refHold_any _ _)))
  all_goals try go_wp2
  all_goals go_ret
  all_goals
    refine ⟨rfl, ?_⟩
    first | exact below_two _ _ _ | exact below_drewN (below_two _ _ _) _ | exact below_drewN (below_drewN (below_two _ _ _) _) _ | exact below_drewN (below_drewN (below_drewN (below_two _ _ _) _) _) _
set_option maxRecDepth 100000 in
set_option maxHeartbeats 1000000 in
theorem rr_hi_n0_true (d : Int) (tg : List UInt8) (x y bw bh ln : Int) (w : World) (hd : 64 < d) (ht : tg ≠ []) (_hl : tg.length ≤ 9223372036854775807) :
    Calls Tryd.prog 21 #[rowV ⟨d, tg, ⟨true, x, y, bw, bh, ln⟩⟩] w fun e w' => e = .returned (.bool (rightR ⟨d, tg, ⟨true, x, y, bw, bh, ln⟩⟩)) ∧ Below w.heap.size w w' := by
  have E : rightR ⟨d, tg, ⟨true, x, y, bw, bh, ln⟩⟩ = false := by unfold rightR headOk; simp only; rw [decide_eq_false (show ¬ (1 ≤ d ∧ d ≤ 64) by omega)]; rfl
  rw [E]
  obtain ⟨e1, e2, e3⟩ := nonempty_of _ ht
  have d0 : (1 : Int) ≤ d := by omega
  have d1 : decide ((1 : Int) ≤ d) = true := decide_eq_true (by omega)
  have d2 : decide (d ≤ (64 : Int)) = false := decide_eq_false (by omega)
  have d3 : ¬ (d ≤ (64 : Int)) := by omega
  clear ht hd E
  unfold rowV
  go_enter Tryd.func21, Tryd.ntmps21
  go_wp2_with fail
  all_goals try go_quiet (first | (go_at_call 38; exact quiet_id (refHold_any _ _)))
  all_goals try go_wp2_with fail
  all_goals try go_quiet (first | (go_at_call 38; exact quiet_id (refHold_any _ _)))
  all_goals try go_wp2_with fail
  all_goals try go_quiet (first | (go_at_call 38; exact quiet_id (refHold_any _ _)))
  all_goals try go_wp2
  all_goals go_ret
  all_goals
    refine ⟨rfl, ?_⟩
    first | exact below_two _ _ _ | exact below_drewN (below_two _ _ _) _ | exact below_drewN (below_drewN (below_two _ _ _) _) _ | exact below_drewN (below_drewN (below_drewN (below_two _ _ _) _) _) _
set_option maxRecDepth 100000 in
set_option maxHeartbeats 1000000 in
theorem rr_tag_true (d : Int) (tg : List UInt8) (x y bw bh ln : Int) (w : World) (hd : 1 ≤ d ∧ d ≤ 64) (ht : tg ≠ []) (hn : nameB tg = false) (hl : tg.length ≤ 9223372036854775807) :
    Calls Tryd.prog 21 #[rowV ⟨d, tg, ⟨true, x, y, bw, bh, ln⟩⟩] w fun e w' => e = .returned (.bool (rightR ⟨d, tg, ⟨true, x, y, bw, bh, ln⟩⟩)) ∧ Below w.heap.size w w' := by
  have E : rightR ⟨d, tg, ⟨true, x, y, bw, bh, ln⟩⟩ = false := by unfold rightR headOk; simp only; rw [decide_eq_false ht, hn]; simp
  rw [E]
  obtain ⟨e1, e2, e3⟩ := nonempty_of _ ht
  have HH := Lib.hid ht
  have N := fun ww => refName_any (bs tg) ww (by rw [bs_size]; exact hl)
  rw [bs_data, hn] at N
  have N2 := Lib.hid N
  obtain ⟨d0, d1⟩ := hd
  clear ht hn N E
  unfold rowV
  go_enter Tryd.func21, Tryd.ntmps21
  go_wp2_with (go_at_call 37; refine (N2.out _).mono ?_; rintro e w' ⟨rfl, rfl⟩)
  all_goals try go_quiet (first | (go_at_call 37; exact quiet_id (N2.out _)) | (go_at_call 38; exact quiet_id (refHold_any _ _)))
  all_goals try go_wp2_with (go_at_call 37; refine (N2.out _).mono ?_; rintro e w' ⟨rfl, rfl⟩)
  all_goals try go_quiet (first | (go_at_call 37; exact quiet_id (N2.out _)) | (go_at_call 38; exact quiet_id (refHold_any _ _)))
  all_goals try go_wp2_with (go_at_call 37; refine (N2.out _).mono ?_; rintro e w' ⟨rfl, rfl⟩)
  all_goals try go_quiet (first | (go_at_call 37; exact quiet_id (N2.out _)) | (go_at_call 38; exact quiet_id (refHold_any _ _)))
  all_goals try go_wp2
  all_goals go_ret
  all_goals
    refine ⟨rfl, ?_⟩
    first | exact below_two _ _ _ | exact below_drewN (below_two _ _ _) _ | exact below_drewN (below_drewN (below_two _ _ _) _) _ | exact below_drewN (below_drewN (below_drewN (below_two _ _ _) _) _) _
set_option maxRecDepth 100000 in
set_option maxHeartbeats 1000000 in
theorem rr_lo_e_false (d : Int) (tg : List UInt8) (x y bw bh ln : Int) (w : World) (hd : d < 1) (ht : tg = []) (_hl : tg.length ≤ 9223372036854775807) :
    Calls Tryd.prog 21 #[rowV ⟨d, tg, ⟨false, x, y, bw, bh, ln⟩⟩] w fun e w' => e = .returned (.bool (rightR ⟨d, tg, ⟨false, x, y, bw, bh, ln⟩⟩)) ∧ Below w.heap.size w w' := by
  have E : rightR ⟨d, tg, ⟨false, x, y, bw, bh, ln⟩⟩ = false := by unfold rightR headOk; simp only; rw [decide_eq_false (show ¬ (1 ≤ d ∧ d ≤ 64) by omega)]; rfl
  rw [E]
  obtain ⟨e1, e2, e3⟩ := empty_of _ ht
  have HH := Lib.hid ht
  have d1 : decide ((1 : Int) ≤ d) = false := decide_eq_false (by omega)
  have d3 : ¬ ((1 : Int) ≤ d) := by omega
  clear ht hd E
  unfold rowV
  go_enter Tryd.func21, Tryd.ntmps21
  go_wp2_with fail
  all_goals try go_quiet (first | (go_at_call 38; exact quiet_id (refHold_any _ _)))
  all_goals try go_wp2_with fail
  all_goals try go_quiet (first | (go_at_call 38; exact quiet_id (refHold_any _ _)))
  all_goals try go_wp2_with fail
  all_goals try go_quiet (first | (go_at_call 38; exact quiet_id (refHold_any _ _)))
  all_goals try go_wp2
  all_goals go_ret
  all_goals
    refine ⟨rfl, ?_⟩
    first | exact below_two _ _ _ | exact below_drewN (below_two _ _ _) _ | exact below_drewN (below_drewN (below_two _ _ _) _) _ | exact below_drewN (below_drewN (below_drewN (below_two _ _ _) _) _) _
set_option maxRecDepth 100000 in
set_option maxHeartbeats 1000000 in
theorem rr_hi_e_false (d : Int) (tg : List UInt8) (x y bw bh ln : Int) (w : World) (hd : 64 < d) (ht : tg = []) (_hl : tg.length ≤ 9223372036854775807) :
    Calls Tryd.prog 21 #[rowV ⟨d, tg, ⟨false, x, y, bw, bh, ln⟩⟩] w fun e w' => e = .returned (.bool (rightR ⟨d, tg, ⟨false, x, y, bw, bh, ln⟩⟩)) ∧ Below w.heap.size w w' := by
  have E : rightR ⟨d, tg, ⟨false, x, y, bw, bh, ln⟩⟩ = false := by unfold rightR headOk; simp only; rw [decide_eq_false (show ¬ (1 ≤ d ∧ d ≤ 64) by omega)]; rfl
  rw [E]
  obtain ⟨e1, e2, e3⟩ := empty_of _ ht
  have HH := Lib.hid ht
  have d0 : (1 : Int) ≤ d := by omega
  have d1 : decide ((1 : Int) ≤ d) = true := decide_eq_true (by omega)
  have d2 : decide (d ≤ (64 : Int)) = false := decide_eq_false (by omega)
  have d3 : ¬ (d ≤ (64 : Int)) := by omega
  clear ht hd E
  unfold rowV
  go_enter Tryd.func21, Tryd.ntmps21
  go_wp2_with fail
  all_goals try go_quiet (first | (go_at_call 38; exact quiet_id (refHold_any _ _)))
  all_goals try go_wp2_with fail
  all_goals try go_quiet (first | (go_at_call 38; exact quiet_id (refHold_any _ _)))
  all_goals try go_wp2_with fail
  all_goals try go_quiet (first | (go_at_call 38; exact quiet_id (refHold_any _ _)))
  all_goals try go_wp2
  all_goals go_ret
  all_goals
    refine ⟨rfl, ?_⟩
    first | exact below_two _ _ _ | exact below_drewN (below_two _ _ _) _ | exact below_drewN (below_drewN (below_two _ _ _) _) _ | exact below_drewN (below_drewN (below_drewN (below_two _ _ _) _) _) _
set_option maxRecDepth 100000 in
set_option maxHeartbeats 1000000 in
theorem rr_lo_n0_false (d : Int) (tg : List UInt8) (x y bw bh ln : Int) (w : World) (hd : d < 1) (ht : tg ≠ []) (_hl : tg.length ≤ 9223372036854775807) :
    Calls Tryd.prog 21 #[rowV ⟨d, tg, ⟨false, x, y, bw, bh, ln⟩⟩] w fun e w' => e = .returned (.bool (rightR ⟨d, tg, ⟨false, x, y, bw, bh, ln⟩⟩)) ∧ Below w.heap.size w w' := by
  have E : rightR ⟨d, tg, ⟨false, x, y, bw, bh, ln⟩⟩ = false := by unfold rightR headOk; simp only; rw [decide_eq_false (show ¬ (1 ≤ d ∧ d ≤ 64) by omega)]; rfl
  rw [E]
  obtain ⟨e1, e2, e3⟩ := nonempty_of _ ht
  have d1 : decide ((1 : Int) ≤ d) = false := decide_eq_false (by omega)
  have d3 : ¬ ((1 : Int) ≤ d) := by omega
  clear ht hd E
  unfold rowV
  go_enter Tryd.func21, Tryd.ntmps21
  go_wp2_with fail
  all_goals try go_quiet (first | (go_at_call 38; exact quiet_id (refHold_any _ _)))
  all_goals try go_wp2_with fail
  all_goals try go_quiet (first | (go_at_call 38; exact quiet_id (refHold_any _ _)))
  all_goals try go_wp2_with fail
  all_goals try go_quiet (first | (go_at_call 38; exact quiet_id (refHold_any _ _)))
  all_goals try go_wp2
  all_goals go_ret
  all_goals
    refine ⟨rfl, ?_⟩
    first | exact below_two _ _ _ | exact below_drewN (below_two _ _ _) _ | exact below_drewN (below_drewN (below_two _ _ _) _) _ | exact below_drewN (below_drewN (below_drewN (below_two _ _ _) _) _) _
set_option maxRecDepth 100000 in
set_option maxHeartbeats 1000000 in
theorem rr_hi_n0_false (d : Int) (tg : List UInt8) (x y bw bh ln : Int) (w : World) (hd : 64 < d) (ht : tg ≠ []) (_hl : tg.length ≤ 9223372036854775807) :
    Calls Tryd.prog 21 #[rowV ⟨d, tg, ⟨false, x, y, bw, bh, ln⟩⟩] w fun e w' => e = .returned (.bool (rightR ⟨d, tg, ⟨false, x, y, bw, bh, ln⟩⟩)) ∧ Below w.heap.size w w' := by
  have E : rightR ⟨d, tg, ⟨false, x, y, bw, bh, ln⟩⟩ = false := by unfold rightR headOk; simp only; rw [decide_eq_false (show ¬ (1 ≤ d ∧ d ≤ 64) by omega)]; rfl
  rw [E]
  obtain ⟨e1, e2, e3⟩ := nonempty_of _ ht
  have d0 : (1 : Int) ≤ d := by omega
  have d1 : decide ((1 : Int) ≤ d) = true := decide_eq_true (by omega)
  have d2 : decide (d ≤ (64 : Int)) = false := decide_eq_false (by omega)
  have d3 : ¬ (d ≤ (64 : Int)) := by omega
  clear ht hd E
  unfold rowV
  go_enter Tryd.func21, Tryd.ntmps21
  go_wp2_with fail
  all_goals try go_quiet (first | (go_at_call 38; exact quiet_id (refHold_any _ _)))
  all_goals try go_wp2_with fail
  all_goals try go_quiet (first | (go_at_call 38; exact quiet_id (refHold_any _ _)))
  all_goals try go_wp2_with fail
  all_goals try go_quiet (first | (go_at_call 38; exact quiet_id (refHold_any _ _)))
  all_goals try go_wp2
  all_goals go_ret
  all_goals
    refine ⟨rfl, ?_⟩
    first | exact below_two _ _ _ | exact below_drewN (below_two _ _ _) _ | exact below_drewN (below_drewN (below_two _ _ _) _) _ | exact below_drewN (below_drewN (below_drewN (below_two _ _ _) _) _) _
set_option maxRecDepth 100000 in
set_option maxHeartbeats 1000000 in
theorem rr_tag_false (d : Int) (tg : List UInt8) (x y bw bh ln : Int) (w : World) (hd : 1 ≤ d ∧ d ≤ 64) (ht : tg ≠ []) (hn : nameB tg = false) (hl : tg.length ≤ 9223372036854775807) :
    Calls Tryd.prog 21 #[rowV ⟨d, tg, ⟨false, x, y, bw, bh, ln⟩⟩] w fun e w' => e = .returned (.bool (rightR ⟨d, tg, ⟨false, x, y, bw, bh, ln⟩⟩)) ∧ Below w.heap.size w w' := by
  have E : rightR ⟨d, tg, ⟨false, x, y, bw, bh, ln⟩⟩ = false := by unfold rightR headOk; simp only; rw [decide_eq_false ht, hn]; simp
  rw [E]
  obtain ⟨e1, e2, e3⟩ := nonempty_of _ ht
  have HH := Lib.hid ht
  have N := fun ww => refName_any (bs tg) ww (by rw [bs_size]; exact hl)
  rw [bs_data, hn] at N
  have N2 := Lib.hid N
  obtain ⟨d0, d1⟩ := hd
  clear ht hn N E
  unfold rowV
  go_enter Tryd.func21, Tryd.ntmps21
  go_wp2_with (go_at_call 37; refine (N2.out _).mono ?_; rintro e w' ⟨rfl, rfl⟩)
  all_goals try go_quiet (first | (go_at_call 37; exact quiet_id (N2.out _)) | (go_at_call 38; exact quiet_id (refHold_any _ _)))
  all_goals try go_wp2_with (go_at_call 37; refine (N2.out _).mono ?_; rintro e w' ⟨rfl, rfl⟩)
  all_goals try go_quiet (first | (go_at_call 37; exact quiet_id (N2.out _)) | (go_at_call 38; exact quiet_id (refHold_any _ _)))
  all_goals try go_wp2_with (go_at_call 37; refine (N2.out _).mono ?_; rintro e w' ⟨rfl, rfl⟩)
  all_goals try go_quiet (first | (go_at_call 37; exact quiet_id (N2.out _)) | (go_at_call 38; exact quiet_id (refHold_any _ _)))
  all_goals try go_wp2
  all_goals go_ret
  all_goals
    refine ⟨rfl, ?_⟩
    first | exact below_two _ _ _ | exact below_drewN (below_two _ _ _) _ | exact below_drewN (below_drewN (below_two _ _ _) _) _ | exact below_drewN (below_drewN (below_drewN (below_two _ _ _) _) _) _
set_option maxRecDepth 100000 in
set_option maxHeartbeats 1000000 in
theorem rr_none_e (d : Int) (tg : List UInt8) (x y bw bh ln : Int) (w : World) (hd : 1 ≤ d ∧ d ≤ 64) (ht : tg = []) (_hl : tg.length ≤ 9223372036854775807) :
    Calls Tryd.prog 21 #[rowV ⟨d, tg, ⟨false, x, y, bw, bh, ln⟩⟩] w fun e w' => e = .returned (.bool (rightR ⟨d, tg, ⟨false, x, y, bw, bh, ln⟩⟩)) ∧ Below w.heap.size w w' := by
  obtain ⟨e1, e2, e3⟩ := empty_of _ ht
  have HH := Lib.hid ht
  have EQ := fun ww => eqlB ⟨false, x, y, bw, bh, ln⟩ zeroBox ww
  have E : rightR ⟨d, tg, ⟨false, x, y, bw, bh, ln⟩⟩ = boxEq ⟨false, x, y, bw, bh, ln⟩ zeroBox := by unfold rightR headOk boxEq; simp [hd, ht]
  rw [E]
  generalize boxEq ⟨false, x, y, bw, bh, ln⟩ zeroBox = q at *
  unfold zeroBox at EQ
  simp only at EQ
  have gb := gB
  obtain ⟨d0, d1⟩ := hd
  clear ht E
  unfold rowV
  go_enter Tryd.func21, Tryd.ntmps21
  go_wp2_with fail
  all_goals try go_quiet (first | (go_at_call 38; exact quiet_id (refHold_any _ _)))
  all_goals try go_wp2_with fail
  all_goals try go_quiet (first | (go_at_call 38; exact quiet_id (refHold_any _ _)))
  all_goals try go_wp2_with fail
  all_goals try go_quiet (first | (go_at_call 38; exact quiet_id (refHold_any _ _)))
  all_goals try go_wp2
  all_goals go_ret
  all_goals
    refine ⟨rfl, ?_⟩
    first | exact below_two _ _ _ | exact below_drewN (below_two _ _ _) _ | exact below_drewN (below_drewN (below_two _ _ _) _) _ | exact below_drewN (below_drewN (below_drewN (below_two _ _ _) _) _) _
set_option maxRecDepth 100000 in
set_option maxHeartbeats 1000000 in
theorem rr_e0 (d : Int) (tg : List UInt8) (x y bw bh ln : Int) (w : World) (hd : 1 ≤ d ∧ d ≤ 64) (ht : tg = []) (hx : isHeld x = false) (_hl : tg.length ≤ 9223372036854775807) :
    Calls Tryd.prog 21 #[rowV ⟨d, tg, ⟨true, x, y, bw, bh, ln⟩⟩] w fun e w' => e = .returned (.bool (rightR ⟨d, tg, ⟨true, x, y, bw, bh, ln⟩⟩)) ∧ Below w.heap.size w w' := by
  obtain ⟨e1, e2, e3⟩ := empty_of _ ht
  have HH := Lib.hid ht
  have gx := held_no hx
  have Gx := Lib.hid hx
  obtain ⟨d0, d1⟩ := hd
  clear ht hx
  unfold rowV
  go_enter Tryd.func21, Tryd.ntmps21
  go_wp2_with fail
  all_goals try go_quiet (first | (go_at_call 38; exact quiet_id (refHold_any _ _)))
  all_goals try go_wp2_with fail
  all_goals try go_quiet (first | (go_at_call 38; exact quiet_id (refHold_any _ _)))
  all_goals try go_wp2_with fail
  all_goals try go_quiet (first | (go_at_call 38; exact quiet_id (refHold_any _ _)))
  all_goals try go_wp2
  all_goals go_ret
  all_goals
    refine ⟨ret_bo (by go_light; rw [Bool.eq_iff_iff]; simp [rightR, headOk, shownOk, HH.out, Gx.out] <;> omega), ?_⟩
    first | exact below_two _ _ _ | exact below_drewN (below_two _ _ _) _ | exact below_drewN (below_drewN (below_two _ _ _) _) _ | exact below_drewN (below_drewN (below_drewN (below_two _ _ _) _) _) _
set_option maxRecDepth 100000 in
set_option maxHeartbeats 1000000 in
theorem rr_e1 (d : Int) (tg : List UInt8) (x y bw bh ln : Int) (w : World) (hd : 1 ≤ d ∧ d ≤ 64) (ht : tg = []) (hx : isHeld x = true) (hy : isHeld y = false) (_hl : tg.length ≤ 9223372036854775807) :
    Calls Tryd.prog 21 #[rowV ⟨d, tg, ⟨true, x, y, bw, bh, ln⟩⟩] w fun e w' => e = .returned (.bool (rightR ⟨d, tg, ⟨true, x, y, bw, bh, ln⟩⟩)) ∧ Below w.heap.size w w' := by
  obtain ⟨e1, e2, e3⟩ := empty_of _ ht
  have HH := Lib.hid ht
  have gx := held_yes hx
  have Gx := Lib.hid hx
  have gy := held_no hy
  have Gy := Lib.hid hy
  obtain ⟨d0, d1⟩ := hd
  clear ht hx hy
  unfold rowV
  go_enter Tryd.func21, Tryd.ntmps21
  go_wp2_with fail
  all_goals try go_quiet (first | (go_at_call 38; exact quiet_id (refHold_any _ _)))
  all_goals try go_wp2_with fail
  all_goals try go_quiet (first | (go_at_call 38; exact quiet_id (refHold_any _ _)))
  all_goals try go_wp2_with fail
  all_goals try go_quiet (first | (go_at_call 38; exact quiet_id (refHold_any _ _)))
  all_goals try go_wp2
  all_goals go_ret
  all_goals
    refine ⟨ret_bo (by go_light; rw [Bool.eq_iff_iff]; simp [rightR, headOk, shownOk, HH.out, Gx.out, Gy.out] <;> omega), ?_⟩
    first | exact below_two _ _ _ | exact below_drewN (below_two _ _ _) _ | exact below_drewN (below_drewN (below_two _ _ _) _) _ | exact below_drewN (below_drewN (below_drewN (below_two _ _ _) _) _) _
set_option maxRecDepth 100000 in
set_option maxHeartbeats 1000000 in
theorem rr_e2 (d : Int) (tg : List UInt8) (x y bw bh ln : Int) (w : World) (hd : 1 ≤ d ∧ d ≤ 64) (ht : tg = []) (hx : isHeld x = true) (hy : isHeld y = true) (hbw : isHeld bw = false) (_hl : tg.length ≤ 9223372036854775807) :
    Calls Tryd.prog 21 #[rowV ⟨d, tg, ⟨true, x, y, bw, bh, ln⟩⟩] w fun e w' => e = .returned (.bool (rightR ⟨d, tg, ⟨true, x, y, bw, bh, ln⟩⟩)) ∧ Below w.heap.size w w' := by
  obtain ⟨e1, e2, e3⟩ := empty_of _ ht
  have HH := Lib.hid ht
  have gx := held_yes hx
  have Gx := Lib.hid hx
  have gy := held_yes hy
  have Gy := Lib.hid hy
  have gbw := held_no hbw
  have Gbw := Lib.hid hbw
  obtain ⟨d0, d1⟩ := hd
  clear ht hx hy hbw
  unfold rowV
  go_enter Tryd.func21, Tryd.ntmps21
  go_wp2_with fail
  all_goals try go_quiet (first | (go_at_call 38; exact quiet_id (refHold_any _ _)))
  all_goals try go_wp2_with fail
  all_goals try go_quiet (first | (go_at_call 38; exact quiet_id (refHold_any _ _)))
  all_goals try go_wp2_with fail
  all_goals try go_quiet (first | (go_at_call 38; exact quiet_id (refHold_any _ _)))
  all_goals try go_wp2
  all_goals go_ret
  all_goals
    refine ⟨ret_bo (by go_light; rw [Bool.eq_iff_iff]; simp [rightR, headOk, shownOk, HH.out, Gx.out, Gy.out, Gbw.out] <;> omega), ?_⟩
    first | exact below_two _ _ _ | exact below_drewN (below_two _ _ _) _ | exact below_drewN (below_drewN (below_two _ _ _) _) _ | exact below_drewN (below_drewN (below_drewN (below_two _ _ _) _) _) _
set_option maxRecDepth 100000 in
set_option maxHeartbeats 1000000 in
theorem rr_e3 (d : Int) (tg : List UInt8) (x y bw bh ln : Int) (w : World) (hd : 1 ≤ d ∧ d ≤ 64) (ht : tg = []) (hx : isHeld x = true) (hy : isHeld y = true) (hbw : isHeld bw = true) (hbh : isHeld bh = false) (_hl : tg.length ≤ 9223372036854775807) :
    Calls Tryd.prog 21 #[rowV ⟨d, tg, ⟨true, x, y, bw, bh, ln⟩⟩] w fun e w' => e = .returned (.bool (rightR ⟨d, tg, ⟨true, x, y, bw, bh, ln⟩⟩)) ∧ Below w.heap.size w w' := by
  obtain ⟨e1, e2, e3⟩ := empty_of _ ht
  have HH := Lib.hid ht
  have gx := held_yes hx
  have Gx := Lib.hid hx
  have gy := held_yes hy
  have Gy := Lib.hid hy
  have gbw := held_yes hbw
  have Gbw := Lib.hid hbw
  have gbh := held_no hbh
  have Gbh := Lib.hid hbh
  obtain ⟨d0, d1⟩ := hd
  clear ht hx hy hbw hbh
  unfold rowV
  go_enter Tryd.func21, Tryd.ntmps21
  go_wp2_with fail
  all_goals try go_quiet (first | (go_at_call 38; exact quiet_id (refHold_any _ _)))
  all_goals try go_wp2_with fail
  all_goals try go_quiet (first | (go_at_call 38; exact quiet_id (refHold_any _ _)))
  all_goals try go_wp2_with fail
  all_goals try go_quiet (first | (go_at_call 38; exact quiet_id (refHold_any _ _)))
  all_goals try go_wp2
  all_goals go_ret
  all_goals
    refine ⟨ret_bo (by go_light; rw [Bool.eq_iff_iff]; simp [rightR, headOk, shownOk, HH.out, Gx.out, Gy.out, Gbw.out, Gbh.out] <;> omega), ?_⟩
    first | exact below_two _ _ _ | exact below_drewN (below_two _ _ _) _ | exact below_drewN (below_drewN (below_two _ _ _) _) _ | exact below_drewN (below_drewN (below_drewN (below_two _ _ _) _) _) _
set_option maxRecDepth 100000 in
set_option maxHeartbeats 1000000 in
theorem rr_e4 (d : Int) (tg : List UInt8) (x y bw bh ln : Int) (w : World) (hd : 1 ≤ d ∧ d ≤ 64) (ht : tg = []) (hx : isHeld x = true) (hy : isHeld y = true) (hbw : isHeld bw = true) (hbh : isHeld bh = true) (hs1 : bw < 0) (_hl : tg.length ≤ 9223372036854775807) :
    Calls Tryd.prog 21 #[rowV ⟨d, tg, ⟨true, x, y, bw, bh, ln⟩⟩] w fun e w' => e = .returned (.bool (rightR ⟨d, tg, ⟨true, x, y, bw, bh, ln⟩⟩)) ∧ Below w.heap.size w w' := by
  obtain ⟨e1, e2, e3⟩ := empty_of _ ht
  have HH := Lib.hid ht
  have gx := held_yes hx
  have Gx := Lib.hid hx
  have gy := held_yes hy
  have Gy := Lib.hid hy
  have gbw := held_yes hbw
  have Gbw := Lib.hid hbw
  have gbh := held_yes hbh
  have Gbh := Lib.hid hbh
  have hs1d : decide ((0 : Int) ≤ bw) = false := decide_eq_false (by omega)
  have hs1n : ¬ ((0 : Int) ≤ bw) := by omega
  obtain ⟨d0, d1⟩ := hd
  clear ht hx hy hbw hbh
  unfold rowV
  go_enter Tryd.func21, Tryd.ntmps21
  go_wp2_with fail
  all_goals try go_quiet (first | (go_at_call 38; exact quiet_id (refHold_any _ _)))
  all_goals try go_wp2_with fail
  all_goals try go_quiet (first | (go_at_call 38; exact quiet_id (refHold_any _ _)))
  all_goals try go_wp2_with fail
  all_goals try go_quiet (first | (go_at_call 38; exact quiet_id (refHold_any _ _)))
  all_goals try go_wp2
  all_goals go_ret
  all_goals
    refine ⟨ret_bo (by go_light; rw [Bool.eq_iff_iff]; simp [rightR, headOk, shownOk, HH.out, Gx.out, Gy.out, Gbw.out, Gbh.out] <;> omega), ?_⟩
    first | exact below_two _ _ _ | exact below_drewN (below_two _ _ _) _ | exact below_drewN (below_drewN (below_two _ _ _) _) _ | exact below_drewN (below_drewN (below_drewN (below_two _ _ _) _) _) _
set_option maxRecDepth 100000 in
set_option maxHeartbeats 1000000 in
theorem rr_e5 (d : Int) (tg : List UInt8) (x y bw bh ln : Int) (w : World) (hd : 1 ≤ d ∧ d ≤ 64) (ht : tg = []) (hx : isHeld x = true) (hy : isHeld y = true) (hbw : isHeld bw = true) (hbh : isHeld bh = true) (hs1 : 0 ≤ bw) (hs2 : bh < 0) (_hl : tg.length ≤ 9223372036854775807) :
    Calls Tryd.prog 21 #[rowV ⟨d, tg, ⟨true, x, y, bw, bh, ln⟩⟩] w fun e w' => e = .returned (.bool (rightR ⟨d, tg, ⟨true, x, y, bw, bh, ln⟩⟩)) ∧ Below w.heap.size w w' := by
  obtain ⟨e1, e2, e3⟩ := empty_of _ ht
  have HH := Lib.hid ht
  have gx := held_yes hx
  have Gx := Lib.hid hx
  have gy := held_yes hy
  have Gy := Lib.hid hy
  have gbw := held_yes hbw
  have Gbw := Lib.hid hbw
  have gbh := held_yes hbh
  have Gbh := Lib.hid hbh
  have hs1d : decide ((0 : Int) ≤ bw) = true := decide_eq_true (by omega)
  have hs2d : decide ((0 : Int) ≤ bh) = false := decide_eq_false (by omega)
  have hs2n : ¬ ((0 : Int) ≤ bh) := by omega
  obtain ⟨d0, d1⟩ := hd
  clear ht hx hy hbw hbh
  unfold rowV
  go_enter Tryd.func21, Tryd.ntmps21
  go_wp2_with fail
  all_goals try go_quiet (first | (go_at_call 38; exact quiet_id (refHold_any _ _)))
  all_goals try go_wp2_with fail
  all_goals try go_quiet (first | (go_at_call 38; exact quiet_id (refHold_any _ _)))
  all_goals try go_wp2_with fail
  all_goals try go_quiet (first | (go_at_call 38; exact quiet_id (refHold_any _ _)))
  all_goals try go_wp2
  all_goals go_ret
  all_goals
    refine ⟨ret_bo (by go_light; rw [Bool.eq_iff_iff]; simp [rightR, headOk, shownOk, HH.out, Gx.out, Gy.out, Gbw.out, Gbh.out] <;> omega), ?_⟩
    first | exact below_two _ _ _ | exact below_drewN (below_two _ _ _) _ | exact below_drewN (below_drewN (below_two _ _ _) _) _ | exact below_drewN (below_drewN (below_drewN (below_two _ _ _) _) _) _
set_option maxRecDepth 100000 in
set_option maxHeartbeats 1000000 in
theorem rr_e6 (d : Int) (tg : List UInt8) (x y bw bh ln : Int) (w : World) (hd : 1 ≤ d ∧ d ≤ 64) (ht : tg = []) (hx : isHeld x = true) (hy : isHeld y = true) (hbw : isHeld bw = true) (hbh : isHeld bh = true) (hs1 : 0 ≤ bw) (hs2 : 0 ≤ bh) (hs3 : ln < 0) (_hl : tg.length ≤ 9223372036854775807) :
    Calls Tryd.prog 21 #[rowV ⟨d, tg, ⟨true, x, y, bw, bh, ln⟩⟩] w fun e w' => e = .returned (.bool (rightR ⟨d, tg, ⟨true, x, y, bw, bh, ln⟩⟩)) ∧ Below w.heap.size w w' := by
  obtain ⟨e1, e2, e3⟩ := empty_of _ ht
  have HH := Lib.hid ht
  have gx := held_yes hx
  have Gx := Lib.hid hx
  have gy := held_yes hy
  have Gy := Lib.hid hy
  have gbw := held_yes hbw
  have Gbw := Lib.hid hbw
  have gbh := held_yes hbh
  have Gbh := Lib.hid hbh
  have hs1d : decide ((0 : Int) ≤ bw) = true := decide_eq_true (by omega)
  have hs2d : decide ((0 : Int) ≤ bh) = true := decide_eq_true (by omega)
  have hs3d : decide ((0 : Int) ≤ ln) = false := decide_eq_false (by omega)
  have hs3n : ¬ ((0 : Int) ≤ ln) := by omega
  obtain ⟨d0, d1⟩ := hd
  clear ht hx hy hbw hbh
  unfold rowV
  go_enter Tryd.func21, Tryd.ntmps21
  go_wp2_with fail
  all_goals try go_quiet (first | (go_at_call 38; exact quiet_id (refHold_any _ _)))
  all_goals try go_wp2_with fail
  all_goals try go_quiet (first | (go_at_call 38; exact quiet_id (refHold_any _ _)))
  all_goals try go_wp2_with fail
  all_goals try go_quiet (first | (go_at_call 38; exact quiet_id (refHold_any _ _)))
  all_goals try go_wp2
  all_goals go_ret
  all_goals
    refine ⟨ret_bo (by go_light; rw [Bool.eq_iff_iff]; simp [rightR, headOk, shownOk, HH.out, Gx.out, Gy.out, Gbw.out, Gbh.out] <;> omega), ?_⟩
    first | exact below_two _ _ _ | exact below_drewN (below_two _ _ _) _ | exact below_drewN (below_drewN (below_two _ _ _) _) _ | exact below_drewN (below_drewN (below_drewN (below_two _ _ _) _) _) _
set_option maxRecDepth 100000 in
set_option maxHeartbeats 1000000 in
theorem rr_e7 (d : Int) (tg : List UInt8) (x y bw bh ln : Int) (w : World) (hd : 1 ≤ d ∧ d ≤ 64) (ht : tg = []) (hx : isHeld x = true) (hy : isHeld y = true) (hbw : isHeld bw = true) (hbh : isHeld bh = true) (hs1 : 0 ≤ bw) (hs2 : 0 ≤ bh) (hs3 : 0 ≤ ln) (hs4 : 256 < ln) (_hl : tg.length ≤ 9223372036854775807) :
    Calls Tryd.prog 21 #[rowV ⟨d, tg, ⟨true, x, y, bw, bh, ln⟩⟩] w fun e w' => e = .returned (.bool (rightR ⟨d, tg, ⟨true, x, y, bw, bh, ln⟩⟩)) ∧ Below w.heap.size w w' := by
  obtain ⟨e1, e2, e3⟩ := empty_of _ ht
  have HH := Lib.hid ht
  have gx := held_yes hx
  have Gx := Lib.hid hx
  have gy := held_yes hy
  have Gy := Lib.hid hy
  have gbw := held_yes hbw
  have Gbw := Lib.hid hbw
  have gbh := held_yes hbh
  have Gbh := Lib.hid hbh
  have hs1d : decide ((0 : Int) ≤ bw) = true := decide_eq_true (by omega)
  have hs2d : decide ((0 : Int) ≤ bh) = true := decide_eq_true (by omega)
  have hs3d : decide ((0 : Int) ≤ ln) = true := decide_eq_true (by omega)
  have hs4d : decide (ln ≤ (256 : Int)) = false := decide_eq_false (by omega)
  obtain ⟨d0, d1⟩ := hd
  clear ht hx hy hbw hbh
  unfold rowV
  go_enter Tryd.func21, Tryd.ntmps21
  go_wp2_with fail
  all_goals try go_quiet (first | (go_at_call 38; exact quiet_id (refHold_any _ _)))
  all_goals try go_wp2_with fail
  all_goals try go_quiet (first | (go_at_call 38; exact quiet_id (refHold_any _ _)))
  all_goals try go_wp2_with fail
  all_goals try go_quiet (first | (go_at_call 38; exact quiet_id (refHold_any _ _)))
  all_goals try go_wp2
  all_goals go_ret
  all_goals
    refine ⟨ret_bo (by go_light; rw [Bool.eq_iff_iff]; simp [rightR, headOk, shownOk, HH.out, Gx.out, Gy.out, Gbw.out, Gbh.out] <;> omega), ?_⟩
    first | exact below_two _ _ _ | exact below_drewN (below_two _ _ _) _ | exact below_drewN (below_drewN (below_two _ _ _) _) _ | exact below_drewN (below_drewN (below_drewN (below_two _ _ _) _) _) _
set_option maxRecDepth 100000 in
set_option maxHeartbeats 1000000 in
theorem rr_e8 (d : Int) (tg : List UInt8) (x y bw bh ln : Int) (w : World) (hd : 1 ≤ d ∧ d ≤ 64) (ht : tg = []) (hx : isHeld x = true) (hy : isHeld y = true) (hbw : isHeld bw = true) (hbh : isHeld bh = true) (hs1 : 0 ≤ bw) (hs2 : 0 ≤ bh) (hs3 : 0 ≤ ln) (hs4 : ln ≤ 256) (_hl : tg.length ≤ 9223372036854775807) :
    Calls Tryd.prog 21 #[rowV ⟨d, tg, ⟨true, x, y, bw, bh, ln⟩⟩] w fun e w' => e = .returned (.bool (rightR ⟨d, tg, ⟨true, x, y, bw, bh, ln⟩⟩)) ∧ Below w.heap.size w w' := by
  obtain ⟨e1, e2, e3⟩ := empty_of _ ht
  have HH := Lib.hid ht
  have gx := held_yes hx
  have Gx := Lib.hid hx
  have gy := held_yes hy
  have Gy := Lib.hid hy
  have gbw := held_yes hbw
  have Gbw := Lib.hid hbw
  have gbh := held_yes hbh
  have Gbh := Lib.hid hbh
  have hs1d : decide ((0 : Int) ≤ bw) = true := decide_eq_true (by omega)
  have hs2d : decide ((0 : Int) ≤ bh) = true := decide_eq_true (by omega)
  have hs3d : decide ((0 : Int) ≤ ln) = true := decide_eq_true (by omega)
  have hs4d : decide (ln ≤ (256 : Int)) = true := decide_eq_true (by omega)
  obtain ⟨d0, d1⟩ := hd
  clear ht hx hy hbw hbh
  unfold rowV
  go_enter Tryd.func21, Tryd.ntmps21
  go_wp2_with fail
  all_goals try go_quiet (first | (go_at_call 38; exact quiet_id (refHold_any _ _)))
  all_goals try go_wp2_with fail
  all_goals try go_quiet (first | (go_at_call 38; exact quiet_id (refHold_any _ _)))
  all_goals try go_wp2_with fail
  all_goals try go_quiet (first | (go_at_call 38; exact quiet_id (refHold_any _ _)))
  all_goals try go_wp2
  all_goals go_ret
  all_goals
    refine ⟨ret_bo (by go_light; rw [Bool.eq_iff_iff]; simp [rightR, headOk, shownOk, HH.out, Gx.out, Gy.out, Gbw.out, Gbh.out] <;> omega), ?_⟩
    first | exact below_two _ _ _ | exact below_drewN (below_two _ _ _) _ | exact below_drewN (below_drewN (below_two _ _ _) _) _ | exact below_drewN (below_drewN (below_drewN (below_two _ _ _) _) _) _
set_option maxRecDepth 100000 in
set_option maxHeartbeats 1000000 in
theorem rr_none_n (d : Int) (tg : List UInt8) (x y bw bh ln : Int) (w : World) (hd : 1 ≤ d ∧ d ≤ 64) (ht : tg ≠ []) (hn : nameB tg = true) (hl : tg.length ≤ 9223372036854775807) :
    Calls Tryd.prog 21 #[rowV ⟨d, tg, ⟨false, x, y, bw, bh, ln⟩⟩] w fun e w' => e = .returned (.bool (rightR ⟨d, tg, ⟨false, x, y, bw, bh, ln⟩⟩)) ∧ Below w.heap.size w w' := by
  obtain ⟨e1, e2, e3⟩ := nonempty_of _ ht
  have HH := Lib.hid ht
  have HN := Lib.hid hn
  have N := fun ww => refName_any (bs tg) ww (by rw [bs_size]; exact hl)
  rw [bs_data, hn] at N
  have N2 := Lib.hid N
  have EQ := fun ww => eqlB ⟨false, x, y, bw, bh, ln⟩ zeroBox ww
  have E : rightR ⟨d, tg, ⟨false, x, y, bw, bh, ln⟩⟩ = boxEq ⟨false, x, y, bw, bh, ln⟩ zeroBox := by unfold rightR headOk boxEq; simp [hd, hn]
  rw [E]
  generalize boxEq ⟨false, x, y, bw, bh, ln⟩ zeroBox = q at *
  unfold zeroBox at EQ
  simp only at EQ
  have gb := gB
  obtain ⟨d0, d1⟩ := hd
  clear ht hn N E
  unfold rowV
  go_enter Tryd.func21, Tryd.ntmps21
  go_wp2_with (go_at_call 37; refine (N2.out _).mono ?_; rintro e w' ⟨rfl, rfl⟩)
  all_goals try go_quiet (first | (go_at_call 37; exact quiet_id (N2.out _)) | (go_at_call 38; exact quiet_id (refHold_any _ _)))
  all_goals try go_wp2_with (go_at_call 37; refine (N2.out _).mono ?_; rintro e w' ⟨rfl, rfl⟩)
  all_goals try go_quiet (first | (go_at_call 37; exact quiet_id (N2.out _)) | (go_at_call 38; exact quiet_id (refHold_any _ _)))
  all_goals try go_wp2_with (go_at_call 37; refine (N2.out _).mono ?_; rintro e w' ⟨rfl, rfl⟩)
  all_goals try go_quiet (first | (go_at_call 37; exact quiet_id (N2.out _)) | (go_at_call 38; exact quiet_id (refHold_any _ _)))
  all_goals try go_wp2
  all_goals go_ret
  all_goals
    refine ⟨rfl, ?_⟩
    first | exact below_two _ _ _ | exact below_drewN (below_two _ _ _) _ | exact below_drewN (below_drewN (below_two _ _ _) _) _ | exact below_drewN (below_drewN (below_drewN (below_two _ _ _) _) _) _
set_option maxRecDepth 100000 in
set_option maxHeartbeats 1000000 in
theorem rr_n0 (d : Int) (tg : List UInt8) (x y bw bh ln : Int) (w : World) (hd : 1 ≤ d ∧ d ≤ 64) (ht : tg ≠ []) (hn : nameB tg = true) (hx : isHeld x = false) (hl : tg.length ≤ 9223372036854775807) :
    Calls Tryd.prog 21 #[rowV ⟨d, tg, ⟨true, x, y, bw, bh, ln⟩⟩] w fun e w' => e = .returned (.bool (rightR ⟨d, tg, ⟨true, x, y, bw, bh, ln⟩⟩)) ∧ Below w.heap.size w w' := by
  obtain ⟨e1, e2, e3⟩ := nonempty_of _ ht
  have HH := Lib.hid ht
  have HN := Lib.hid hn
  have N := fun ww => refName_any (bs tg) ww (by rw [bs_size]; exact hl)
  rw [bs_data, hn] at N
  have N2 := Lib.hid N
  have gx := held_no hx
  have Gx := Lib.hid hx
  obtain ⟨d0, d1⟩ := hd
  clear ht hn N hx
  unfold rowV
  go_enter Tryd.func21, Tryd.ntmps21
  go_wp2_with (go_at_call 37; refine (N2.out _).mono ?_; rintro e w' ⟨rfl, rfl⟩)
  all_goals try go_quiet (first | (go_at_call 37; exact quiet_id (N2.out _)) | (go_at_call 38; exact quiet_id (refHold_any _ _)))
  all_goals try go_wp2_with (go_at_call 37; refine (N2.out _).mono ?_; rintro e w' ⟨rfl, rfl⟩)
  all_goals try go_quiet (first | (go_at_call 37; exact quiet_id (N2.out _)) | (go_at_call 38; exact quiet_id (refHold_any _ _)))
  all_goals try go_wp2_with (go_at_call 37; refine (N2.out _).mono ?_; rintro e w' ⟨rfl, rfl⟩)
  all_goals try go_quiet (first | (go_at_call 37; exact quiet_id (N2.out _)) | (go_at_call 38; exact quiet_id (refHold_any _ _)))
  all_goals try go_wp2
  all_goals go_ret
  all_goals
    refine ⟨ret_bo (by go_light; rw [Bool.eq_iff_iff]; simp [rightR, headOk, shownOk, HH.out, HN.out, Gx.out] <;> omega), ?_⟩
    first | exact below_two _ _ _ | exact below_drewN (below_two _ _ _) _ | exact below_drewN (below_drewN (below_two _ _ _) _) _ | exact below_drewN (below_drewN (below_drewN (below_two _ _ _) _) _) _
set_option maxRecDepth 100000 in
set_option maxHeartbeats 1000000 in
theorem rr_n1 (d : Int) (tg : List UInt8) (x y bw bh ln : Int) (w : World) (hd : 1 ≤ d ∧ d ≤ 64) (ht : tg ≠ []) (hn : nameB tg = true) (hx : isHeld x = true) (hy : isHeld y = false) (hl : tg.length ≤ 9223372036854775807) :
    Calls Tryd.prog 21 #[rowV ⟨d, tg, ⟨true, x, y, bw, bh, ln⟩⟩] w fun e w' => e = .returned (.bool (rightR ⟨d, tg, ⟨true, x, y, bw, bh, ln⟩⟩)) ∧ Below w.heap.size w w' := by
  obtain ⟨e1, e2, e3⟩ := nonempty_of _ ht
  have HH := Lib.hid ht
  have HN := Lib.hid hn
  have N := fun ww => refName_any (bs tg) ww (by rw [bs_size]; exact hl)
  rw [bs_data, hn] at N
  have N2 := Lib.hid N
  have gx := held_yes hx
  have Gx := Lib.hid hx
  have gy := held_no hy
  have Gy := Lib.hid hy
  obtain ⟨d0, d1⟩ := hd
  clear ht hn N hx hy
  unfold rowV
  go_enter Tryd.func21, Tryd.ntmps21
  go_wp2_with (go_at_call 37; refine (N2.out _).mono ?_; rintro e w' ⟨rfl, rfl⟩)
  all_goals try go_quiet (first | (go_at_call 37; exact quiet_id (N2.out _)) | (go_at_call 38; exact quiet_id (refHold_any _ _)))
  all_goals try go_wp2_with (go_at_call 37; refine (N2.out _).mono ?_; rintro e w' ⟨rfl, rfl⟩)
  all_goals try go_quiet (first | (go_at_call 37; exact quiet_id (N2.out _)) | (go_at_call 38; exact quiet_id (refHold_any _ _)))
  all_goals try go_wp2_with (go_at_call 37; refine (N2.out _).mono ?_; rintro e w' ⟨rfl, rfl⟩)
  all_goals try go_quiet (first | (go_at_call 37; exact quiet_id (N2.out _)) | (go_at_call 38; exact quiet_id (refHold_any _ _)))
  all_goals try go_wp2
  all_goals go_ret
  all_goals
    refine ⟨ret_bo (by go_light; rw [Bool.eq_iff_iff]; simp [rightR, headOk, shownOk, HH.out, HN.out, Gx.out, Gy.out] <;> omega), ?_⟩
    first | exact below_two _ _ _ | exact below_drewN (below_two _ _ _) _ | exact below_drewN (below_drewN (below_two _ _ _) _) _ | exact below_drewN (below_drewN (below_drewN (below_two _ _ _) _) _) _
set_option maxRecDepth 100000 in
set_option maxHeartbeats 1000000 in
theorem rr_n2 (d : Int) (tg : List UInt8) (x y bw bh ln : Int) (w : World) (hd : 1 ≤ d ∧ d ≤ 64) (ht : tg ≠ []) (hn : nameB tg = true) (hx : isHeld x = true) (hy : isHeld y = true) (hbw : isHeld bw = false) (hl : tg.length ≤ 9223372036854775807) :
    Calls Tryd.prog 21 #[rowV ⟨d, tg, ⟨true, x, y, bw, bh, ln⟩⟩] w fun e w' => e = .returned (.bool (rightR ⟨d, tg, ⟨true, x, y, bw, bh, ln⟩⟩)) ∧ Below w.heap.size w w' := by
  obtain ⟨e1, e2, e3⟩ := nonempty_of _ ht
  have HH := Lib.hid ht
  have HN := Lib.hid hn
  have N := fun ww => refName_any (bs tg) ww (by rw [bs_size]; exact hl)
  rw [bs_data, hn] at N
  have N2 := Lib.hid N
  have gx := held_yes hx
  have Gx := Lib.hid hx
  have gy := held_yes hy
  have Gy := Lib.hid hy
  have gbw := held_no hbw
  have Gbw := Lib.hid hbw
  obtain ⟨d0, d1⟩ := hd
  clear ht hn N hx hy hbw
  unfold rowV
  go_enter Tryd.func21, Tryd.ntmps21
  go_wp2_with (go_at_call 37; refine (N2.out _).mono ?_; rintro e w' ⟨rfl, rfl⟩)
  all_goals try go_quiet (first | (go_at_call 37; exact quiet_id (N2.out _)) | (go_at_call 38; exact quiet_id (refHold_any _ _)))
  all_goals try go_wp2_with (go_at_call 37; refine (N2.out _).mono ?_; rintro e w' ⟨rfl, rfl⟩)
  all_goals try go_quiet (first | (go_at_call 37; exact quiet_id (N2.out _)) | (go_at_call 38; exact quiet_id (refHold_any _ _)))
  all_goals try go_wp2_with (go_at_call 37; refine (N2.out _).mono ?_; rintro e w' ⟨rfl, rfl⟩)
  all_goals try go_quiet (first | (go_at_call 37; exact quiet_id (N2.out _)) | (go_at_call 38; exact quiet_id (refHold_any _ _)))
  all_goals try go_wp2
  all_goals go_ret
  all_goals
    refine ⟨ret_bo (by go_light; rw [Bool.eq_iff_iff]; simp [rightR, headOk, shownOk, HH.out, HN.out, Gx.out, Gy.out, Gbw.out] <;> omega), ?_⟩
    first | exact below_two _ _ _ | exact below_drewN (below_two _ _ _) _ | exact below_drewN (below_drewN (below_two _ _ _) _) _ | exact below_drewN (below_drewN (below_drewN (below_two _ _ _) _) _) _
set_option maxRecDepth 100000 in
set_option maxHeartbeats 1000000 in
theorem rr_n3 (d : Int) (tg : List UInt8) (x y bw bh ln : Int) (w : World) (hd : 1 ≤ d ∧ d ≤ 64) (ht : tg ≠ []) (hn : nameB tg = true) (hx : isHeld x = true) (hy : isHeld y = true) (hbw : isHeld bw = true) (hbh : isHeld bh = false) (hl : tg.length ≤ 9223372036854775807) :
    Calls Tryd.prog 21 #[rowV ⟨d, tg, ⟨true, x, y, bw, bh, ln⟩⟩] w fun e w' => e = .returned (.bool (rightR ⟨d, tg, ⟨true, x, y, bw, bh, ln⟩⟩)) ∧ Below w.heap.size w w' := by
  obtain ⟨e1, e2, e3⟩ := nonempty_of _ ht
  have HH := Lib.hid ht
  have HN := Lib.hid hn
  have N := fun ww => refName_any (bs tg) ww (by rw [bs_size]; exact hl)
  rw [bs_data, hn] at N
  have N2 := Lib.hid N
  have gx := held_yes hx
  have Gx := Lib.hid hx
  have gy := held_yes hy
  have Gy := Lib.hid hy
  have gbw := held_yes hbw
  have Gbw := Lib.hid hbw
  have gbh := held_no hbh
  have Gbh := Lib.hid hbh
  obtain ⟨d0, d1⟩ := hd
  clear ht hn N hx hy hbw hbh
  unfold rowV
  go_enter Tryd.func21, Tryd.ntmps21
  go_wp2_with (go_at_call 37; refine (N2.out _).mono ?_; rintro e w' ⟨rfl, rfl⟩)
  all_goals try go_quiet (first | (go_at_call 37; exact quiet_id (N2.out _)) | (go_at_call 38; exact quiet_id (refHold_any _ _)))
  all_goals try go_wp2_with (go_at_call 37; refine (N2.out _).mono ?_; rintro e w' ⟨rfl, rfl⟩)
  all_goals try go_quiet (first | (go_at_call 37; exact quiet_id (N2.out _)) | (go_at_call 38; exact quiet_id (refHold_any _ _)))
  all_goals try go_wp2_with (go_at_call 37; refine (N2.out _).mono ?_; rintro e w' ⟨rfl, rfl⟩)
  all_goals try go_quiet (first | (go_at_call 37; exact quiet_id (N2.out _)) | (go_at_call 38; exact quiet_id (refHold_any _ _)))
  all_goals try go_wp2
  all_goals go_ret
  all_goals
    refine ⟨ret_bo (by go_light; rw [Bool.eq_iff_iff]; simp [rightR, headOk, shownOk, HH.out, HN.out, Gx.out, Gy.out, Gbw.out, Gbh.out] <;> omega), ?_⟩
    first | exact below_two _ _ _ | exact below_drewN (below_two _ _ _) _ | exact below_drewN (below_drewN (below_two _ _ _) _) _ | exact below_drewN (below_drewN (below_drewN (below_two _ _ _) _) _) _
set_option maxRecDepth 100000 in
set_option maxHeartbeats 1000000 in
theorem rr_n4 (d : Int) (tg : List UInt8) (x y bw bh ln : Int) (w : World) (hd : 1 ≤ d ∧ d ≤ 64) (ht : tg ≠ []) (hn : nameB tg = true) (hx : isHeld x = true) (hy : isHeld y = true) (hbw : isHeld bw = true) (hbh : isHeld bh = true) (hs1 : bw < 0) (hl : tg.length ≤ 9223372036854775807) :
    Calls Tryd.prog 21 #[rowV ⟨d, tg, ⟨true, x, y, bw, bh, ln⟩⟩] w fun e w' => e = .returned (.bool (rightR ⟨d, tg, ⟨true, x, y, bw, bh, ln⟩⟩)) ∧ Below w.heap.size w w' := by
  obtain ⟨e1, e2, e3⟩ := nonempty_of _ ht
  have HH := Lib.hid ht
  have HN := Lib.hid hn
  have N := fun ww => refName_any (bs tg) ww (by rw [bs_size]; exact hl)
  rw [bs_data, hn] at N
  have N2 := Lib.hid N
  have gx := held_yes hx
  have Gx := Lib.hid hx
  have gy := held_yes hy
  have Gy := Lib.hid hy
  have gbw := held_yes hbw
  have Gbw := Lib.hid hbw
  have gbh := held_yes hbh
  have Gbh := Lib.hid hbh
  have hs1d : decide ((0 : Int) ≤ bw) = false := decide_eq_false (by omega)
  have hs1n : ¬ ((0 : Int) ≤ bw) := by omega
  obtain ⟨d0, d1⟩ := hd
  clear ht hn N hx hy hbw hbh
  unfold rowV
  go_enter Tryd.func21, Tryd.ntmps21
  go_wp2_with (go_at_call 37; refine (N2.out _).mono ?_; rintro e w' ⟨rfl, rfl⟩)
  all_goals try go_quiet (first | (go_at_call 37; exact quiet_id (N2.out _)) | (go_at_call 38; exact quiet_id (refHold_any _ _)))
  all_goals try go_wp2_with (go_at_call 37; refine (N2.out _).mono ?_; rintro e w' ⟨rfl, rfl⟩)
  all_goals try go_quiet (first | (go_at_call 37; exact quiet_id (N2.out _)) | (go_at_call 38; exact quiet_id (refHold_any _ _)))
  all_goals try go_wp2_with (go_at_call 37; refine (N2.out _).mono ?_; rintro e w' ⟨rfl, rfl⟩)
  all_goals try go_quiet (first | (go_at_call 37; exact quiet_id (N2.out _)) | (go_at_call 38; exact quiet_id (refHold_any _ _)))
  all_goals try go_wp2
  all_goals go_ret
  all_goals
    refine ⟨ret_bo (by go_light; rw [Bool.eq_iff_iff]; simp [rightR, headOk, shownOk, HH.out, HN.out, Gx.out, Gy.out, Gbw.out, Gbh.out] <;> omega), ?_⟩
    first | exact below_two _ _ _ | exact below_drewN (below_two _ _ _) _ | exact below_drewN (below_drewN (below_two _ _ _) _) _ | exact below_drewN (below_drewN (below_drewN (below_two _ _ _) _) _) _
set_option maxRecDepth 100000 in
set_option maxHeartbeats 1000000 in
theorem rr_n5 (d : Int) (tg : List UInt8) (x y bw bh ln : Int) (w : World) (hd : 1 ≤ d ∧ d ≤ 64) (ht : tg ≠ []) (hn : nameB tg = true) (hx : isHeld x = true) (hy : isHeld y = true) (hbw : isHeld bw = true) (hbh : isHeld bh = true) (hs1 : 0 ≤ bw) (hs2 : bh < 0) (hl : tg.length ≤ 9223372036854775807) :
    Calls Tryd.prog 21 #[rowV ⟨d, tg, ⟨true, x, y, bw, bh, ln⟩⟩] w fun e w' => e = .returned (.bool (rightR ⟨d, tg, ⟨true, x, y, bw, bh, ln⟩⟩)) ∧ Below w.heap.size w w' := by
  obtain ⟨e1, e2, e3⟩ := nonempty_of _ ht
  have HH := Lib.hid ht
  have HN := Lib.hid hn
  have N := fun ww => refName_any (bs tg) ww (by rw [bs_size]; exact hl)
  rw [bs_data, hn] at N
  have N2 := Lib.hid N
  have gx := held_yes hx
  have Gx := Lib.hid hx
  have gy := held_yes hy
  have Gy := Lib.hid hy
  have gbw := held_yes hbw
  have Gbw := Lib.hid hbw
  have gbh := held_yes hbh
  have Gbh := Lib.hid hbh
  have hs1d : decide ((0 : Int) ≤ bw) = true := decide_eq_true (by omega)
  have hs2d : decide ((0 : Int) ≤ bh) = false := decide_eq_false (by omega)
  have hs2n : ¬ ((0 : Int) ≤ bh) := by omega
  obtain ⟨d0, d1⟩ := hd
  clear ht hn N hx hy hbw hbh
  unfold rowV
  go_enter Tryd.func21, Tryd.ntmps21
  go_wp2_with (go_at_call 37; refine (N2.out _).mono ?_; rintro e w' ⟨rfl, rfl⟩)
  all_goals try go_quiet (first | (go_at_call 37; exact quiet_id (N2.out _)) | (go_at_call 38; exact quiet_id (refHold_any _ _)))
  all_goals try go_wp2_with (go_at_call 37; refine (N2.out _).mono ?_; rintro e w' ⟨rfl, rfl⟩)
  all_goals try go_quiet (first | (go_at_call 37; exact quiet_id (N2.out _)) | (go_at_call 38; exact quiet_id (refHold_any _ _)))
  all_goals try go_wp2_with (go_at_call 37; refine (N2.out _).mono ?_; rintro e w' ⟨rfl, rfl⟩)
  all_goals try go_quiet (first | (go_at_call 37; exact quiet_id (N2.out _)) | (go_at_call 38; exact quiet_id (refHold_any _ _)))
  all_goals try go_wp2
  all_goals go_ret
  all_goals
    refine ⟨ret_bo (by go_light; rw [Bool.eq_iff_iff]; simp [rightR, headOk, shownOk, HH.out, HN.out, Gx.out, Gy.out, Gbw.out, Gbh.out] <;> omega), ?_⟩
    first | exact below_two _ _ _ | exact below_drewN (below_two _ _ _) _ | exact below_drewN (below_drewN (below_two _ _ _) _) _ | exact below_drewN (below_drewN (below_drewN (below_two _ _ _) _) _) _
set_option maxRecDepth 100000 in
set_option maxHeartbeats 1000000 in
theorem rr_n6 (d : Int) (tg : List UInt8) (x y bw bh ln : Int) (w : World) (hd : 1 ≤ d ∧ d ≤ 64) (ht : tg ≠ []) (hn : nameB tg = true) (hx : isHeld x = true) (hy : isHeld y = true) (hbw : isHeld bw = true) (hbh : isHeld bh = true) (hs1 : 0 ≤ bw) (hs2 : 0 ≤ bh) (hl : tg.length ≤ 9223372036854775807) :
    Calls Tryd.prog 21 #[rowV ⟨d, tg, ⟨true, x, y, bw, bh, ln⟩⟩] w fun e w' => e = .returned (.bool (rightR ⟨d, tg, ⟨true, x, y, bw, bh, ln⟩⟩)) ∧ Below w.heap.size w w' := by
  obtain ⟨e1, e2, e3⟩ := nonempty_of _ ht
  have HH := Lib.hid ht
  have HN := Lib.hid hn
  have N := fun ww => refName_any (bs tg) ww (by rw [bs_size]; exact hl)
  rw [bs_data, hn] at N
  have N2 := Lib.hid N
  have gx := held_yes hx
  have Gx := Lib.hid hx
  have gy := held_yes hy
  have Gy := Lib.hid hy
  have gbw := held_yes hbw
  have Gbw := Lib.hid hbw
  have gbh := held_yes hbh
  have Gbh := Lib.hid hbh
  have hs1d : decide ((0 : Int) ≤ bw) = true := decide_eq_true (by omega)
  have hs2d : decide ((0 : Int) ≤ bh) = true := decide_eq_true (by omega)
  obtain ⟨d0, d1⟩ := hd
  clear ht hn N hx hy hbw hbh
  unfold rowV
  go_enter Tryd.func21, Tryd.ntmps21
  go_wp2_with (go_at_call 37; refine (N2.out _).mono ?_; rintro e w' ⟨rfl, rfl⟩)
  all_goals try go_quiet (first | (go_at_call 37; exact quiet_id (N2.out _)) | (go_at_call 38; exact quiet_id (refHold_any _ _)))
  all_goals try go_wp2_with (go_at_call 37; refine (N2.out _).mono ?_; rintro e w' ⟨rfl, rfl⟩)
  all_goals try go_quiet (first | (go_at_call 37; exact quiet_id (N2.out _)) | (go_at_call 38; exact quiet_id (refHold_any _ _)))
  all_goals try go_wp2_with (go_at_call 37; refine (N2.out _).mono ?_; rintro e w' ⟨rfl, rfl⟩)
  all_goals try go_quiet (first | (go_at_call 37; exact quiet_id (N2.out _)) | (go_at_call 38; exact quiet_id (refHold_any _ _)))
  all_goals try go_wp2
  all_goals go_ret
  all_goals
    refine ⟨ret_bo (by go_light; rw [Bool.eq_iff_iff]; simp [rightR, headOk, shownOk, HH.out, HN.out, Gx.out, Gy.out, Gbw.out, Gbh.out] <;> omega), ?_⟩
    first | exact below_two _ _ _ | exact below_drewN (below_two _ _ _) _ | exact below_drewN (below_drewN (below_two _ _ _) _) _ | exact below_drewN (below_drewN (below_drewN (below_two _ _ _) _) _) _
theorem rright_any (r : RowP) (w : World) (hl : r.tag.length ≤ 9223372036854775807) :
    Calls Tryd.prog 21 #[rowV r] w fun e w' => e = .returned (.bool (rightR r)) ∧ Below w.heap.size w w' := by
  obtain ⟨d, tg, ⟨sh, x, y, bw, bh, ln⟩⟩ := r
  by_cases hd : 1 ≤ d ∧ d ≤ 64
  · by_cases ht : tg = []
    · cases sh
      · exact rr_none_e d tg x y bw bh ln w hd ht hl
      · cases hx : isHeld x
        · exact rr_e0 d tg x y bw bh ln w hd ht hx hl
        · cases hy : isHeld y
          · exact rr_e1 d tg x y bw bh ln w hd ht hx hy hl
          · cases hw : isHeld bw
            · exact rr_e2 d tg x y bw bh ln w hd ht hx hy hw hl
            · cases hh : isHeld bh
              · exact rr_e3 d tg x y bw bh ln w hd ht hx hy hw hh hl
              · by_cases s1 : bw < 0
                · exact rr_e4 d tg x y bw bh ln w hd ht hx hy hw hh s1 hl
                · by_cases s2 : bh < 0
                  · exact rr_e5 d tg x y bw bh ln w hd ht hx hy hw hh (by omega) s2 hl
                  · by_cases s3 : ln < 0
                    · exact rr_e6 d tg x y bw bh ln w hd ht hx hy hw hh (by omega) (by omega) s3 hl
                    · by_cases s4 : 256 < ln
                      · exact rr_e7 d tg x y bw bh ln w hd ht hx hy hw hh (by omega) (by omega) (by omega) s4 hl
                      · exact rr_e8 d tg x y bw bh ln w hd ht hx hy hw hh (by omega) (by omega) (by omega) (by omega) hl
    · cases hn : nameB tg
      · cases sh
        · exact rr_tag_false d tg x y bw bh ln w hd ht hn hl
        · exact rr_tag_true d tg x y bw bh ln w hd ht hn hl
      · cases sh
        · exact rr_none_n d tg x y bw bh ln w hd ht hn hl
        · cases hx : isHeld x
          · exact rr_n0 d tg x y bw bh ln w hd ht hn hx hl
          · cases hy : isHeld y
            · exact rr_n1 d tg x y bw bh ln w hd ht hn hx hy hl
            · cases hw : isHeld bw
              · exact rr_n2 d tg x y bw bh ln w hd ht hn hx hy hw hl
              · cases hh : isHeld bh
                · exact rr_n3 d tg x y bw bh ln w hd ht hn hx hy hw hh hl
                · by_cases s1 : bw < 0
                  · exact rr_n4 d tg x y bw bh ln w hd ht hn hx hy hw hh s1 hl
                  · by_cases s2 : bh < 0
                    · exact rr_n5 d tg x y bw bh ln w hd ht hn hx hy hw hh (by omega) s2 hl
                    · exact rr_n6 d tg x y bw bh ln w hd ht hn hx hy hw hh (by omega) (by omega) hl
  · by_cases ht : tg = []
    · by_cases h1 : d < 1
      · cases sh
        · exact rr_lo_e_false d tg x y bw bh ln w h1 ht hl
        · exact rr_lo_e_true d tg x y bw bh ln w h1 ht hl
      · cases sh
        · exact rr_hi_e_false d tg x y bw bh ln w (by omega) ht hl
        · exact rr_hi_e_true d tg x y bw bh ln w (by omega) ht hl
    · by_cases h1 : d < 1
      · cases sh
        · exact rr_lo_n0_false d tg x y bw bh ln w h1 ht hl
        · exact rr_lo_n0_true d tg x y bw bh ln w h1 ht hl
      · cases sh
        · exact rr_hi_n0_false d tg x y bw bh ln w (by omega) ht hl
        · exact rr_hi_n0_true d tg x y bw bh ln w (by omega) ht hl
end Go.Proofs.YtcoaidpiignheaaDoor
