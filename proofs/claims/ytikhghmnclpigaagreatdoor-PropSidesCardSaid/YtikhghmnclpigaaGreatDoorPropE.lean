/-
  The walk of layer 10's prop.Takes. (printed by gen_takes.py)
-/
import Derived.Test.YtikhghmnclpigaaGreatDoorPropD
namespace Go.Proofs.YtikhghmnclpigaaGreatDoor
open Go.RowKit Wsc

set_option maxRecDepth 100000 in
set_option maxHeartbeats 400000 in
theorem takes_lo (p : Int) (v : Val) (w : World) (hg : Gl w) (h1 : p < 1) :
    Calls Tryz.prog 8 #[.int .i64 p, .agg #[.int .i64 v.kind, .int .i64 v.n, .int .i64 v.d, .string (bs v.name)]] w fun e w' => e = .returned (.bool (false)) ∧ Below w.heap.size w w' := by
  have HC := Lib.hid (box4 v w)
  have HG := Lib.hid (fun ww (hb : Below (w.alloc (.cells #[.int .i64 v.kind, .int .i64 v.n, .int .i64 v.d, .string (bs v.name)] 23)).heap.size (w.alloc (.cells #[.int .i64 v.kind, .int .i64 v.n, .int .i64 v.d, .string (bs v.name)] 23)) ww) => hg.below (after1 hb))
  go_enter Tryz.func8, Tryz.ntmps8
  go_wp2
  all_goals go_ret
  all_goals (refine ⟨rfl, ?_⟩; first | exact (Below.refl _ _).alloc (Nat.le_refl _) _)
set_option maxRecDepth 100000 in
set_option maxHeartbeats 400000 in
theorem takes_hi (p : Int) (v : Val) (w : World) (hg : Gl w) (h1 : 37 < p) :
    Calls Tryz.prog 8 #[.int .i64 p, .agg #[.int .i64 v.kind, .int .i64 v.n, .int .i64 v.d, .string (bs v.name)]] w fun e w' => e = .returned (.bool (false)) ∧ Below w.heap.size w w' := by
  have HC := Lib.hid (box4 v w)
  have HG := Lib.hid (fun ww (hb : Below (w.alloc (.cells #[.int .i64 v.kind, .int .i64 v.n, .int .i64 v.d, .string (bs v.name)] 23)).heap.size (w.alloc (.cells #[.int .i64 v.kind, .int .i64 v.n, .int .i64 v.d, .string (bs v.name)] 23)) ww) => hg.below (after1 hb))
  go_enter Tryz.func8, Tryz.ntmps8
  go_wp2
  all_goals go_ret
  all_goals (refine ⟨rfl, ?_⟩; first | exact (Below.refl _ _).alloc (Nat.le_refl _) _)
set_option maxRecDepth 100000 in
set_option maxHeartbeats 400000 in
theorem takes_wrong (p : Int) (v : Val) (w : World) (hg : Gl w) (h1 : 1 ≤ p) (h2 : p ≤ 37) (hr : rightV v = false) :
    Calls Tryz.prog 8 #[.int .i64 p, .agg #[.int .i64 v.kind, .int .i64 v.n, .int .i64 v.d, .string (bs v.name)]] w fun e w' => e = .returned (.bool (false)) ∧ Below w.heap.size w w' := by
  have HC := Lib.hid (box4 v w)
  have HG := Lib.hid (fun ww (hb : Below (w.alloc (.cells #[.int .i64 v.kind, .int .i64 v.n, .int .i64 v.d, .string (bs v.name)] 23)).heap.size (w.alloc (.cells #[.int .i64 v.kind, .int .i64 v.n, .int .i64 v.d, .string (bs v.name)] 23)) ww) => hg.below (after1 hb))
  have R := right_any v (w.alloc (.cells #[.int .i64 v.kind, .int .i64 v.n, .int .i64 v.d, .string (bs v.name)] 23)) (HG.out _ (Below.refl _ _))
  unfold valV at R
  rw [hr] at R
  have R := Lib.hid R
  clear hr
  go_enter Tryz.func8, Tryz.ntmps8
  go_wp2_with (go_at_call 28; refine R.out.mono ?_; rintro e w1 ⟨rfl, hb⟩; obtain ⟨c0, c1, c2, c3⟩ := HC.out _ hb)
  all_goals go_ret
  all_goals (refine ⟨rfl, ?_⟩; first | exact after1 hb | exact (Below.refl _ _).alloc (Nat.le_refl _) _)
set_option maxRecDepth 100000 in
set_option maxHeartbeats 400000 in
theorem takes_glob (p : Int) (v : Val) (w : World) (hg : Gl w) (h1 : 1 ≤ p) (h2 : p ≤ 37) (hr : rightV v = true) (hgl : oneB v [28, 29, 30] = true) :
    Calls Tryz.prog 8 #[.int .i64 p, .agg #[.int .i64 v.kind, .int .i64 v.n, .int .i64 v.d, .string (bs v.name)]] w fun e w' => e = .returned (.bool (true)) ∧ Below w.heap.size w w' := by
  have HC := Lib.hid (box4 v w)
  have HG := Lib.hid (fun ww (hb : Below (w.alloc (.cells #[.int .i64 v.kind, .int .i64 v.n, .int .i64 v.d, .string (bs v.name)] 23)).heap.size (w.alloc (.cells #[.int .i64 v.kind, .int .i64 v.n, .int .i64 v.d, .string (bs v.name)] 23)) ww) => hg.below (after1 hb))
  have R := right_any v (w.alloc (.cells #[.int .i64 v.kind, .int .i64 v.n, .int .i64 v.d, .string (bs v.name)] 23)) (HG.out _ (Below.refl _ _))
  unfold valV at R
  rw [hr] at R
  have R := Lib.hid R
  clear hr
  have OG := fun ww (hb : Below (w.alloc (.cells #[.int .i64 v.kind, .int .i64 v.n, .int .i64 v.d, .string (bs v.name)] 23)).heap.size (w.alloc (.cells #[.int .i64 v.kind, .int .i64 v.n, .int .i64 v.d, .string (bs v.name)] 23)) ww) => one_28_29_30 v ww (HG.out _ hb)
  rw [hgl] at OG
  have OG := Lib.hid OG
  clear hgl
  go_enter Tryz.func8, Tryz.ntmps8
  go_wp2_with (first | (go_at_call 29; refine (OG.out _ hb).mono ?_; rintro e w2 ⟨rfl, hb2⟩; have hb3 := hb.trans (hb2.mono hb.size); obtain ⟨d0, d1, d2, d3⟩ := HC.out _ hb3) | (go_at_call 28; refine R.out.mono ?_; rintro e w1 ⟨rfl, hb⟩; obtain ⟨c0, c1, c2, c3⟩ := HC.out _ hb))
  all_goals go_ret
  all_goals (refine ⟨rfl, ?_⟩; first | exact after1 hb3 | exact after1 hb | exact (Below.refl _ _).alloc (Nat.le_refl _) _)
set_option maxRecDepth 100000 in
set_option maxHeartbeats 400000 in
theorem takes_1 (v : Val) (w : World) (hg : Gl w) (hr : rightV v = true) (hgl : oneB v [28, 29, 30] = false) :
    Calls Tryz.prog 8 #[.int .i64 1, .agg #[.int .i64 v.kind, .int .i64 v.n, .int .i64 v.d, .string (bs v.name)]] w fun e w' => e = .returned (.bool (oneB v [3, 4, 2])) ∧ Below w.heap.size w w' := by
  have HC := Lib.hid (box4 v w)
  have HG := Lib.hid (fun ww (hb : Below (w.alloc (.cells #[.int .i64 v.kind, .int .i64 v.n, .int .i64 v.d, .string (bs v.name)] 23)).heap.size (w.alloc (.cells #[.int .i64 v.kind, .int .i64 v.n, .int .i64 v.d, .string (bs v.name)] 23)) ww) => hg.below (after1 hb))
  have R := right_any v (w.alloc (.cells #[.int .i64 v.kind, .int .i64 v.n, .int .i64 v.d, .string (bs v.name)] 23)) (HG.out _ (Below.refl _ _))
  unfold valV at R
  rw [hr] at R
  have R := Lib.hid R
  clear hr
  have OG := fun ww (hb : Below (w.alloc (.cells #[.int .i64 v.kind, .int .i64 v.n, .int .i64 v.d, .string (bs v.name)] 23)).heap.size (w.alloc (.cells #[.int .i64 v.kind, .int .i64 v.n, .int .i64 v.d, .string (bs v.name)] 23)) ww) => one_28_29_30 v ww (HG.out _ hb)
  rw [hgl] at OG
  have OG := Lib.hid OG
  clear hgl
  have ON := fun ww (hb : Below (w.alloc (.cells #[.int .i64 v.kind, .int .i64 v.n, .int .i64 v.d, .string (bs v.name)] 23)).heap.size (w.alloc (.cells #[.int .i64 v.kind, .int .i64 v.n, .int .i64 v.d, .string (bs v.name)] 23)) ww) => one_3_4_2 v ww (HG.out _ hb)
  generalize hb0 : oneB v [3, 4, 2] = r at *
  clear hb0
  have ON := Lib.hid ON
  go_enter Tryz.func8, Tryz.ntmps8
  go_wp2_with (first | (go_at_call 29; refine (ON.out _ hb3).mono ?_; rintro e w3 ⟨rfl, hb4⟩; have hb5 := hb3.trans (hb4.mono hb3.size); obtain ⟨e0, e1, e2, e3⟩ := HC.out _ hb5) | (go_at_call 29; refine (OG.out _ hb).mono ?_; rintro e w2 ⟨rfl, hb2⟩; have hb3 := hb.trans (hb2.mono hb.size); obtain ⟨d0, d1, d2, d3⟩ := HC.out _ hb3) | (go_at_call 28; refine R.out.mono ?_; rintro e w1 ⟨rfl, hb⟩; obtain ⟨c0, c1, c2, c3⟩ := HC.out _ hb))
  all_goals go_ret
  all_goals (refine ⟨rfl, ?_⟩; first | exact after1 hb5 | exact after1 hb3 | exact after1 hb | exact (Below.refl _ _).alloc (Nat.le_refl _) _)
set_option maxRecDepth 100000 in
set_option maxHeartbeats 400000 in
theorem takes_2 (v : Val) (w : World) (hg : Gl w) (hr : rightV v = true) (hgl : oneB v [28, 29, 30] = false) :
    Calls Tryz.prog 8 #[.int .i64 2, .agg #[.int .i64 v.kind, .int .i64 v.n, .int .i64 v.d, .string (bs v.name)]] w fun e w' => e = .returned (.bool (oneB v [5, 6])) ∧ Below w.heap.size w w' := by
  have HC := Lib.hid (box4 v w)
  have HG := Lib.hid (fun ww (hb : Below (w.alloc (.cells #[.int .i64 v.kind, .int .i64 v.n, .int .i64 v.d, .string (bs v.name)] 23)).heap.size (w.alloc (.cells #[.int .i64 v.kind, .int .i64 v.n, .int .i64 v.d, .string (bs v.name)] 23)) ww) => hg.below (after1 hb))
  have R := right_any v (w.alloc (.cells #[.int .i64 v.kind, .int .i64 v.n, .int .i64 v.d, .string (bs v.name)] 23)) (HG.out _ (Below.refl _ _))
  unfold valV at R
  rw [hr] at R
  have R := Lib.hid R
  clear hr
  have OG := fun ww (hb : Below (w.alloc (.cells #[.int .i64 v.kind, .int .i64 v.n, .int .i64 v.d, .string (bs v.name)] 23)).heap.size (w.alloc (.cells #[.int .i64 v.kind, .int .i64 v.n, .int .i64 v.d, .string (bs v.name)] 23)) ww) => one_28_29_30 v ww (HG.out _ hb)
  rw [hgl] at OG
  have OG := Lib.hid OG
  clear hgl
  have ON := fun ww (hb : Below (w.alloc (.cells #[.int .i64 v.kind, .int .i64 v.n, .int .i64 v.d, .string (bs v.name)] 23)).heap.size (w.alloc (.cells #[.int .i64 v.kind, .int .i64 v.n, .int .i64 v.d, .string (bs v.name)] 23)) ww) => one_5_6 v ww (HG.out _ hb)
  generalize hb0 : oneB v [5, 6] = r at *
  clear hb0
  have ON := Lib.hid ON
  go_enter Tryz.func8, Tryz.ntmps8
  go_wp2_with (first | (go_at_call 29; refine (ON.out _ hb3).mono ?_; rintro e w3 ⟨rfl, hb4⟩; have hb5 := hb3.trans (hb4.mono hb3.size); obtain ⟨e0, e1, e2, e3⟩ := HC.out _ hb5) | (go_at_call 29; refine (OG.out _ hb).mono ?_; rintro e w2 ⟨rfl, hb2⟩; have hb3 := hb.trans (hb2.mono hb.size); obtain ⟨d0, d1, d2, d3⟩ := HC.out _ hb3) | (go_at_call 28; refine R.out.mono ?_; rintro e w1 ⟨rfl, hb⟩; obtain ⟨c0, c1, c2, c3⟩ := HC.out _ hb))
  all_goals go_ret
  all_goals (refine ⟨rfl, ?_⟩; first | exact after1 hb5 | exact after1 hb3 | exact after1 hb | exact (Below.refl _ _).alloc (Nat.le_refl _) _)
set_option maxRecDepth 100000 in
set_option maxHeartbeats 400000 in
theorem takes_sized (p : Int) (v : Val) (w : World) (hg : Gl w) (h1 : 3 ≤ p) (h2 : p < 9) (hr : rightV v = true) (hgl : oneB v [28, 29, 30] = false) :
    Calls Tryz.prog 8 #[.int .i64 p, .agg #[.int .i64 v.kind, .int .i64 v.n, .int .i64 v.d, .string (bs v.name)]] w fun e w' => e = .returned (.bool (sizedB p v)) ∧ Below w.heap.size w w' := by
  have HC := Lib.hid (box4 v w)
  have HG := Lib.hid (fun ww (hb : Below (w.alloc (.cells #[.int .i64 v.kind, .int .i64 v.n, .int .i64 v.d, .string (bs v.name)] 23)).heap.size (w.alloc (.cells #[.int .i64 v.kind, .int .i64 v.n, .int .i64 v.d, .string (bs v.name)] 23)) ww) => hg.below (after1 hb))
  have R := right_any v (w.alloc (.cells #[.int .i64 v.kind, .int .i64 v.n, .int .i64 v.d, .string (bs v.name)] 23)) (HG.out _ (Below.refl _ _))
  unfold valV at R
  rw [hr] at R
  have R := Lib.hid R
  clear hr
  have OG := fun ww (hb : Below (w.alloc (.cells #[.int .i64 v.kind, .int .i64 v.n, .int .i64 v.d, .string (bs v.name)] 23)).heap.size (w.alloc (.cells #[.int .i64 v.kind, .int .i64 v.n, .int .i64 v.d, .string (bs v.name)] 23)) ww) => one_28_29_30 v ww (HG.out _ hb)
  rw [hgl] at OG
  have OG := Lib.hid OG
  clear hgl
  have ON := Lib.hid (fun ww (hb : Below (w.alloc (.cells #[.int .i64 v.kind, .int .i64 v.n, .int .i64 v.d, .string (bs v.name)] 23)).heap.size (w.alloc (.cells #[.int .i64 v.kind, .int .i64 v.n, .int .i64 v.d, .string (bs v.name)] 23)) ww) => sized_any p v ww (HG.out _ hb))
  generalize hb0 : sizedB p v = r at *
  clear hb0
  go_enter Tryz.func8, Tryz.ntmps8
  go_wp2_with (first | (go_at_call 30; refine (ON.out _ hb3).mono ?_; rintro e w3 ⟨rfl, hb4⟩; have hb5 := hb3.trans (hb4.mono hb3.size)) | (go_at_call 29; refine (OG.out _ hb).mono ?_; rintro e w2 ⟨rfl, hb2⟩; have hb3 := hb.trans (hb2.mono hb.size); obtain ⟨d0, d1, d2, d3⟩ := HC.out _ hb3) | (go_at_call 28; refine R.out.mono ?_; rintro e w1 ⟨rfl, hb⟩; obtain ⟨c0, c1, c2, c3⟩ := HC.out _ hb))
  all_goals go_ret
  all_goals (refine ⟨rfl, ?_⟩; first | exact after1 hb5 | exact after1 hb3 | exact after1 hb | exact (Below.refl _ _).alloc (Nat.le_refl _) _)
set_option maxRecDepth 100000 in
set_option maxHeartbeats 400000 in
theorem takes_edged (p : Int) (v : Val) (w : World) (hg : Gl w) (h1 : 9 ≤ p) (h2 : p < 21) (hr : rightV v = true) (hgl : oneB v [28, 29, 30] = false) :
    Calls Tryz.prog 8 #[.int .i64 p, .agg #[.int .i64 v.kind, .int .i64 v.n, .int .i64 v.d, .string (bs v.name)]] w fun e w' => e = .returned (.bool (edgedB p v)) ∧ Below w.heap.size w w' := by
  have HC := Lib.hid (box4 v w)
  have HG := Lib.hid (fun ww (hb : Below (w.alloc (.cells #[.int .i64 v.kind, .int .i64 v.n, .int .i64 v.d, .string (bs v.name)] 23)).heap.size (w.alloc (.cells #[.int .i64 v.kind, .int .i64 v.n, .int .i64 v.d, .string (bs v.name)] 23)) ww) => hg.below (after1 hb))
  have R := right_any v (w.alloc (.cells #[.int .i64 v.kind, .int .i64 v.n, .int .i64 v.d, .string (bs v.name)] 23)) (HG.out _ (Below.refl _ _))
  unfold valV at R
  rw [hr] at R
  have R := Lib.hid R
  clear hr
  have OG := fun ww (hb : Below (w.alloc (.cells #[.int .i64 v.kind, .int .i64 v.n, .int .i64 v.d, .string (bs v.name)] 23)).heap.size (w.alloc (.cells #[.int .i64 v.kind, .int .i64 v.n, .int .i64 v.d, .string (bs v.name)] 23)) ww) => one_28_29_30 v ww (HG.out _ hb)
  rw [hgl] at OG
  have OG := Lib.hid OG
  clear hgl
  have ON := Lib.hid (fun ww (hb : Below (w.alloc (.cells #[.int .i64 v.kind, .int .i64 v.n, .int .i64 v.d, .string (bs v.name)] 23)).heap.size (w.alloc (.cells #[.int .i64 v.kind, .int .i64 v.n, .int .i64 v.d, .string (bs v.name)] 23)) ww) => edged_any p v ww (HG.out _ hb))
  generalize hb0 : edgedB p v = r at *
  clear hb0
  go_enter Tryz.func8, Tryz.ntmps8
  go_wp2_with (first | (go_at_call 31; refine (ON.out _ hb3).mono ?_; rintro e w3 ⟨rfl, hb4⟩; have hb5 := hb3.trans (hb4.mono hb3.size)) | (go_at_call 29; refine (OG.out _ hb).mono ?_; rintro e w2 ⟨rfl, hb2⟩; have hb3 := hb.trans (hb2.mono hb.size); obtain ⟨d0, d1, d2, d3⟩ := HC.out _ hb3) | (go_at_call 28; refine R.out.mono ?_; rintro e w1 ⟨rfl, hb⟩; obtain ⟨c0, c1, c2, c3⟩ := HC.out _ hb))
  all_goals go_ret
  all_goals (refine ⟨rfl, ?_⟩; first | exact after1 hb5 | exact after1 hb3 | exact after1 hb | exact (Below.refl _ _).alloc (Nat.le_refl _) _)
set_option maxRecDepth 100000 in
set_option maxHeartbeats 400000 in
theorem takes_21t (v : Val) (w : World) (hg : Gl w) (hon : oneB v [1] = true) (hr : rightV v = true) (hgl : oneB v [28, 29, 30] = false) :
    Calls Tryz.prog 8 #[.int .i64 21, .agg #[.int .i64 v.kind, .int .i64 v.n, .int .i64 v.d, .string (bs v.name)]] w fun e w' => e = .returned (.bool (true)) ∧ Below w.heap.size w w' := by
  have HC := Lib.hid (box4 v w)
  have HG := Lib.hid (fun ww (hb : Below (w.alloc (.cells #[.int .i64 v.kind, .int .i64 v.n, .int .i64 v.d, .string (bs v.name)] 23)).heap.size (w.alloc (.cells #[.int .i64 v.kind, .int .i64 v.n, .int .i64 v.d, .string (bs v.name)] 23)) ww) => hg.below (after1 hb))
  have R := right_any v (w.alloc (.cells #[.int .i64 v.kind, .int .i64 v.n, .int .i64 v.d, .string (bs v.name)] 23)) (HG.out _ (Below.refl _ _))
  unfold valV at R
  rw [hr] at R
  have R := Lib.hid R
  clear hr
  have OG := fun ww (hb : Below (w.alloc (.cells #[.int .i64 v.kind, .int .i64 v.n, .int .i64 v.d, .string (bs v.name)] 23)).heap.size (w.alloc (.cells #[.int .i64 v.kind, .int .i64 v.n, .int .i64 v.d, .string (bs v.name)] 23)) ww) => one_28_29_30 v ww (HG.out _ hb)
  rw [hgl] at OG
  have OG := Lib.hid OG
  clear hgl
  have ON := fun ww (hb : Below (w.alloc (.cells #[.int .i64 v.kind, .int .i64 v.n, .int .i64 v.d, .string (bs v.name)] 23)).heap.size (w.alloc (.cells #[.int .i64 v.kind, .int .i64 v.n, .int .i64 v.d, .string (bs v.name)] 23)) ww) => one_1 v ww (HG.out _ hb)
  rw [hon] at ON
  have ON := Lib.hid ON
  go_enter Tryz.func8, Tryz.ntmps8
  go_wp2_with (first | (go_at_call 29; refine (ON.out _ hb3).mono ?_; rintro e w3 ⟨rfl, hb4⟩; have hb5 := hb3.trans (hb4.mono hb3.size); obtain ⟨e0, e1, e2, e3⟩ := HC.out _ hb5) | (go_at_call 29; refine (OG.out _ hb).mono ?_; rintro e w2 ⟨rfl, hb2⟩; have hb3 := hb.trans (hb2.mono hb.size); obtain ⟨d0, d1, d2, d3⟩ := HC.out _ hb3) | (go_at_call 28; refine R.out.mono ?_; rintro e w1 ⟨rfl, hb⟩; obtain ⟨c0, c1, c2, c3⟩ := HC.out _ hb))
  all_goals go_ret
  all_goals (refine ⟨rfl, ?_⟩; first | exact after1 hb5 | exact after1 hb3 | exact after1 hb | exact (Below.refl _ _).alloc (Nat.le_refl _) _)
set_option maxRecDepth 100000 in
set_option maxHeartbeats 400000 in
theorem takes_21f (v : Val) (w : World) (hg : Gl w) (hon : oneB v [1] = false) (hr : rightV v = true) (hgl : oneB v [28, 29, 30] = false) :
    Calls Tryz.prog 8 #[.int .i64 21, .agg #[.int .i64 v.kind, .int .i64 v.n, .int .i64 v.d, .string (bs v.name)]] w fun e w' => e = .returned (.bool ((decide (v.kind = 4) && decide (0 < v.n)) || (decide (v.kind = 5) && decide (0 < v.n) && decide (0 < v.d)))) ∧ Below w.heap.size w w' := by
  have HC := Lib.hid (box4 v w)
  have HG := Lib.hid (fun ww (hb : Below (w.alloc (.cells #[.int .i64 v.kind, .int .i64 v.n, .int .i64 v.d, .string (bs v.name)] 23)).heap.size (w.alloc (.cells #[.int .i64 v.kind, .int .i64 v.n, .int .i64 v.d, .string (bs v.name)] 23)) ww) => hg.below (after1 hb))
  have R := right_any v (w.alloc (.cells #[.int .i64 v.kind, .int .i64 v.n, .int .i64 v.d, .string (bs v.name)] 23)) (HG.out _ (Below.refl _ _))
  unfold valV at R
  rw [hr] at R
  have R := Lib.hid R
  clear hr
  have OG := fun ww (hb : Below (w.alloc (.cells #[.int .i64 v.kind, .int .i64 v.n, .int .i64 v.d, .string (bs v.name)] 23)).heap.size (w.alloc (.cells #[.int .i64 v.kind, .int .i64 v.n, .int .i64 v.d, .string (bs v.name)] 23)) ww) => one_28_29_30 v ww (HG.out _ hb)
  rw [hgl] at OG
  have OG := Lib.hid OG
  clear hgl
  have ON := fun ww (hb : Below (w.alloc (.cells #[.int .i64 v.kind, .int .i64 v.n, .int .i64 v.d, .string (bs v.name)] 23)).heap.size (w.alloc (.cells #[.int .i64 v.kind, .int .i64 v.n, .int .i64 v.d, .string (bs v.name)] 23)) ww) => one_1 v ww (HG.out _ hb)
  rw [hon] at ON
  have ON := Lib.hid ON
  go_enter Tryz.func8, Tryz.ntmps8
  go_wp2_with (first | (go_at_call 29; refine (ON.out _ hb3).mono ?_; rintro e w3 ⟨rfl, hb4⟩; have hb5 := hb3.trans (hb4.mono hb3.size); obtain ⟨e0, e1, e2, e3⟩ := HC.out _ hb5) | (go_at_call 29; refine (OG.out _ hb).mono ?_; rintro e w2 ⟨rfl, hb2⟩; have hb3 := hb.trans (hb2.mono hb.size); obtain ⟨d0, d1, d2, d3⟩ := HC.out _ hb3) | (go_at_call 28; refine R.out.mono ?_; rintro e w1 ⟨rfl, hb⟩; obtain ⟨c0, c1, c2, c3⟩ := HC.out _ hb))
  all_goals go_ret
  all_goals (refine ⟨ret_bb (by clear HC HG R OG ON; first | rfl | (rw [Bool.eq_iff_iff]; simp_all <;> omega)), ?_⟩; first | exact after1 hb5 | exact after1 hb3 | exact after1 hb | exact (Below.refl _ _).alloc (Nat.le_refl _) _)
set_option maxRecDepth 100000 in
set_option maxHeartbeats 400000 in
theorem takes_flexed (p : Int) (v : Val) (w : World) (hg : Gl w) (h1 : 22 ≤ p) (h2 : p < 28) (hr : rightV v = true) (hgl : oneB v [28, 29, 30] = false) :
    Calls Tryz.prog 8 #[.int .i64 p, .agg #[.int .i64 v.kind, .int .i64 v.n, .int .i64 v.d, .string (bs v.name)]] w fun e w' => e = .returned (.bool (flexedB p v)) ∧ Below w.heap.size w w' := by
  have HC := Lib.hid (box4 v w)
  have HG := Lib.hid (fun ww (hb : Below (w.alloc (.cells #[.int .i64 v.kind, .int .i64 v.n, .int .i64 v.d, .string (bs v.name)] 23)).heap.size (w.alloc (.cells #[.int .i64 v.kind, .int .i64 v.n, .int .i64 v.d, .string (bs v.name)] 23)) ww) => hg.below (after1 hb))
  have R := right_any v (w.alloc (.cells #[.int .i64 v.kind, .int .i64 v.n, .int .i64 v.d, .string (bs v.name)] 23)) (HG.out _ (Below.refl _ _))
  unfold valV at R
  rw [hr] at R
  have R := Lib.hid R
  clear hr
  have OG := fun ww (hb : Below (w.alloc (.cells #[.int .i64 v.kind, .int .i64 v.n, .int .i64 v.d, .string (bs v.name)] 23)).heap.size (w.alloc (.cells #[.int .i64 v.kind, .int .i64 v.n, .int .i64 v.d, .string (bs v.name)] 23)) ww) => one_28_29_30 v ww (HG.out _ hb)
  rw [hgl] at OG
  have OG := Lib.hid OG
  clear hgl
  have ON := Lib.hid (fun ww (hb : Below (w.alloc (.cells #[.int .i64 v.kind, .int .i64 v.n, .int .i64 v.d, .string (bs v.name)] 23)).heap.size (w.alloc (.cells #[.int .i64 v.kind, .int .i64 v.n, .int .i64 v.d, .string (bs v.name)] 23)) ww) => flexed_any p v ww (HG.out _ hb))
  generalize hb0 : flexedB p v = r at *
  clear hb0
  go_enter Tryz.func8, Tryz.ntmps8
  go_wp2_with (first | (go_at_call 32; refine (ON.out _ hb3).mono ?_; rintro e w3 ⟨rfl, hb4⟩; have hb5 := hb3.trans (hb4.mono hb3.size)) | (go_at_call 29; refine (OG.out _ hb).mono ?_; rintro e w2 ⟨rfl, hb2⟩; have hb3 := hb.trans (hb2.mono hb.size); obtain ⟨d0, d1, d2, d3⟩ := HC.out _ hb3) | (go_at_call 28; refine R.out.mono ?_; rintro e w1 ⟨rfl, hb⟩; obtain ⟨c0, c1, c2, c3⟩ := HC.out _ hb))
  all_goals go_ret
  all_goals (refine ⟨rfl, ?_⟩; first | exact after1 hb5 | exact after1 hb3 | exact after1 hb | exact (Below.refl _ _).alloc (Nat.le_refl _) _)
set_option maxRecDepth 100000 in
set_option maxHeartbeats 400000 in
theorem takes_aligned (p : Int) (v : Val) (w : World) (hg : Gl w) (h1 : 28 ≤ p) (h2 : p ≤ 37) (hr : rightV v = true) (hgl : oneB v [28, 29, 30] = false) :
    Calls Tryz.prog 8 #[.int .i64 p, .agg #[.int .i64 v.kind, .int .i64 v.n, .int .i64 v.d, .string (bs v.name)]] w fun e w' => e = .returned (.bool (alignedB p v)) ∧ Below w.heap.size w w' := by
  have HC := Lib.hid (box4 v w)
  have HG := Lib.hid (fun ww (hb : Below (w.alloc (.cells #[.int .i64 v.kind, .int .i64 v.n, .int .i64 v.d, .string (bs v.name)] 23)).heap.size (w.alloc (.cells #[.int .i64 v.kind, .int .i64 v.n, .int .i64 v.d, .string (bs v.name)] 23)) ww) => hg.below (after1 hb))
  have R := right_any v (w.alloc (.cells #[.int .i64 v.kind, .int .i64 v.n, .int .i64 v.d, .string (bs v.name)] 23)) (HG.out _ (Below.refl _ _))
  unfold valV at R
  rw [hr] at R
  have R := Lib.hid R
  clear hr
  have OG := fun ww (hb : Below (w.alloc (.cells #[.int .i64 v.kind, .int .i64 v.n, .int .i64 v.d, .string (bs v.name)] 23)).heap.size (w.alloc (.cells #[.int .i64 v.kind, .int .i64 v.n, .int .i64 v.d, .string (bs v.name)] 23)) ww) => one_28_29_30 v ww (HG.out _ hb)
  rw [hgl] at OG
  have OG := Lib.hid OG
  clear hgl
  have ON := Lib.hid (fun ww (hb : Below (w.alloc (.cells #[.int .i64 v.kind, .int .i64 v.n, .int .i64 v.d, .string (bs v.name)] 23)).heap.size (w.alloc (.cells #[.int .i64 v.kind, .int .i64 v.n, .int .i64 v.d, .string (bs v.name)] 23)) ww) => aligned_any p v ww (HG.out _ hb))
  generalize hb0 : alignedB p v = r at *
  clear hb0
  go_enter Tryz.func8, Tryz.ntmps8
  go_wp2_with (first | (go_at_call 33; refine (ON.out _ hb3).mono ?_; rintro e w3 ⟨rfl, hb4⟩; have hb5 := hb3.trans (hb4.mono hb3.size)) | (go_at_call 29; refine (OG.out _ hb).mono ?_; rintro e w2 ⟨rfl, hb2⟩; have hb3 := hb.trans (hb2.mono hb.size); obtain ⟨d0, d1, d2, d3⟩ := HC.out _ hb3) | (go_at_call 28; refine R.out.mono ?_; rintro e w1 ⟨rfl, hb⟩; obtain ⟨c0, c1, c2, c3⟩ := HC.out _ hb))
  all_goals go_ret
  all_goals (refine ⟨rfl, ?_⟩; first | exact after1 hb5 | exact after1 hb3 | exact after1 hb | exact (Below.refl _ _).alloc (Nat.le_refl _) _)
/-- does a property take a value? -/
theorem takes_any (p : Int) (v : Val) (w : World) (hg : Gl w) :
    Calls Tryz.prog 8 #[.int .i64 p, .agg #[.int .i64 v.kind, .int .i64 v.n, .int .i64 v.d, .string (bs v.name)]] w fun e w' => e = .returned (.bool (takesM p v)) ∧ Below w.heap.size w w' := by
  unfold takesM
  by_cases h1 : p < 1
  · rw [if_pos (Or.inl h1)]; exact takes_lo p v w hg h1
  by_cases h2 : 37 < p
  · rw [if_pos (Or.inr (Or.inl h2))]; exact takes_hi p v w hg h2
  cases hr : rightV v
  · rw [if_pos (Or.inr (Or.inr rfl))]; exact takes_wrong p v w hg (by omega) (by omega) hr
  rw [if_neg (by simp; omega)]
  cases hl : oneB v [28, 29, 30]
  · rw [if_neg (by simp)]
    by_cases e1 : p = 1
    · subst e1; exact takes_1 v w hg hr hl
    rw [if_neg e1]
    by_cases e2 : p = 2
    · subst e2; exact takes_2 v w hg hr hl
    rw [if_neg e2]
    by_cases e3 : p < 9
    · rw [if_pos e3]; exact takes_sized p v w hg (by omega) e3 hr hl
    rw [if_neg e3]
    by_cases e4 : p < 21
    · rw [if_pos e4]; exact takes_edged p v w hg (by omega) e4 hr hl
    rw [if_neg e4]
    by_cases e5 : p = 21
    · subst e5
      rw [if_pos rfl]
      cases ho : oneB v [1]
      · rw [Bool.false_or]; exact takes_21f v w hg ho hr hl
      · exact takes_21t v w hg ho hr hl
    rw [if_neg e5]
    by_cases e6 : p < 28
    · rw [if_pos e6]; exact takes_flexed p v w hg (by omega) e6 hr hl
    · rw [if_neg e6]; exact takes_aligned p v w hg (by omega) (by omega) hr hl
  · rw [if_pos rfl]; exact takes_glob p v w hg (by omega) (by omega) hr hl
end Go.Proofs.YtikhghmnclpigaaGreatDoor
