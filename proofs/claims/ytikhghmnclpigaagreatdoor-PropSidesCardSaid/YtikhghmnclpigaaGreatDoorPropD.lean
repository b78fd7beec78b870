/-
  The walks of layer 10: what sizes, edges, what flexes and what aligns take. (printed by gen_takes.py)
-/
import Derived.Test.YtikhghmnclpigaaGreatDoorPropA
namespace Go.Proofs.YtikhghmnclpigaaGreatDoor
open Go.RowKit Wsc

set_option maxRecDepth 100000 in
theorem sized_up (p : Int) (v : Val) (w : World) (hg : Gl w) (hf : upB v = true) :
    Calls Tryz.prog 30 #[.int .i64 p, .agg #[.int .i64 v.kind, .int .i64 v.n, .int .i64 v.d, .string (bs v.name)]] w fun e w' => e = .returned (.bool (true)) ∧ Below w.heap.size w w' := by
  have HC := Lib.hid (box4 v w)
  have HG := Lib.hid (fun ww (hb : Below (w.alloc (.cells #[.int .i64 v.kind, .int .i64 v.n, .int .i64 v.d, .string (bs v.name)] 23)).heap.size (w.alloc (.cells #[.int .i64 v.kind, .int .i64 v.n, .int .i64 v.d, .string (bs v.name)] 23)) ww) => hg.below (after1 hb))
  have HR := Lib.hid (Below.refl (w.alloc (.cells #[.int .i64 v.kind, .int .i64 v.n, .int .i64 v.d, .string (bs v.name)] 23)).heap.size (w.alloc (.cells #[.int .i64 v.kind, .int .i64 v.n, .int .i64 v.d, .string (bs v.name)] 23)))
  have U := up_any v
  rw [hf] at U
  have U := Lib.hid U
  go_enter Tryz.func30, Tryz.ntmps30
  go_wp2_with (go_at_call 63; refine (U.out _).mono ?_; rintro e w1 ⟨rfl, hb⟩; obtain ⟨c0, c1, c2, c3⟩ := HC.out _ hb)
  all_goals go_ret
  all_goals (refine ⟨rfl, ?_⟩; first | exact hb | exact after1 hb | exact (Below.refl _ _).alloc (Nat.le_refl _) _)
set_option maxRecDepth 100000 in
theorem sized_3 (v : Val) (w : World) (hg : Gl w) (hf : upB v = false) :
    Calls Tryz.prog 30 #[.int .i64 3, .agg #[.int .i64 v.kind, .int .i64 v.n, .int .i64 v.d, .string (bs v.name)]] w fun e w' => e = .returned (.bool (oneB v [1, 7, 8, 9])) ∧ Below w.heap.size w w' := by
  have HC := Lib.hid (box4 v w)
  have HG := Lib.hid (fun ww (hb : Below (w.alloc (.cells #[.int .i64 v.kind, .int .i64 v.n, .int .i64 v.d, .string (bs v.name)] 23)).heap.size (w.alloc (.cells #[.int .i64 v.kind, .int .i64 v.n, .int .i64 v.d, .string (bs v.name)] 23)) ww) => hg.below (after1 hb))
  have HR := Lib.hid (Below.refl (w.alloc (.cells #[.int .i64 v.kind, .int .i64 v.n, .int .i64 v.d, .string (bs v.name)] 23)).heap.size (w.alloc (.cells #[.int .i64 v.kind, .int .i64 v.n, .int .i64 v.d, .string (bs v.name)] 23)))
  have U := up_any v
  rw [hf] at U
  have U := Lib.hid U
  have ON := Lib.hid (fun ww (hb : Below (w.alloc (.cells #[.int .i64 v.kind, .int .i64 v.n, .int .i64 v.d, .string (bs v.name)] 23)).heap.size (w.alloc (.cells #[.int .i64 v.kind, .int .i64 v.n, .int .i64 v.d, .string (bs v.name)] 23)) ww) => two_1__7_8_9 v ww (HG.out _ hb))
  generalize hb0 : oneB v [1, 7, 8, 9] = r at *
  clear hb0
  go_enter Tryz.func30, Tryz.ntmps30
  go_wp2_with (first | (go_at_call 63; refine (U.out _).mono ?_; rintro e w1 ⟨rfl, hb⟩; obtain ⟨c0, c1, c2, c3⟩ := HC.out _ hb) | (go_at_call 29; refine (ON.out _ hb).mono ?_; rintro e w2 ⟨rfl, hb2⟩))
  all_goals go_ret
  all_goals (refine ⟨rfl, ?_⟩; first | exact after1 (hb.trans (hb2.mono hb.size)) | exact after1 hb | exact (Below.refl _ _).alloc (Nat.le_refl _) _)
set_option maxRecDepth 100000 in
theorem sized_5 (v : Val) (w : World) (hg : Gl w) (hf : upB v = false) :
    Calls Tryz.prog 30 #[.int .i64 5, .agg #[.int .i64 v.kind, .int .i64 v.n, .int .i64 v.d, .string (bs v.name)]] w fun e w' => e = .returned (.bool (oneB v [1, 7, 8, 9])) ∧ Below w.heap.size w w' := by
  have HC := Lib.hid (box4 v w)
  have HG := Lib.hid (fun ww (hb : Below (w.alloc (.cells #[.int .i64 v.kind, .int .i64 v.n, .int .i64 v.d, .string (bs v.name)] 23)).heap.size (w.alloc (.cells #[.int .i64 v.kind, .int .i64 v.n, .int .i64 v.d, .string (bs v.name)] 23)) ww) => hg.below (after1 hb))
  have HR := Lib.hid (Below.refl (w.alloc (.cells #[.int .i64 v.kind, .int .i64 v.n, .int .i64 v.d, .string (bs v.name)] 23)).heap.size (w.alloc (.cells #[.int .i64 v.kind, .int .i64 v.n, .int .i64 v.d, .string (bs v.name)] 23)))
  have U := up_any v
  rw [hf] at U
  have U := Lib.hid U
  have ON := Lib.hid (fun ww (hb : Below (w.alloc (.cells #[.int .i64 v.kind, .int .i64 v.n, .int .i64 v.d, .string (bs v.name)] 23)).heap.size (w.alloc (.cells #[.int .i64 v.kind, .int .i64 v.n, .int .i64 v.d, .string (bs v.name)] 23)) ww) => two_1__7_8_9 v ww (HG.out _ hb))
  generalize hb0 : oneB v [1, 7, 8, 9] = r at *
  clear hb0
  go_enter Tryz.func30, Tryz.ntmps30
  go_wp2_with (first | (go_at_call 63; refine (U.out _).mono ?_; rintro e w1 ⟨rfl, hb⟩; obtain ⟨c0, c1, c2, c3⟩ := HC.out _ hb) | (go_at_call 29; refine (ON.out _ hb).mono ?_; rintro e w2 ⟨rfl, hb2⟩))
  all_goals go_ret
  all_goals (refine ⟨rfl, ?_⟩; first | exact after1 (hb.trans (hb2.mono hb.size)) | exact after1 hb | exact (Below.refl _ _).alloc (Nat.le_refl _) _)
set_option maxRecDepth 100000 in
theorem sized_7 (v : Val) (w : World) (hg : Gl w) (hf : upB v = false) :
    Calls Tryz.prog 30 #[.int .i64 7, .agg #[.int .i64 v.kind, .int .i64 v.n, .int .i64 v.d, .string (bs v.name)]] w fun e w' => e = .returned (.bool (oneB v [2, 7, 8, 9])) ∧ Below w.heap.size w w' := by
  have HC := Lib.hid (box4 v w)
  have HG := Lib.hid (fun ww (hb : Below (w.alloc (.cells #[.int .i64 v.kind, .int .i64 v.n, .int .i64 v.d, .string (bs v.name)] 23)).heap.size (w.alloc (.cells #[.int .i64 v.kind, .int .i64 v.n, .int .i64 v.d, .string (bs v.name)] 23)) ww) => hg.below (after1 hb))
  have HR := Lib.hid (Below.refl (w.alloc (.cells #[.int .i64 v.kind, .int .i64 v.n, .int .i64 v.d, .string (bs v.name)] 23)).heap.size (w.alloc (.cells #[.int .i64 v.kind, .int .i64 v.n, .int .i64 v.d, .string (bs v.name)] 23)))
  have U := up_any v
  rw [hf] at U
  have U := Lib.hid U
  have ON := Lib.hid (fun ww (hb : Below (w.alloc (.cells #[.int .i64 v.kind, .int .i64 v.n, .int .i64 v.d, .string (bs v.name)] 23)).heap.size (w.alloc (.cells #[.int .i64 v.kind, .int .i64 v.n, .int .i64 v.d, .string (bs v.name)] 23)) ww) => two_2__7_8_9 v ww (HG.out _ hb))
  generalize hb0 : oneB v [2, 7, 8, 9] = r at *
  clear hb0
  go_enter Tryz.func30, Tryz.ntmps30
  go_wp2_with (first | (go_at_call 63; refine (U.out _).mono ?_; rintro e w1 ⟨rfl, hb⟩; obtain ⟨c0, c1, c2, c3⟩ := HC.out _ hb) | (go_at_call 29; refine (ON.out _ hb).mono ?_; rintro e w2 ⟨rfl, hb2⟩))
  all_goals go_ret
  all_goals (refine ⟨rfl, ?_⟩; first | exact after1 (hb.trans (hb2.mono hb.size)) | exact after1 hb | exact (Below.refl _ _).alloc (Nat.le_refl _) _)
set_option maxRecDepth 100000 in
theorem sized_8 (v : Val) (w : World) (hg : Gl w) (hf : upB v = false) :
    Calls Tryz.prog 30 #[.int .i64 8, .agg #[.int .i64 v.kind, .int .i64 v.n, .int .i64 v.d, .string (bs v.name)]] w fun e w' => e = .returned (.bool (oneB v [2])) ∧ Below w.heap.size w w' := by
  have HC := Lib.hid (box4 v w)
  have HG := Lib.hid (fun ww (hb : Below (w.alloc (.cells #[.int .i64 v.kind, .int .i64 v.n, .int .i64 v.d, .string (bs v.name)] 23)).heap.size (w.alloc (.cells #[.int .i64 v.kind, .int .i64 v.n, .int .i64 v.d, .string (bs v.name)] 23)) ww) => hg.below (after1 hb))
  have HR := Lib.hid (Below.refl (w.alloc (.cells #[.int .i64 v.kind, .int .i64 v.n, .int .i64 v.d, .string (bs v.name)] 23)).heap.size (w.alloc (.cells #[.int .i64 v.kind, .int .i64 v.n, .int .i64 v.d, .string (bs v.name)] 23)))
  have U := up_any v
  rw [hf] at U
  have U := Lib.hid U
  have ON := Lib.hid (fun ww (hb : Below (w.alloc (.cells #[.int .i64 v.kind, .int .i64 v.n, .int .i64 v.d, .string (bs v.name)] 23)).heap.size (w.alloc (.cells #[.int .i64 v.kind, .int .i64 v.n, .int .i64 v.d, .string (bs v.name)] 23)) ww) => one_2 v ww (HG.out _ hb))
  generalize hb0 : oneB v [2] = r at *
  clear hb0
  go_enter Tryz.func30, Tryz.ntmps30
  go_wp2_with (first | (go_at_call 63; refine (U.out _).mono ?_; rintro e w1 ⟨rfl, hb⟩; obtain ⟨c0, c1, c2, c3⟩ := HC.out _ hb) | (go_at_call 29; refine (ON.out _ hb).mono ?_; rintro e w2 ⟨rfl, hb2⟩))
  all_goals go_ret
  all_goals (refine ⟨rfl, ?_⟩; first | exact after1 (hb.trans (hb2.mono hb.size)) | exact after1 hb | exact (Below.refl _ _).alloc (Nat.le_refl _) _)
set_option maxRecDepth 100000 in
theorem sized_o (p : Int) (v : Val) (w : World) (hg : Gl w) (h3 : p ≠ 3) (h5 : p ≠ 5) (h7 : p ≠ 7) (h8 : p ≠ 8) (hf : upB v = false) :
    Calls Tryz.prog 30 #[.int .i64 p, .agg #[.int .i64 v.kind, .int .i64 v.n, .int .i64 v.d, .string (bs v.name)]] w fun e w' => e = .returned (.bool (oneB v [1])) ∧ Below w.heap.size w w' := by
  have HC := Lib.hid (box4 v w)
  have HG := Lib.hid (fun ww (hb : Below (w.alloc (.cells #[.int .i64 v.kind, .int .i64 v.n, .int .i64 v.d, .string (bs v.name)] 23)).heap.size (w.alloc (.cells #[.int .i64 v.kind, .int .i64 v.n, .int .i64 v.d, .string (bs v.name)] 23)) ww) => hg.below (after1 hb))
  have HR := Lib.hid (Below.refl (w.alloc (.cells #[.int .i64 v.kind, .int .i64 v.n, .int .i64 v.d, .string (bs v.name)] 23)).heap.size (w.alloc (.cells #[.int .i64 v.kind, .int .i64 v.n, .int .i64 v.d, .string (bs v.name)] 23)))
  have U := up_any v
  rw [hf] at U
  have U := Lib.hid U
  have ON := Lib.hid (fun ww (hb : Below (w.alloc (.cells #[.int .i64 v.kind, .int .i64 v.n, .int .i64 v.d, .string (bs v.name)] 23)).heap.size (w.alloc (.cells #[.int .i64 v.kind, .int .i64 v.n, .int .i64 v.d, .string (bs v.name)] 23)) ww) => one_1 v ww (HG.out _ hb))
  generalize hb0 : oneB v [1] = r at *
  clear hb0
  go_enter Tryz.func30, Tryz.ntmps30
  go_wp2_with (first | (go_at_call 63; refine (U.out _).mono ?_; rintro e w1 ⟨rfl, hb⟩; obtain ⟨c0, c1, c2, c3⟩ := HC.out _ hb) | (go_at_call 29; refine (ON.out _ hb).mono ?_; rintro e w2 ⟨rfl, hb2⟩))
  all_goals go_ret
  all_goals (refine ⟨rfl, ?_⟩; first | exact after1 (hb.trans (hb2.mono hb.size)) | exact after1 hb | exact (Below.refl _ _).alloc (Nat.le_refl _) _)
theorem sized_any (p : Int) (v : Val) (w : World) (hg : Gl w) :
    Calls Tryz.prog 30 #[.int .i64 p, .agg #[.int .i64 v.kind, .int .i64 v.n, .int .i64 v.d, .string (bs v.name)]] w fun e w' => e = .returned (.bool (sizedB p v)) ∧ Below w.heap.size w w' := by
  unfold sizedB
  cases h : upB v
  · rw [Bool.false_or]
    by_cases h3 : p = 3
    · subst h3; exact sized_3 v w hg h
    · by_cases h5 : p = 5
      · subst h5; exact sized_5 v w hg h
      · rw [if_neg (by omega)]
        by_cases h7 : p = 7
        · subst h7; exact sized_7 v w hg h
        · rw [if_neg h7]
          by_cases h8 : p = 8
          · subst h8; exact sized_8 v w hg h
          · rw [if_neg h8]; exact sized_o p v w hg h3 h5 h7 h8 h
  · exact sized_up p v w hg h
set_option maxRecDepth 100000 in
theorem edged_e (p : Int) (v : Val) (w : World) (hg : Gl w) (hp : p < 13) (hf : extentB v = true) :
    Calls Tryz.prog 31 #[.int .i64 p, .agg #[.int .i64 v.kind, .int .i64 v.n, .int .i64 v.d, .string (bs v.name)]] w fun e w' => e = .returned (.bool (true)) ∧ Below w.heap.size w w' := by
  have HC := Lib.hid (box4 v w)
  have HG := Lib.hid (fun ww (hb : Below (w.alloc (.cells #[.int .i64 v.kind, .int .i64 v.n, .int .i64 v.d, .string (bs v.name)] 23)).heap.size (w.alloc (.cells #[.int .i64 v.kind, .int .i64 v.n, .int .i64 v.d, .string (bs v.name)] 23)) ww) => hg.below (after1 hb))
  have HR := Lib.hid (Below.refl (w.alloc (.cells #[.int .i64 v.kind, .int .i64 v.n, .int .i64 v.d, .string (bs v.name)] 23)).heap.size (w.alloc (.cells #[.int .i64 v.kind, .int .i64 v.n, .int .i64 v.d, .string (bs v.name)] 23)))
  have U := extent_any v
  rw [hf] at U
  have U := Lib.hid U
  go_enter Tryz.func31, Tryz.ntmps31
  go_wp2_with (go_at_call 64; refine (U.out _).mono ?_; rintro e w1 ⟨rfl, hb⟩; obtain ⟨c0, c1, c2, c3⟩ := HC.out _ hb)
  all_goals go_ret
  all_goals (refine ⟨rfl, ?_⟩; first | exact hb | exact after1 hb | exact (Below.refl _ _).alloc (Nat.le_refl _) _)
set_option maxRecDepth 100000 in
theorem edged_a (p : Int) (v : Val) (w : World) (hg : Gl w) (hp : p < 13) (hf : extentB v = false) :
    Calls Tryz.prog 31 #[.int .i64 p, .agg #[.int .i64 v.kind, .int .i64 v.n, .int .i64 v.d, .string (bs v.name)]] w fun e w' => e = .returned (.bool (oneB v [1])) ∧ Below w.heap.size w w' := by
  have HC := Lib.hid (box4 v w)
  have HG := Lib.hid (fun ww (hb : Below (w.alloc (.cells #[.int .i64 v.kind, .int .i64 v.n, .int .i64 v.d, .string (bs v.name)] 23)).heap.size (w.alloc (.cells #[.int .i64 v.kind, .int .i64 v.n, .int .i64 v.d, .string (bs v.name)] 23)) ww) => hg.below (after1 hb))
  have HR := Lib.hid (Below.refl (w.alloc (.cells #[.int .i64 v.kind, .int .i64 v.n, .int .i64 v.d, .string (bs v.name)] 23)).heap.size (w.alloc (.cells #[.int .i64 v.kind, .int .i64 v.n, .int .i64 v.d, .string (bs v.name)] 23)))
  have U := extent_any v
  rw [hf] at U
  have U := Lib.hid U
  have ON := Lib.hid (fun ww (hb : Below (w.alloc (.cells #[.int .i64 v.kind, .int .i64 v.n, .int .i64 v.d, .string (bs v.name)] 23)).heap.size (w.alloc (.cells #[.int .i64 v.kind, .int .i64 v.n, .int .i64 v.d, .string (bs v.name)] 23)) ww) => one_1 v ww (HG.out _ hb))
  generalize hb0 : oneB v [1] = r at *
  clear hb0
  go_enter Tryz.func31, Tryz.ntmps31
  go_wp2_with (first | (go_at_call 64; refine (U.out _).mono ?_; rintro e w1 ⟨rfl, hb⟩; obtain ⟨c0, c1, c2, c3⟩ := HC.out _ hb) | (go_at_call 29; refine (ON.out _ hb).mono ?_; rintro e w2 ⟨rfl, hb2⟩))
  all_goals go_ret
  all_goals (refine ⟨rfl, ?_⟩; first | exact after1 (hb.trans (hb2.mono hb.size)) | exact after1 hb | exact (Below.refl _ _).alloc (Nat.le_refl _) _)
set_option maxRecDepth 100000 in
theorem edged_u (p : Int) (v : Val) (w : World) (hg : Gl w) (hp : 13 ≤ p) (hq : p < 17) :
    Calls Tryz.prog 31 #[.int .i64 p, .agg #[.int .i64 v.kind, .int .i64 v.n, .int .i64 v.d, .string (bs v.name)]] w fun e w' => e = .returned (.bool (upB v)) ∧ Below w.heap.size w w' := by
  have HC := Lib.hid (box4 v w)
  have HG := Lib.hid (fun ww (hb : Below (w.alloc (.cells #[.int .i64 v.kind, .int .i64 v.n, .int .i64 v.d, .string (bs v.name)] 23)).heap.size (w.alloc (.cells #[.int .i64 v.kind, .int .i64 v.n, .int .i64 v.d, .string (bs v.name)] 23)) ww) => hg.below (after1 hb))
  have HR := Lib.hid (Below.refl (w.alloc (.cells #[.int .i64 v.kind, .int .i64 v.n, .int .i64 v.d, .string (bs v.name)] 23)).heap.size (w.alloc (.cells #[.int .i64 v.kind, .int .i64 v.n, .int .i64 v.d, .string (bs v.name)] 23)))
  have U := up_any v
  have U := Lib.hid U
  go_enter Tryz.func31, Tryz.ntmps31
  go_wp2_with (go_at_call 63; refine (U.out _).mono ?_; rintro e w1 ⟨rfl, hb⟩; obtain ⟨c0, c1, c2, c3⟩ := HC.out _ hb)
  all_goals go_ret
  all_goals (refine ⟨rfl, ?_⟩; first | exact hb | exact after1 hb | exact (Below.refl _ _).alloc (Nat.le_refl _) _)
set_option maxRecDepth 100000 in
theorem edged_lt (p : Int) (v : Val) (w : World) (hg : Gl w) (hq : 17 ≤ p) (hf : upB v = true) :
    Calls Tryz.prog 31 #[.int .i64 p, .agg #[.int .i64 v.kind, .int .i64 v.n, .int .i64 v.d, .string (bs v.name)]] w fun e w' => e = .returned (.bool (decide (v.kind = 2))) ∧ Below w.heap.size w w' := by
  have HC := Lib.hid (box4 v w)
  have HG := Lib.hid (fun ww (hb : Below (w.alloc (.cells #[.int .i64 v.kind, .int .i64 v.n, .int .i64 v.d, .string (bs v.name)] 23)).heap.size (w.alloc (.cells #[.int .i64 v.kind, .int .i64 v.n, .int .i64 v.d, .string (bs v.name)] 23)) ww) => hg.below (after1 hb))
  have HR := Lib.hid (Below.refl (w.alloc (.cells #[.int .i64 v.kind, .int .i64 v.n, .int .i64 v.d, .string (bs v.name)] 23)).heap.size (w.alloc (.cells #[.int .i64 v.kind, .int .i64 v.n, .int .i64 v.d, .string (bs v.name)] 23)))
  have U := up_any v
  rw [hf] at U
  have U := Lib.hid U
  go_enter Tryz.func31, Tryz.ntmps31
  go_wp2_with (go_at_call 63; refine (U.out _).mono ?_; rintro e w1 ⟨rfl, hb⟩; obtain ⟨c0, c1, c2, c3⟩ := HC.out _ hb)
  all_goals go_ret
  all_goals (refine ⟨ret_bb (by rw [Bool.eq_iff_iff]; simp_all), ?_⟩; first | exact hb | exact after1 hb | exact (Below.refl _ _).alloc (Nat.le_refl _) _)
set_option maxRecDepth 100000 in
theorem edged_lf (p : Int) (v : Val) (w : World) (hg : Gl w) (hq : 17 ≤ p) (hf : upB v = false) :
    Calls Tryz.prog 31 #[.int .i64 p, .agg #[.int .i64 v.kind, .int .i64 v.n, .int .i64 v.d, .string (bs v.name)]] w fun e w' => e = .returned (.bool (false)) ∧ Below w.heap.size w w' := by
  have HC := Lib.hid (box4 v w)
  have HG := Lib.hid (fun ww (hb : Below (w.alloc (.cells #[.int .i64 v.kind, .int .i64 v.n, .int .i64 v.d, .string (bs v.name)] 23)).heap.size (w.alloc (.cells #[.int .i64 v.kind, .int .i64 v.n, .int .i64 v.d, .string (bs v.name)] 23)) ww) => hg.below (after1 hb))
  have HR := Lib.hid (Below.refl (w.alloc (.cells #[.int .i64 v.kind, .int .i64 v.n, .int .i64 v.d, .string (bs v.name)] 23)).heap.size (w.alloc (.cells #[.int .i64 v.kind, .int .i64 v.n, .int .i64 v.d, .string (bs v.name)] 23)))
  have U := up_any v
  rw [hf] at U
  have U := Lib.hid U
  go_enter Tryz.func31, Tryz.ntmps31
  go_wp2_with (go_at_call 63; refine (U.out _).mono ?_; rintro e w1 ⟨rfl, hb⟩; obtain ⟨c0, c1, c2, c3⟩ := HC.out _ hb)
  all_goals go_ret
  all_goals (refine ⟨rfl, ?_⟩; first | exact hb | exact after1 hb | exact (Below.refl _ _).alloc (Nat.le_refl _) _)
theorem edged_any (p : Int) (v : Val) (w : World) (hg : Gl w) :
    Calls Tryz.prog 31 #[.int .i64 p, .agg #[.int .i64 v.kind, .int .i64 v.n, .int .i64 v.d, .string (bs v.name)]] w fun e w' => e = .returned (.bool (edgedB p v)) ∧ Below w.heap.size w w' := by
  unfold edgedB
  by_cases h1 : p < 13
  · rw [if_pos h1]
    cases h : extentB v
    · rw [Bool.false_or]; exact edged_a p v w hg h1 h
    · exact edged_e p v w hg h1 h
  · rw [if_neg h1]
    by_cases h2 : p < 17
    · rw [if_pos h2]; exact edged_u p v w hg (by omega) h2
    · rw [if_neg h2]
      cases h : upB v
      · exact edged_lf p v w hg (by omega) h
      · exact edged_lt p v w hg (by omega) h
set_option maxRecDepth 100000 in
theorem flexed_22 (v : Val) (w : World) (hg : Gl w) :
    Calls Tryz.prog 32 #[.int .i64 22, .agg #[.int .i64 v.kind, .int .i64 v.n, .int .i64 v.d, .string (bs v.name)]] w fun e w' => e = .returned (.bool (oneB v [10, 11, 12, 13])) ∧ Below w.heap.size w w' := by
  have HC := Lib.hid (box4 v w)
  have HG := Lib.hid (fun ww (hb : Below (w.alloc (.cells #[.int .i64 v.kind, .int .i64 v.n, .int .i64 v.d, .string (bs v.name)] 23)).heap.size (w.alloc (.cells #[.int .i64 v.kind, .int .i64 v.n, .int .i64 v.d, .string (bs v.name)] 23)) ww) => hg.below (after1 hb))
  have HR := Lib.hid (Below.refl (w.alloc (.cells #[.int .i64 v.kind, .int .i64 v.n, .int .i64 v.d, .string (bs v.name)] 23)).heap.size (w.alloc (.cells #[.int .i64 v.kind, .int .i64 v.n, .int .i64 v.d, .string (bs v.name)] 23)))
  have ON := ((one_10_11_12_13 v (w.alloc (.cells #[.int .i64 v.kind, .int .i64 v.n, .int .i64 v.d, .string (bs v.name)] 23)) (HG.out _ HR.out)).mono fun e w' (h : e = .returned (.bool (oneB v [10, 11, 12, 13])) ∧ _) => (⟨h.1, after1 h.2⟩ : e = .returned (.bool (oneB v [10, 11, 12, 13])) ∧ Below w.heap.size w w'))
  rw [show (w.alloc (.cells #[.int .i64 v.kind, .int .i64 v.n, .int .i64 v.d, .string (bs v.name)] 23)).heap.size = w.heap.size + 1 by simp] at ON
  have ON := Lib.hid ON
  generalize hb0 : oneB v [10, 11, 12, 13] = r at *
  clear hb0
  go_enter Tryz.func32, Tryz.ntmps32
  go_wp2_with (go_at_call 29; refine ON.out.mono ?_; rintro e w1 ⟨rfl, hb⟩)
  all_goals go_ret
  all_goals (refine ⟨rfl, ?_⟩; first | exact hb | exact after1 hb | exact (Below.refl _ _).alloc (Nat.le_refl _) _)
set_option maxRecDepth 100000 in
theorem flexed_23 (v : Val) (w : World) (hg : Gl w) :
    Calls Tryz.prog 32 #[.int .i64 23, .agg #[.int .i64 v.kind, .int .i64 v.n, .int .i64 v.d, .string (bs v.name)]] w fun e w' => e = .returned (.bool (oneB v [14, 15, 16])) ∧ Below w.heap.size w w' := by
  have HC := Lib.hid (box4 v w)
  have HG := Lib.hid (fun ww (hb : Below (w.alloc (.cells #[.int .i64 v.kind, .int .i64 v.n, .int .i64 v.d, .string (bs v.name)] 23)).heap.size (w.alloc (.cells #[.int .i64 v.kind, .int .i64 v.n, .int .i64 v.d, .string (bs v.name)] 23)) ww) => hg.below (after1 hb))
  have HR := Lib.hid (Below.refl (w.alloc (.cells #[.int .i64 v.kind, .int .i64 v.n, .int .i64 v.d, .string (bs v.name)] 23)).heap.size (w.alloc (.cells #[.int .i64 v.kind, .int .i64 v.n, .int .i64 v.d, .string (bs v.name)] 23)))
  have ON := ((one_14_15_16 v (w.alloc (.cells #[.int .i64 v.kind, .int .i64 v.n, .int .i64 v.d, .string (bs v.name)] 23)) (HG.out _ HR.out)).mono fun e w' (h : e = .returned (.bool (oneB v [14, 15, 16])) ∧ _) => (⟨h.1, after1 h.2⟩ : e = .returned (.bool (oneB v [14, 15, 16])) ∧ Below w.heap.size w w'))
  rw [show (w.alloc (.cells #[.int .i64 v.kind, .int .i64 v.n, .int .i64 v.d, .string (bs v.name)] 23)).heap.size = w.heap.size + 1 by simp] at ON
  have ON := Lib.hid ON
  generalize hb0 : oneB v [14, 15, 16] = r at *
  clear hb0
  go_enter Tryz.func32, Tryz.ntmps32
  go_wp2_with (go_at_call 29; refine ON.out.mono ?_; rintro e w1 ⟨rfl, hb⟩)
  all_goals go_ret
  all_goals (refine ⟨rfl, ?_⟩; first | exact hb | exact after1 hb | exact (Below.refl _ _).alloc (Nat.le_refl _) _)
set_option maxRecDepth 100000 in
theorem flexed_24 (v : Val) (w : World) (hg : Gl w) :
    Calls Tryz.prog 32 #[.int .i64 24, .agg #[.int .i64 v.kind, .int .i64 v.n, .int .i64 v.d, .string (bs v.name)]] w fun e w' => e = .returned (.bool (amountB v)) ∧ Below w.heap.size w w' := by
  have HC := Lib.hid (box4 v w)
  have HG := Lib.hid (fun ww (hb : Below (w.alloc (.cells #[.int .i64 v.kind, .int .i64 v.n, .int .i64 v.d, .string (bs v.name)] 23)).heap.size (w.alloc (.cells #[.int .i64 v.kind, .int .i64 v.n, .int .i64 v.d, .string (bs v.name)] 23)) ww) => hg.below (after1 hb))
  have HR := Lib.hid (Below.refl (w.alloc (.cells #[.int .i64 v.kind, .int .i64 v.n, .int .i64 v.d, .string (bs v.name)] 23)).heap.size (w.alloc (.cells #[.int .i64 v.kind, .int .i64 v.n, .int .i64 v.d, .string (bs v.name)] 23)))
  have U := amount_any v
  have U := Lib.hid U
  go_enter Tryz.func32, Tryz.ntmps32
  go_wp2_with (go_at_call 65; refine (U.out _).mono ?_; rintro e w1 ⟨rfl, hb⟩; obtain ⟨c0, c1, c2, c3⟩ := HC.out _ hb)
  all_goals go_ret
  all_goals (refine ⟨rfl, ?_⟩; first | exact hb | exact after1 hb | exact (Below.refl _ _).alloc (Nat.le_refl _) _)
set_option maxRecDepth 100000 in
theorem flexed_25 (v : Val) (w : World) (hg : Gl w) :
    Calls Tryz.prog 32 #[.int .i64 25, .agg #[.int .i64 v.kind, .int .i64 v.n, .int .i64 v.d, .string (bs v.name)]] w fun e w' => e = .returned (.bool (amountB v)) ∧ Below w.heap.size w w' := by
  have HC := Lib.hid (box4 v w)
  have HG := Lib.hid (fun ww (hb : Below (w.alloc (.cells #[.int .i64 v.kind, .int .i64 v.n, .int .i64 v.d, .string (bs v.name)] 23)).heap.size (w.alloc (.cells #[.int .i64 v.kind, .int .i64 v.n, .int .i64 v.d, .string (bs v.name)] 23)) ww) => hg.below (after1 hb))
  have HR := Lib.hid (Below.refl (w.alloc (.cells #[.int .i64 v.kind, .int .i64 v.n, .int .i64 v.d, .string (bs v.name)] 23)).heap.size (w.alloc (.cells #[.int .i64 v.kind, .int .i64 v.n, .int .i64 v.d, .string (bs v.name)] 23)))
  have U := amount_any v
  have U := Lib.hid U
  go_enter Tryz.func32, Tryz.ntmps32
  go_wp2_with (go_at_call 65; refine (U.out _).mono ?_; rintro e w1 ⟨rfl, hb⟩; obtain ⟨c0, c1, c2, c3⟩ := HC.out _ hb)
  all_goals go_ret
  all_goals (refine ⟨rfl, ?_⟩; first | exact hb | exact after1 hb | exact (Below.refl _ _).alloc (Nat.le_refl _) _)
set_option maxRecDepth 100000 in
theorem flexed_26u (v : Val) (w : World) (hg : Gl w) (hf : upB v = true) :
    Calls Tryz.prog 32 #[.int .i64 26, .agg #[.int .i64 v.kind, .int .i64 v.n, .int .i64 v.d, .string (bs v.name)]] w fun e w' => e = .returned (.bool (true)) ∧ Below w.heap.size w w' := by
  have HC := Lib.hid (box4 v w)
  have HG := Lib.hid (fun ww (hb : Below (w.alloc (.cells #[.int .i64 v.kind, .int .i64 v.n, .int .i64 v.d, .string (bs v.name)] 23)).heap.size (w.alloc (.cells #[.int .i64 v.kind, .int .i64 v.n, .int .i64 v.d, .string (bs v.name)] 23)) ww) => hg.below (after1 hb))
  have HR := Lib.hid (Below.refl (w.alloc (.cells #[.int .i64 v.kind, .int .i64 v.n, .int .i64 v.d, .string (bs v.name)] 23)).heap.size (w.alloc (.cells #[.int .i64 v.kind, .int .i64 v.n, .int .i64 v.d, .string (bs v.name)] 23)))
  have U := up_any v
  rw [hf] at U
  have U := Lib.hid U
  go_enter Tryz.func32, Tryz.ntmps32
  go_wp2_with (go_at_call 63; refine (U.out _).mono ?_; rintro e w1 ⟨rfl, hb⟩; obtain ⟨c0, c1, c2, c3⟩ := HC.out _ hb)
  all_goals go_ret
  all_goals (refine ⟨rfl, ?_⟩; first | exact hb | exact after1 hb | exact (Below.refl _ _).alloc (Nat.le_refl _) _)
set_option maxRecDepth 100000 in
theorem flexed_26 (v : Val) (w : World) (hg : Gl w) (hf : upB v = false) :
    Calls Tryz.prog 32 #[.int .i64 26, .agg #[.int .i64 v.kind, .int .i64 v.n, .int .i64 v.d, .string (bs v.name)]] w fun e w' => e = .returned (.bool (oneB v [1, 27])) ∧ Below w.heap.size w w' := by
  have HC := Lib.hid (box4 v w)
  have HG := Lib.hid (fun ww (hb : Below (w.alloc (.cells #[.int .i64 v.kind, .int .i64 v.n, .int .i64 v.d, .string (bs v.name)] 23)).heap.size (w.alloc (.cells #[.int .i64 v.kind, .int .i64 v.n, .int .i64 v.d, .string (bs v.name)] 23)) ww) => hg.below (after1 hb))
  have HR := Lib.hid (Below.refl (w.alloc (.cells #[.int .i64 v.kind, .int .i64 v.n, .int .i64 v.d, .string (bs v.name)] 23)).heap.size (w.alloc (.cells #[.int .i64 v.kind, .int .i64 v.n, .int .i64 v.d, .string (bs v.name)] 23)))
  have U := up_any v
  rw [hf] at U
  have U := Lib.hid U
  have ON := Lib.hid (fun ww (hb : Below (w.alloc (.cells #[.int .i64 v.kind, .int .i64 v.n, .int .i64 v.d, .string (bs v.name)] 23)).heap.size (w.alloc (.cells #[.int .i64 v.kind, .int .i64 v.n, .int .i64 v.d, .string (bs v.name)] 23)) ww) => one_1_27 v ww (HG.out _ hb))
  generalize hb0 : oneB v [1, 27] = r at *
  clear hb0
  go_enter Tryz.func32, Tryz.ntmps32
  go_wp2_with (first | (go_at_call 63; refine (U.out _).mono ?_; rintro e w1 ⟨rfl, hb⟩; obtain ⟨c0, c1, c2, c3⟩ := HC.out _ hb) | (go_at_call 29; refine (ON.out _ hb).mono ?_; rintro e w2 ⟨rfl, hb2⟩))
  all_goals go_ret
  all_goals (refine ⟨rfl, ?_⟩; first | exact after1 (hb.trans (hb2.mono hb.size)) | exact after1 hb | exact (Below.refl _ _).alloc (Nat.le_refl _) _)
set_option maxRecDepth 100000 in
theorem flexed_o (p : Int) (v : Val) (w : World) (hg : Gl w) (h22 : p ≠ 22) (h23 : p ≠ 23) (h24 : p ≠ 24) (h25 : p ≠ 25) (h26 : p ≠ 26) :
    Calls Tryz.prog 32 #[.int .i64 p, .agg #[.int .i64 v.kind, .int .i64 v.n, .int .i64 v.d, .string (bs v.name)]] w fun e w' => e = .returned (.bool (decide (v.kind = 4) && decide (v.n.tmod 1000 = 0))) ∧ Below w.heap.size w w' := by
  have HC := Lib.hid (box4 v w)
  have HG := Lib.hid (fun ww (hb : Below (w.alloc (.cells #[.int .i64 v.kind, .int .i64 v.n, .int .i64 v.d, .string (bs v.name)] 23)).heap.size (w.alloc (.cells #[.int .i64 v.kind, .int .i64 v.n, .int .i64 v.d, .string (bs v.name)] 23)) ww) => hg.below (after1 hb))
  have HR := Lib.hid (Below.refl (w.alloc (.cells #[.int .i64 v.kind, .int .i64 v.n, .int .i64 v.d, .string (bs v.name)] 23)).heap.size (w.alloc (.cells #[.int .i64 v.kind, .int .i64 v.n, .int .i64 v.d, .string (bs v.name)] 23)))
  go_enter Tryz.func32, Tryz.ntmps32
  go_wp2
  all_goals go_ret
  all_goals (refine ⟨ret_bb (by rw [Bool.eq_iff_iff]; simp_all), ?_⟩; exact (Below.refl _ _).alloc (Nat.le_refl _) _)
theorem flexed_any (p : Int) (v : Val) (w : World) (hg : Gl w) :
    Calls Tryz.prog 32 #[.int .i64 p, .agg #[.int .i64 v.kind, .int .i64 v.n, .int .i64 v.d, .string (bs v.name)]] w fun e w' => e = .returned (.bool (flexedB p v)) ∧ Below w.heap.size w w' := by
  unfold flexedB
  by_cases h22 : p = 22
  · subst h22; exact flexed_22 v w hg
  rw [if_neg h22]
  by_cases h23 : p = 23
  · subst h23; exact flexed_23 v w hg
  rw [if_neg h23]
  by_cases h24 : p = 24
  · subst h24; exact flexed_24 v w hg
  by_cases h25 : p = 25
  · subst h25; exact flexed_25 v w hg
  rw [if_neg (by omega)]
  by_cases h26 : p = 26
  · subst h26
    rw [if_pos rfl]
    cases h : upB v
    · rw [Bool.false_or]; exact flexed_26 v w hg h
    · exact flexed_26u v w hg h
  rw [if_neg h26]
  exact flexed_o p v w hg h22 h23 h24 h25 h26
set_option maxRecDepth 100000 in
theorem aligned_28 (v : Val) (w : World) (hg : Gl w) :
    Calls Tryz.prog 33 #[.int .i64 28, .agg #[.int .i64 v.kind, .int .i64 v.n, .int .i64 v.d, .string (bs v.name)]] w fun e w' => e = .returned (.bool (oneB v [17, 18, 19, 21, 22, 23])) ∧ Below w.heap.size w w' := by
  have HC := Lib.hid (box4 v w)
  have HG := Lib.hid (fun ww (hb : Below (w.alloc (.cells #[.int .i64 v.kind, .int .i64 v.n, .int .i64 v.d, .string (bs v.name)] 23)).heap.size (w.alloc (.cells #[.int .i64 v.kind, .int .i64 v.n, .int .i64 v.d, .string (bs v.name)] 23)) ww) => hg.below (after1 hb))
  have HR := Lib.hid (Below.refl (w.alloc (.cells #[.int .i64 v.kind, .int .i64 v.n, .int .i64 v.d, .string (bs v.name)] 23)).heap.size (w.alloc (.cells #[.int .i64 v.kind, .int .i64 v.n, .int .i64 v.d, .string (bs v.name)] 23)))
  have ON := ((one_17_18_19_21_22_23 v (w.alloc (.cells #[.int .i64 v.kind, .int .i64 v.n, .int .i64 v.d, .string (bs v.name)] 23)) (HG.out _ HR.out)).mono fun e w' (h : e = .returned (.bool (oneB v [17, 18, 19, 21, 22, 23])) ∧ _) => (⟨h.1, after1 h.2⟩ : e = .returned (.bool (oneB v [17, 18, 19, 21, 22, 23])) ∧ Below w.heap.size w w'))
  rw [show (w.alloc (.cells #[.int .i64 v.kind, .int .i64 v.n, .int .i64 v.d, .string (bs v.name)] 23)).heap.size = w.heap.size + 1 by simp] at ON
  have ON := Lib.hid ON
  generalize hb0 : oneB v [17, 18, 19, 21, 22, 23] = r at *
  clear hb0
  go_enter Tryz.func33, Tryz.ntmps33
  go_wp2_with (go_at_call 29; refine ON.out.mono ?_; rintro e w1 ⟨rfl, hb⟩)
  all_goals go_ret
  all_goals (refine ⟨rfl, ?_⟩; first | exact hb | exact after1 hb | exact (Below.refl _ _).alloc (Nat.le_refl _) _)
set_option maxRecDepth 100000 in
theorem aligned_29 (v : Val) (w : World) (hg : Gl w) :
    Calls Tryz.prog 33 #[.int .i64 29, .agg #[.int .i64 v.kind, .int .i64 v.n, .int .i64 v.d, .string (bs v.name)]] w fun e w' => e = .returned (.bool (oneB v [20, 17, 18, 19])) ∧ Below w.heap.size w w' := by
  have HC := Lib.hid (box4 v w)
  have HG := Lib.hid (fun ww (hb : Below (w.alloc (.cells #[.int .i64 v.kind, .int .i64 v.n, .int .i64 v.d, .string (bs v.name)] 23)).heap.size (w.alloc (.cells #[.int .i64 v.kind, .int .i64 v.n, .int .i64 v.d, .string (bs v.name)] 23)) ww) => hg.below (after1 hb))
  have HR := Lib.hid (Below.refl (w.alloc (.cells #[.int .i64 v.kind, .int .i64 v.n, .int .i64 v.d, .string (bs v.name)] 23)).heap.size (w.alloc (.cells #[.int .i64 v.kind, .int .i64 v.n, .int .i64 v.d, .string (bs v.name)] 23)))
  have ON := ((one_20_17_18_19 v (w.alloc (.cells #[.int .i64 v.kind, .int .i64 v.n, .int .i64 v.d, .string (bs v.name)] 23)) (HG.out _ HR.out)).mono fun e w' (h : e = .returned (.bool (oneB v [20, 17, 18, 19])) ∧ _) => (⟨h.1, after1 h.2⟩ : e = .returned (.bool (oneB v [20, 17, 18, 19])) ∧ Below w.heap.size w w'))
  rw [show (w.alloc (.cells #[.int .i64 v.kind, .int .i64 v.n, .int .i64 v.d, .string (bs v.name)] 23)).heap.size = w.heap.size + 1 by simp] at ON
  have ON := Lib.hid ON
  generalize hb0 : oneB v [20, 17, 18, 19] = r at *
  clear hb0
  go_enter Tryz.func33, Tryz.ntmps33
  go_wp2_with (go_at_call 29; refine ON.out.mono ?_; rintro e w1 ⟨rfl, hb⟩)
  all_goals go_ret
  all_goals (refine ⟨rfl, ?_⟩; first | exact hb | exact after1 hb | exact (Below.refl _ _).alloc (Nat.le_refl _) _)
set_option maxRecDepth 100000 in
theorem aligned_30 (v : Val) (w : World) (hg : Gl w) :
    Calls Tryz.prog 33 #[.int .i64 30, .agg #[.int .i64 v.kind, .int .i64 v.n, .int .i64 v.d, .string (bs v.name)]] w fun e w' => e = .returned (.bool (oneB v [1, 20, 17, 18, 19])) ∧ Below w.heap.size w w' := by
  have HC := Lib.hid (box4 v w)
  have HG := Lib.hid (fun ww (hb : Below (w.alloc (.cells #[.int .i64 v.kind, .int .i64 v.n, .int .i64 v.d, .string (bs v.name)] 23)).heap.size (w.alloc (.cells #[.int .i64 v.kind, .int .i64 v.n, .int .i64 v.d, .string (bs v.name)] 23)) ww) => hg.below (after1 hb))
  have HR := Lib.hid (Below.refl (w.alloc (.cells #[.int .i64 v.kind, .int .i64 v.n, .int .i64 v.d, .string (bs v.name)] 23)).heap.size (w.alloc (.cells #[.int .i64 v.kind, .int .i64 v.n, .int .i64 v.d, .string (bs v.name)] 23)))
  have ON := ((two_1__20_17_18_19 v (w.alloc (.cells #[.int .i64 v.kind, .int .i64 v.n, .int .i64 v.d, .string (bs v.name)] 23)) (HG.out _ HR.out)).mono fun e w' (h : e = .returned (.bool (oneB v [1, 20, 17, 18, 19])) ∧ _) => (⟨h.1, after1 h.2⟩ : e = .returned (.bool (oneB v [1, 20, 17, 18, 19])) ∧ Below w.heap.size w w'))
  rw [show (w.alloc (.cells #[.int .i64 v.kind, .int .i64 v.n, .int .i64 v.d, .string (bs v.name)] 23)).heap.size = w.heap.size + 1 by simp] at ON
  have ON := Lib.hid ON
  generalize hb0 : oneB v [1, 20, 17, 18, 19] = r at *
  clear hb0
  go_enter Tryz.func33, Tryz.ntmps33
  go_wp2_with (go_at_call 29; refine ON.out.mono ?_; rintro e w1 ⟨rfl, hb⟩)
  all_goals go_ret
  all_goals (refine ⟨rfl, ?_⟩; first | exact hb | exact after1 hb | exact (Below.refl _ _).alloc (Nat.le_refl _) _)
set_option maxRecDepth 100000 in
theorem aligned_31 (v : Val) (w : World) (hg : Gl w) :
    Calls Tryz.prog 33 #[.int .i64 31, .agg #[.int .i64 v.kind, .int .i64 v.n, .int .i64 v.d, .string (bs v.name)]] w fun e w' => e = .returned (.bool (oneB v [20, 17, 18, 19, 21, 22, 23])) ∧ Below w.heap.size w w' := by
  have HC := Lib.hid (box4 v w)
  have HG := Lib.hid (fun ww (hb : Below (w.alloc (.cells #[.int .i64 v.kind, .int .i64 v.n, .int .i64 v.d, .string (bs v.name)] 23)).heap.size (w.alloc (.cells #[.int .i64 v.kind, .int .i64 v.n, .int .i64 v.d, .string (bs v.name)] 23)) ww) => hg.below (after1 hb))
  have HR := Lib.hid (Below.refl (w.alloc (.cells #[.int .i64 v.kind, .int .i64 v.n, .int .i64 v.d, .string (bs v.name)] 23)).heap.size (w.alloc (.cells #[.int .i64 v.kind, .int .i64 v.n, .int .i64 v.d, .string (bs v.name)] 23)))
  have ON := ((two_20__17_18_19_21_22_23 v (w.alloc (.cells #[.int .i64 v.kind, .int .i64 v.n, .int .i64 v.d, .string (bs v.name)] 23)) (HG.out _ HR.out)).mono fun e w' (h : e = .returned (.bool (oneB v [20, 17, 18, 19, 21, 22, 23])) ∧ _) => (⟨h.1, after1 h.2⟩ : e = .returned (.bool (oneB v [20, 17, 18, 19, 21, 22, 23])) ∧ Below w.heap.size w w'))
  rw [show (w.alloc (.cells #[.int .i64 v.kind, .int .i64 v.n, .int .i64 v.d, .string (bs v.name)] 23)).heap.size = w.heap.size + 1 by simp] at ON
  have ON := Lib.hid ON
  generalize hb0 : oneB v [20, 17, 18, 19, 21, 22, 23] = r at *
  clear hb0
  go_enter Tryz.func33, Tryz.ntmps33
  go_wp2_with (go_at_call 29; refine ON.out.mono ?_; rintro e w1 ⟨rfl, hb⟩)
  all_goals go_ret
  all_goals (refine ⟨rfl, ?_⟩; first | exact hb | exact after1 hb | exact (Below.refl _ _).alloc (Nat.le_refl _) _)
set_option maxRecDepth 100000 in
theorem aligned_32u (v : Val) (w : World) (hg : Gl w) (hf : upB v = true) :
    Calls Tryz.prog 33 #[.int .i64 32, .agg #[.int .i64 v.kind, .int .i64 v.n, .int .i64 v.d, .string (bs v.name)]] w fun e w' => e = .returned (.bool (true)) ∧ Below w.heap.size w w' := by
  have HC := Lib.hid (box4 v w)
  have HG := Lib.hid (fun ww (hb : Below (w.alloc (.cells #[.int .i64 v.kind, .int .i64 v.n, .int .i64 v.d, .string (bs v.name)] 23)).heap.size (w.alloc (.cells #[.int .i64 v.kind, .int .i64 v.n, .int .i64 v.d, .string (bs v.name)] 23)) ww) => hg.below (after1 hb))
  have HR := Lib.hid (Below.refl (w.alloc (.cells #[.int .i64 v.kind, .int .i64 v.n, .int .i64 v.d, .string (bs v.name)] 23)).heap.size (w.alloc (.cells #[.int .i64 v.kind, .int .i64 v.n, .int .i64 v.d, .string (bs v.name)] 23)))
  have U := up_any v
  rw [hf] at U
  have U := Lib.hid U
  go_enter Tryz.func33, Tryz.ntmps33
  go_wp2_with (go_at_call 63; refine (U.out _).mono ?_; rintro e w1 ⟨rfl, hb⟩; obtain ⟨c0, c1, c2, c3⟩ := HC.out _ hb)
  all_goals go_ret
  all_goals (refine ⟨rfl, ?_⟩; first | exact hb | exact after1 hb | exact (Below.refl _ _).alloc (Nat.le_refl _) _)
set_option maxRecDepth 100000 in
theorem aligned_32 (v : Val) (w : World) (hg : Gl w) (hf : upB v = false) :
    Calls Tryz.prog 33 #[.int .i64 32, .agg #[.int .i64 v.kind, .int .i64 v.n, .int .i64 v.d, .string (bs v.name)]] w fun e w' => e = .returned (.bool (oneB v [24])) ∧ Below w.heap.size w w' := by
  have HC := Lib.hid (box4 v w)
  have HG := Lib.hid (fun ww (hb : Below (w.alloc (.cells #[.int .i64 v.kind, .int .i64 v.n, .int .i64 v.d, .string (bs v.name)] 23)).heap.size (w.alloc (.cells #[.int .i64 v.kind, .int .i64 v.n, .int .i64 v.d, .string (bs v.name)] 23)) ww) => hg.below (after1 hb))
  have HR := Lib.hid (Below.refl (w.alloc (.cells #[.int .i64 v.kind, .int .i64 v.n, .int .i64 v.d, .string (bs v.name)] 23)).heap.size (w.alloc (.cells #[.int .i64 v.kind, .int .i64 v.n, .int .i64 v.d, .string (bs v.name)] 23)))
  have U := up_any v
  rw [hf] at U
  have U := Lib.hid U
  have ON := Lib.hid (fun ww (hb : Below (w.alloc (.cells #[.int .i64 v.kind, .int .i64 v.n, .int .i64 v.d, .string (bs v.name)] 23)).heap.size (w.alloc (.cells #[.int .i64 v.kind, .int .i64 v.n, .int .i64 v.d, .string (bs v.name)] 23)) ww) => one_24 v ww (HG.out _ hb))
  generalize hb0 : oneB v [24] = r at *
  clear hb0
  go_enter Tryz.func33, Tryz.ntmps33
  go_wp2_with (first | (go_at_call 63; refine (U.out _).mono ?_; rintro e w1 ⟨rfl, hb⟩; obtain ⟨c0, c1, c2, c3⟩ := HC.out _ hb) | (go_at_call 29; refine (ON.out _ hb).mono ?_; rintro e w2 ⟨rfl, hb2⟩))
  all_goals go_ret
  all_goals (refine ⟨rfl, ?_⟩; first | exact after1 (hb.trans (hb2.mono hb.size)) | exact after1 hb | exact (Below.refl _ _).alloc (Nat.le_refl _) _)
set_option maxRecDepth 100000 in
theorem aligned_33u (v : Val) (w : World) (hg : Gl w) (hf : upB v = true) :
    Calls Tryz.prog 33 #[.int .i64 33, .agg #[.int .i64 v.kind, .int .i64 v.n, .int .i64 v.d, .string (bs v.name)]] w fun e w' => e = .returned (.bool (true)) ∧ Below w.heap.size w w' := by
  have HC := Lib.hid (box4 v w)
  have HG := Lib.hid (fun ww (hb : Below (w.alloc (.cells #[.int .i64 v.kind, .int .i64 v.n, .int .i64 v.d, .string (bs v.name)] 23)).heap.size (w.alloc (.cells #[.int .i64 v.kind, .int .i64 v.n, .int .i64 v.d, .string (bs v.name)] 23)) ww) => hg.below (after1 hb))
  have HR := Lib.hid (Below.refl (w.alloc (.cells #[.int .i64 v.kind, .int .i64 v.n, .int .i64 v.d, .string (bs v.name)] 23)).heap.size (w.alloc (.cells #[.int .i64 v.kind, .int .i64 v.n, .int .i64 v.d, .string (bs v.name)] 23)))
  have U := up_any v
  rw [hf] at U
  have U := Lib.hid U
  go_enter Tryz.func33, Tryz.ntmps33
  go_wp2_with (go_at_call 63; refine (U.out _).mono ?_; rintro e w1 ⟨rfl, hb⟩; obtain ⟨c0, c1, c2, c3⟩ := HC.out _ hb)
  all_goals go_ret
  all_goals (refine ⟨rfl, ?_⟩; first | exact hb | exact after1 hb | exact (Below.refl _ _).alloc (Nat.le_refl _) _)
set_option maxRecDepth 100000 in
theorem aligned_33 (v : Val) (w : World) (hg : Gl w) (hf : upB v = false) :
    Calls Tryz.prog 33 #[.int .i64 33, .agg #[.int .i64 v.kind, .int .i64 v.n, .int .i64 v.d, .string (bs v.name)]] w fun e w' => e = .returned (.bool (oneB v [24])) ∧ Below w.heap.size w w' := by
  have HC := Lib.hid (box4 v w)
  have HG := Lib.hid (fun ww (hb : Below (w.alloc (.cells #[.int .i64 v.kind, .int .i64 v.n, .int .i64 v.d, .string (bs v.name)] 23)).heap.size (w.alloc (.cells #[.int .i64 v.kind, .int .i64 v.n, .int .i64 v.d, .string (bs v.name)] 23)) ww) => hg.below (after1 hb))
  have HR := Lib.hid (Below.refl (w.alloc (.cells #[.int .i64 v.kind, .int .i64 v.n, .int .i64 v.d, .string (bs v.name)] 23)).heap.size (w.alloc (.cells #[.int .i64 v.kind, .int .i64 v.n, .int .i64 v.d, .string (bs v.name)] 23)))
  have U := up_any v
  rw [hf] at U
  have U := Lib.hid U
  have ON := Lib.hid (fun ww (hb : Below (w.alloc (.cells #[.int .i64 v.kind, .int .i64 v.n, .int .i64 v.d, .string (bs v.name)] 23)).heap.size (w.alloc (.cells #[.int .i64 v.kind, .int .i64 v.n, .int .i64 v.d, .string (bs v.name)] 23)) ww) => one_24 v ww (HG.out _ hb))
  generalize hb0 : oneB v [24] = r at *
  clear hb0
  go_enter Tryz.func33, Tryz.ntmps33
  go_wp2_with (first | (go_at_call 63; refine (U.out _).mono ?_; rintro e w1 ⟨rfl, hb⟩; obtain ⟨c0, c1, c2, c3⟩ := HC.out _ hb) | (go_at_call 29; refine (ON.out _ hb).mono ?_; rintro e w2 ⟨rfl, hb2⟩))
  all_goals go_ret
  all_goals (refine ⟨rfl, ?_⟩; first | exact after1 (hb.trans (hb2.mono hb.size)) | exact after1 hb | exact (Below.refl _ _).alloc (Nat.le_refl _) _)
set_option maxRecDepth 100000 in
theorem aligned_34 (v : Val) (w : World) (hg : Gl w) :
    Calls Tryz.prog 33 #[.int .i64 34, .agg #[.int .i64 v.kind, .int .i64 v.n, .int .i64 v.d, .string (bs v.name)]] w fun e w' => e = .returned (.bool (oneB v [24, 25, 26])) ∧ Below w.heap.size w w' := by
  have HC := Lib.hid (box4 v w)
  have HG := Lib.hid (fun ww (hb : Below (w.alloc (.cells #[.int .i64 v.kind, .int .i64 v.n, .int .i64 v.d, .string (bs v.name)] 23)).heap.size (w.alloc (.cells #[.int .i64 v.kind, .int .i64 v.n, .int .i64 v.d, .string (bs v.name)] 23)) ww) => hg.below (after1 hb))
  have HR := Lib.hid (Below.refl (w.alloc (.cells #[.int .i64 v.kind, .int .i64 v.n, .int .i64 v.d, .string (bs v.name)] 23)).heap.size (w.alloc (.cells #[.int .i64 v.kind, .int .i64 v.n, .int .i64 v.d, .string (bs v.name)] 23)))
  have ON := ((one_24_25_26 v (w.alloc (.cells #[.int .i64 v.kind, .int .i64 v.n, .int .i64 v.d, .string (bs v.name)] 23)) (HG.out _ HR.out)).mono fun e w' (h : e = .returned (.bool (oneB v [24, 25, 26])) ∧ _) => (⟨h.1, after1 h.2⟩ : e = .returned (.bool (oneB v [24, 25, 26])) ∧ Below w.heap.size w w'))
  rw [show (w.alloc (.cells #[.int .i64 v.kind, .int .i64 v.n, .int .i64 v.d, .string (bs v.name)] 23)).heap.size = w.heap.size + 1 by simp] at ON
  have ON := Lib.hid ON
  generalize hb0 : oneB v [24, 25, 26] = r at *
  clear hb0
  go_enter Tryz.func33, Tryz.ntmps33
  go_wp2_with (go_at_call 29; refine ON.out.mono ?_; rintro e w1 ⟨rfl, hb⟩)
  all_goals go_ret
  all_goals (refine ⟨rfl, ?_⟩; first | exact hb | exact after1 hb | exact (Below.refl _ _).alloc (Nat.le_refl _) _)
set_option maxRecDepth 100000 in
theorem aligned_35n (v : Val) (w : World) (hg : Gl w) (hk : v.kind = 6) :
    Calls Tryz.prog 33 #[.int .i64 35, .agg #[.int .i64 v.kind, .int .i64 v.n, .int .i64 v.d, .string (bs v.name)]] w fun e w' => e = .returned (.bool (true)) ∧ Below w.heap.size w w' := by
  have HC := Lib.hid (box4 v w)
  have HG := Lib.hid (fun ww (hb : Below (w.alloc (.cells #[.int .i64 v.kind, .int .i64 v.n, .int .i64 v.d, .string (bs v.name)] 23)).heap.size (w.alloc (.cells #[.int .i64 v.kind, .int .i64 v.n, .int .i64 v.d, .string (bs v.name)] 23)) ww) => hg.below (after1 hb))
  have HR := Lib.hid (Below.refl (w.alloc (.cells #[.int .i64 v.kind, .int .i64 v.n, .int .i64 v.d, .string (bs v.name)] 23)).heap.size (w.alloc (.cells #[.int .i64 v.kind, .int .i64 v.n, .int .i64 v.d, .string (bs v.name)] 23)))
  go_enter Tryz.func33, Tryz.ntmps33
  go_wp2
  all_goals go_ret
  all_goals (refine ⟨rfl, ?_⟩; exact (Below.refl _ _).alloc (Nat.le_refl _) _)
set_option maxRecDepth 100000 in
theorem aligned_35 (v : Val) (w : World) (hg : Gl w) (hk : v.kind ≠ 6) :
    Calls Tryz.prog 33 #[.int .i64 35, .agg #[.int .i64 v.kind, .int .i64 v.n, .int .i64 v.d, .string (bs v.name)]] w fun e w' => e = .returned (.bool (oneB v [2])) ∧ Below w.heap.size w w' := by
  have HC := Lib.hid (box4 v w)
  have HG := Lib.hid (fun ww (hb : Below (w.alloc (.cells #[.int .i64 v.kind, .int .i64 v.n, .int .i64 v.d, .string (bs v.name)] 23)).heap.size (w.alloc (.cells #[.int .i64 v.kind, .int .i64 v.n, .int .i64 v.d, .string (bs v.name)] 23)) ww) => hg.below (after1 hb))
  have HR := Lib.hid (Below.refl (w.alloc (.cells #[.int .i64 v.kind, .int .i64 v.n, .int .i64 v.d, .string (bs v.name)] 23)).heap.size (w.alloc (.cells #[.int .i64 v.kind, .int .i64 v.n, .int .i64 v.d, .string (bs v.name)] 23)))
  have hk2 : (v.kind == 6) = false := by simpa using hk
  have ON := ((one_2 v (w.alloc (.cells #[.int .i64 v.kind, .int .i64 v.n, .int .i64 v.d, .string (bs v.name)] 23)) (HG.out _ HR.out)).mono fun e w' (h : e = .returned (.bool (oneB v [2])) ∧ _) => (⟨h.1, after1 h.2⟩ : e = .returned (.bool (oneB v [2])) ∧ Below w.heap.size w w'))
  rw [show (w.alloc (.cells #[.int .i64 v.kind, .int .i64 v.n, .int .i64 v.d, .string (bs v.name)] 23)).heap.size = w.heap.size + 1 by simp] at ON
  have ON := Lib.hid ON
  generalize hb0 : oneB v [2] = r at *
  clear hb0
  go_enter Tryz.func33, Tryz.ntmps33
  go_wp2_with (go_at_call 29; refine ON.out.mono ?_; rintro e w1 ⟨rfl, hb⟩)
  all_goals go_ret
  all_goals (refine ⟨ret_bb (by simp_all), ?_⟩; first | exact hb | exact after1 hb | exact (Below.refl _ _).alloc (Nat.le_refl _) _)
set_option maxRecDepth 100000 in
theorem aligned_36 (v : Val) (w : World) (hg : Gl w) :
    Calls Tryz.prog 33 #[.int .i64 36, .agg #[.int .i64 v.kind, .int .i64 v.n, .int .i64 v.d, .string (bs v.name)]] w fun e w' => e = .returned (.bool (upB v)) ∧ Below w.heap.size w w' := by
  have HC := Lib.hid (box4 v w)
  have HG := Lib.hid (fun ww (hb : Below (w.alloc (.cells #[.int .i64 v.kind, .int .i64 v.n, .int .i64 v.d, .string (bs v.name)] 23)).heap.size (w.alloc (.cells #[.int .i64 v.kind, .int .i64 v.n, .int .i64 v.d, .string (bs v.name)] 23)) ww) => hg.below (after1 hb))
  have HR := Lib.hid (Below.refl (w.alloc (.cells #[.int .i64 v.kind, .int .i64 v.n, .int .i64 v.d, .string (bs v.name)] 23)).heap.size (w.alloc (.cells #[.int .i64 v.kind, .int .i64 v.n, .int .i64 v.d, .string (bs v.name)] 23)))
  have U := up_any v
  have U := Lib.hid U
  go_enter Tryz.func33, Tryz.ntmps33
  go_wp2_with (go_at_call 63; refine (U.out _).mono ?_; rintro e w1 ⟨rfl, hb⟩; obtain ⟨c0, c1, c2, c3⟩ := HC.out _ hb)
  all_goals go_ret
  all_goals (refine ⟨rfl, ?_⟩; first | exact hb | exact after1 hb | exact (Below.refl _ _).alloc (Nat.le_refl _) _)
set_option maxRecDepth 100000 in
theorem aligned_ou (p : Int) (v : Val) (w : World) (hg : Gl w) (h28 : p ≠ 28) (h29 : p ≠ 29) (h30 : p ≠ 30) (h31 : p ≠ 31) (h32 : p ≠ 32) (h33 : p ≠ 33) (h34 : p ≠ 34) (h35 : p ≠ 35) (h36 : p ≠ 36) (hf : amountB v = true) :
    Calls Tryz.prog 33 #[.int .i64 p, .agg #[.int .i64 v.kind, .int .i64 v.n, .int .i64 v.d, .string (bs v.name)]] w fun e w' => e = .returned (.bool (true)) ∧ Below w.heap.size w w' := by
  have HC := Lib.hid (box4 v w)
  have HG := Lib.hid (fun ww (hb : Below (w.alloc (.cells #[.int .i64 v.kind, .int .i64 v.n, .int .i64 v.d, .string (bs v.name)] 23)).heap.size (w.alloc (.cells #[.int .i64 v.kind, .int .i64 v.n, .int .i64 v.d, .string (bs v.name)] 23)) ww) => hg.below (after1 hb))
  have HR := Lib.hid (Below.refl (w.alloc (.cells #[.int .i64 v.kind, .int .i64 v.n, .int .i64 v.d, .string (bs v.name)] 23)).heap.size (w.alloc (.cells #[.int .i64 v.kind, .int .i64 v.n, .int .i64 v.d, .string (bs v.name)] 23)))
  have U := amount_any v
  rw [hf] at U
  have U := Lib.hid U
  go_enter Tryz.func33, Tryz.ntmps33
  go_wp2_with (go_at_call 65; refine (U.out _).mono ?_; rintro e w1 ⟨rfl, hb⟩; obtain ⟨c0, c1, c2, c3⟩ := HC.out _ hb)
  all_goals go_ret
  all_goals (refine ⟨rfl, ?_⟩; first | exact hb | exact after1 hb | exact (Below.refl _ _).alloc (Nat.le_refl _) _)
set_option maxRecDepth 100000 in
theorem aligned_o (p : Int) (v : Val) (w : World) (hg : Gl w) (h28 : p ≠ 28) (h29 : p ≠ 29) (h30 : p ≠ 30) (h31 : p ≠ 31) (h32 : p ≠ 32) (h33 : p ≠ 33) (h34 : p ≠ 34) (h35 : p ≠ 35) (h36 : p ≠ 36) (hf : amountB v = false) :
    Calls Tryz.prog 33 #[.int .i64 p, .agg #[.int .i64 v.kind, .int .i64 v.n, .int .i64 v.d, .string (bs v.name)]] w fun e w' => e = .returned (.bool (oneB v [24])) ∧ Below w.heap.size w w' := by
  have HC := Lib.hid (box4 v w)
  have HG := Lib.hid (fun ww (hb : Below (w.alloc (.cells #[.int .i64 v.kind, .int .i64 v.n, .int .i64 v.d, .string (bs v.name)] 23)).heap.size (w.alloc (.cells #[.int .i64 v.kind, .int .i64 v.n, .int .i64 v.d, .string (bs v.name)] 23)) ww) => hg.below (after1 hb))
  have HR := Lib.hid (Below.refl (w.alloc (.cells #[.int .i64 v.kind, .int .i64 v.n, .int .i64 v.d, .string (bs v.name)] 23)).heap.size (w.alloc (.cells #[.int .i64 v.kind, .int .i64 v.n, .int .i64 v.d, .string (bs v.name)] 23)))
  have U := amount_any v
  rw [hf] at U
  have U := Lib.hid U
  have ON := Lib.hid (fun ww (hb : Below (w.alloc (.cells #[.int .i64 v.kind, .int .i64 v.n, .int .i64 v.d, .string (bs v.name)] 23)).heap.size (w.alloc (.cells #[.int .i64 v.kind, .int .i64 v.n, .int .i64 v.d, .string (bs v.name)] 23)) ww) => one_24 v ww (HG.out _ hb))
  generalize hb0 : oneB v [24] = r at *
  clear hb0
  go_enter Tryz.func33, Tryz.ntmps33
  go_wp2_with (first | (go_at_call 65; refine (U.out _).mono ?_; rintro e w1 ⟨rfl, hb⟩; obtain ⟨c0, c1, c2, c3⟩ := HC.out _ hb) | (go_at_call 29; refine (ON.out _ hb).mono ?_; rintro e w2 ⟨rfl, hb2⟩))
  all_goals go_ret
  all_goals (refine ⟨rfl, ?_⟩; first | exact after1 (hb.trans (hb2.mono hb.size)) | exact after1 hb | exact (Below.refl _ _).alloc (Nat.le_refl _) _)
theorem aligned_any (p : Int) (v : Val) (w : World) (hg : Gl w) :
    Calls Tryz.prog 33 #[.int .i64 p, .agg #[.int .i64 v.kind, .int .i64 v.n, .int .i64 v.d, .string (bs v.name)]] w fun e w' => e = .returned (.bool (alignedB p v)) ∧ Below w.heap.size w w' := by
  unfold alignedB
  by_cases h28 : p = 28
  · subst h28; exact aligned_28 v w hg
  rw [if_neg h28]
  by_cases h29 : p = 29
  · subst h29; exact aligned_29 v w hg
  rw [if_neg h29]
  by_cases h30 : p = 30
  · subst h30; exact aligned_30 v w hg
  rw [if_neg h30]
  by_cases h31 : p = 31
  · subst h31; exact aligned_31 v w hg
  rw [if_neg h31]
  by_cases h32 : p = 32
  · subst h32
    rw [if_pos (by omega)]
    cases h : upB v
    · rw [Bool.false_or]; exact aligned_32 v w hg h
    · exact aligned_32u v w hg h
  by_cases h33 : p = 33
  · subst h33
    rw [if_pos (by omega)]
    cases h : upB v
    · rw [Bool.false_or]; exact aligned_33 v w hg h
    · exact aligned_33u v w hg h
  rw [if_neg (by omega)]
  by_cases h34 : p = 34
  · subst h34; exact aligned_34 v w hg
  rw [if_neg h34]
  by_cases h35 : p = 35
  · subst h35
    rw [if_pos rfl]
    by_cases h : v.kind = 6
    · rw [decide_eq_true h, Bool.true_or]; exact aligned_35n v w hg h
    · rw [decide_eq_false h, Bool.false_or]; exact aligned_35 v w hg h
  rw [if_neg h35]
  by_cases h36 : p = 36
  · subst h36; exact aligned_36 v w hg
  rw [if_neg h36]
  cases h : amountB v
  · rw [Bool.false_or]; exact aligned_o p v w hg h28 h29 h30 h31 h32 h33 h34 h35 h36 h
  · exact aligned_ou p v w hg h28 h29 h30 h31 h32 h33 h34 h35 h36 h
end Go.Proofs.YtikhghmnclpigaaGreatDoor
