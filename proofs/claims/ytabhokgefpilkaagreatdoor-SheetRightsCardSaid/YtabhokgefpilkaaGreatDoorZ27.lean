/-
  The walks of what the document says of layer 10: In, Global, Takes.
  The walks of what the document says of layer 10: Takes at what is no word; Takes whole (printed by gen_ref10b.py).
-/
import Derived.Deep.RegionHeld3
import Derived.Test.YtabhokgefpilkaaGreatDoorZ1
import Derived.Test.YtabhokgefpilkaaGreatDoorZ24
import Derived.Test.YtabhokgefpilkaaGreatDoorZ26
set_option linter.all false
set_option maxHeartbeats 4000000
namespace Go.Proofs.YtabhokgefpilkaaGreatDoor
open Go.RowKit Wsc
theorem refIn_any (xs : List (List UInt8)) (s : List UInt8) (a : Option Addr) (c : Nat) (w : World) (hv : SlAt w (.slice a xs.length c) xs.length (strs xs)) :
    Calls Tryz.prog 72 #[.slice a xs.length c, .string (bs s)] w fun e w' => e = .returned (.bool (xs.any fun x => decide (x = s))) ∧ w = w' := by
  obtain ⟨a', c', e, hn, hm, hcase⟩ := hv
  simp at e; obtain ⟨rfl, rfl⟩ := e
  unfold maxLen at hm
  have hsl : 0 < xs.length → ∃ b o, a = some ⟨b, o, none⟩ ∧ ∀ i (hi : i < xs.length), w.cell? ⟨b, o + i, none⟩ = some (.string (bs xs[i])) := fun h0 => by
    rcases hcase with ⟨h, _⟩ | ⟨b, o, h, hB, hC⟩
    · omega
    exact ⟨b, o, h, fun i hi => strs_get hC i hi⟩
  have hsl := Lib.hid hsl
  clear hcase
  go_enter Tryz.func72, Tryz.ntmps72
  go_wp2
  go_loop [5] (fun i => ∃ k : Nat, k ≤ xs.length ∧ i = .int .i64 k ∧ Hid ((xs.take k).any (fun x => decide (x = s)) = false)) (fun i => xs.length - (intOf i).toNat)
  case atStart => exact ⟨0, by omega, rfl, Lib.hid rfl⟩
  case round =>
    obtain ⟨k, hk, rfl, H⟩ := hrel
    by_cases hlt : k < xs.length
    · obtain ⟨b, o, rfl, hC⟩ := hsl.out (by omega)
      have hcell := hC k hlt
      have hb := beq_texts (bs xs[k]) (bs s)
      rw [bs_data, bs_data] at hb
      have P : (xs.take (k + 1)).any (fun x => decide (x = s)) = decide (xs[k] = s) := by rw [take_snoc2 xs k hlt, List.any_append, H.out]; simp
      have Q : xs[k] = s → xs.any (fun x => decide (x = s)) = true := fun h => List.any_eq_true.2 ⟨xs[k], List.getElem_mem hlt, by simp [h]⟩
      clear hC
      generalize xs[k] = x at *
      by_cases hx : x = s
      · have Q := Lib.hid (Q hx)
        rw [decide_eq_true hx] at hb
        clear hx P
        go_wp2
        go_ret
        exact ⟨ret_bb Q.out.symm, rfl⟩
      · rw [decide_eq_false hx] at hb P
        have P := Lib.hid P
        clear hx Q
        go_wp2
        go_round
        case rel => exact ⟨k + 1, by omega, by go_num, P⟩
        case measure => simp [intOf]; omega
    have e : k = xs.length := by omega
    subst e
    have P := Lib.hid (show xs.any (fun x => decide (x = s)) = false by rw [← H.out, List.take_length])
    go_wp2
    go_ret
    exact ⟨ret_bb P.out.symm, rfl⟩
def refGlobB (v : Val) : Bool := decide (v.kind = 1) && decide (28 ≤ v.n)
theorem refGlob_any (v : Val) (w : World) :
    Calls Tryz.prog 71 #[.agg #[.int .i64 v.kind, .int .i64 v.n, .int .i64 v.d, .string (bs v.name)]] w fun e w' => e = .returned (.bool (refGlobB v)) ∧ Below w.heap.size w w' := by
  go_enter Tryz.func71, Tryz.ntmps71
  go_wp2
  all_goals go_ret
  all_goals exact ⟨ret_bb (by unfold refGlobB; rw [Bool.eq_iff_iff]; simp_all), (Below.refl _ _).alloc (Nat.le_refl _) _⟩
theorem refTakes_lo (p : Int) (v : Val) (w : World) (h1 : p < 1) :
    Calls Tryz.prog 32 #[.int .i64 p, .agg #[.int .i64 v.kind, .int .i64 v.n, .int .i64 v.d, .string (bs v.name)]] w fun e w' => e = .returned (.bool false) ∧ Below w.heap.size w w' := by
  go_enter Tryz.func32, Tryz.ntmps32
  go_wp2
  go_ret
  exact ⟨rfl, (Below.refl _ _).alloc (Nat.le_refl _) _⟩
theorem refTakes_hi (p : Int) (v : Val) (w : World) (h1 : 37 < p) :
    Calls Tryz.prog 32 #[.int .i64 p, .agg #[.int .i64 v.kind, .int .i64 v.n, .int .i64 v.d, .string (bs v.name)]] w fun e w' => e = .returned (.bool false) ∧ Below w.heap.size w w' := by
  go_enter Tryz.func32, Tryz.ntmps32
  go_wp2
  go_ret
  exact ⟨rfl, (Below.refl _ _).alloc (Nat.le_refl _) _⟩
theorem refTakes_wrong (p : Int) (v : Val) (w : World) (h1 : 1 ≤ p) (h2 : p ≤ 37) (hr : rightV v = false) (hl : v.name.length ≤ 9223372036854775807) :
    Calls Tryz.prog 32 #[.int .i64 p, .agg #[.int .i64 v.kind, .int .i64 v.n, .int .i64 v.d, .string (bs v.name)]] w fun e w' => e = .returned (.bool false) ∧ Below w.heap.size w w' := by
  have R := refRight_any v (w.alloc (.cells #[.int .i64 v.kind, .int .i64 v.n, .int .i64 v.d, .string (bs v.name)] 61)) hl
  unfold valV at R
  rw [hr] at R
  have R := Lib.hid R
  clear hr
  go_enter Tryz.func32, Tryz.ntmps32
  go_wp2_with (go_at_call 70; refine R.out.mono ?_; rintro e w1 ⟨rfl, hb⟩)
  go_ret
  exact ⟨rfl, after1 hb⟩
abbrev boxN (w : World) (n : Nat) : World := w.alloc (.cells #[.int .i64 1, .int .i64 n, .int .i64 0, .string ⟨#[]⟩] 61)
structure BoxN (w : World) (g n : Nat) : Prop where
  lt : g < w.heap.size
  c0 : w.cell? ⟨g, 0, none⟩ = some (.int .i64 1)
  c1 : w.cell? ⟨g, 1, none⟩ = some (.int .i64 n)
  c2 : w.cell? ⟨g, 2, none⟩ = some (.int .i64 0)
  c3 : w.cell? ⟨g, 3, none⟩ = some (.string ⟨#[]⟩)
theorem BoxN.new (w : World) (n : Nat) : BoxN (boxN w n) w.heap.size n :=
  have h := box4 ⟨1, (n : Int), 0, []⟩ w _ (Below.refl _ _)
  ⟨by simp [boxN], h.1, h.2.1, h.2.2.1, h.2.2.2⟩
theorem BoxN.below {w w' : World} {g n : Nat} (h : BoxN w g n) (hb : Below w.heap.size w w') : BoxN w' g n :=
  ⟨Nat.lt_of_lt_of_le h.lt hb.size, (hb.cell (p := ⟨g, 0, none⟩) h.lt).trans h.c0, (hb.cell (p := ⟨g, 1, none⟩) h.lt).trans h.c1, (hb.cell (p := ⟨g, 2, none⟩) h.lt).trans h.c2, (hb.cell (p := ⟨g, 3, none⟩) h.lt).trans h.c3⟩
theorem BoxN.drew {w : World} {g n : Nat} (h : BoxN w g n) : BoxN w.drew g n := ⟨h.lt, h.c0, h.c1, h.c2, h.c3⟩
theorem refTakes_glob (p : Int) (n : Nat) (w : World) (h1 : 1 ≤ p) (h2 : p ≤ 37) (h3 : 28 ≤ n) (h4 : n ≤ 30) :
    Calls Tryz.prog 32 #[.int .i64 p, .agg #[.int .i64 1, .int .i64 n, .int .i64 0, .string ⟨#[]⟩]] w fun e w' => e = .returned (.bool true) ∧ Below w.heap.size w w' := by
  have HX := Lib.hid (BoxN.new w n)
  have HA := Lib.hid (show Below w.heap.size w (boxN w n) from (Below.refl _ _).alloc (Nat.le_refl _) _)
  have R := refRight_any ⟨1, (n : Int), 0, []⟩ (boxN w n) (Nat.zero_le _)
  unfold valV at R
  rw [show rightV ⟨1, (n : Int), 0, []⟩ = true by unfold rightV; simp; omega] at R
  have R := Lib.hid R
  have G := fun ww => refGlob_any ⟨1, (n : Int), 0, []⟩ ww
  rw [show refGlobB ⟨1, (n : Int), 0, []⟩ = true by unfold refGlobB; simp; omega] at G
  have G := Lib.hid G
  go_enter Tryz.func32, Tryz.ntmps32
  go_wp2_with fail
  refine R.out.mono ?_
  rintro e w1 ⟨rfl, hb⟩
  have hB := HX.out.below hb
  have hW := HA.out.trans (hb.mono HA.out.size)
  obtain ⟨q, c0, c1, c2, c3⟩ := id hB
  clear hb
  go_wp2_with fail
  refine wp_region_held_drew (S := (fun w' => BoxN w' w.heap.size n ∧ Below w.heap.size w w')) (by kernel_rfl) ⟨hB.drew, hW.drew⟩ (fun hH1 => ?_)
  refine tkm 0 (.agg #[.int .i64 1, .int .i64 n, .int .i64 0, .string ⟨#[]⟩]) rfl (by assumption) ?_ (hv := by intro ww hS; obtain ⟨_, c0, c1, c2, c3⟩ := hS.1; go_simp)
  try simp only [Act.put, List.setIfInBounds_toArray, List.set_cons_zero, List.set_cons_succ, List.getElem_toArray, List.getElem_cons_zero]
  refine wpAnyH_ready (rs := [1]) (by kernel_rfl) (by simp) ?_
  refine AllReadyH.cons rfl (fun KQ hK => ?_) AllReadyH.nil
  go_simp
  refine (G.out _).mono ?_
  rintro e wz ⟨rfl, hb1⟩
  go_wp2_with fail
  refine hK.out _ _ (⟨hH1.1.below hb1, hH1.2.trans (hb1.mono hH1.2.size)⟩) (fun hH2 => ?_)
  clear hK KQ
  try simp only [Act.put, zA, zB, zC, zD, zE, zF]
  refine tkv 2 (.bool true) rfl (by assumption) ?_
  refine tks 3 rfl (by assumption) ?_
  refine tks 4 rfl (by assumption) ?_
  refine tks 5 rfl (by assumption) ?_
  refine tks 6 rfl (by assumption) ?_
  refine tks 7 rfl (by assumption) ?_
  refine tks 8 rfl (by assumption) ?_
  refine tks 9 rfl (by assumption) ?_
  refine tks 10 rfl (by assumption) ?_
  refine tkm 11 (.bool true) rfl (by assumption) ?_
  refine tkv 12 (.bool true) rfl (by assumption) ?_
  refine wpAnyH_done (by kernel_rfl) ?_ _
  go_wp2
  go_ret
  exact ⟨rfl, hH2.2⟩
theorem refTakes_word (p : Int) (n : Nat) (w : World) (h1 : 1 ≤ p) (h2 : p ≤ 37) (h3 : 1 ≤ n) (h4 : n < 28) :
    Calls Tryz.prog 32 #[.int .i64 p, .agg #[.int .i64 1, .int .i64 n, .int .i64 0, .string ⟨#[]⟩]] w fun e w' => e = .returned (.bool (((wordsP p).map wd).any fun x => decide (x = wordsL.getD n []))) ∧ Below w.heap.size w w' := by
  have RW := refW_any p h1 h2
  generalize (wordsP p).map wd = xs at *
  have RW := Lib.hid RW
  have HX := Lib.hid (BoxN.new w n)
  have HA := Lib.hid (show Below w.heap.size w (boxN w n) from (Below.refl _ _).alloc (Nat.le_refl _) _)
  have R := refRight_any ⟨1, (n : Int), 0, []⟩ (boxN w n) (Nat.zero_le _)
  unfold valV at R
  rw [show rightV ⟨1, (n : Int), 0, []⟩ = true by unfold rightV; simp; omega] at R
  have R := Lib.hid R
  have G := fun ww => refGlob_any ⟨1, (n : Int), 0, []⟩ ww
  rw [show refGlobB ⟨1, (n : Int), 0, []⟩ = false by unfold refGlobB; simp; omega] at G
  have G := Lib.hid G
  go_enter Tryz.func32, Tryz.ntmps32
  go_wp2_with fail
  refine R.out.mono ?_
  rintro e w1 ⟨rfl, hb⟩
  have hB := HX.out.below hb
  have hW := HA.out.trans (hb.mono HA.out.size)
  obtain ⟨q, c0, c1, c2, c3⟩ := id hB
  clear hb
  go_wp2_with fail
  refine wp_region_held_drew (S := (fun w' => BoxN w' w.heap.size n ∧ Below w.heap.size w w')) (by kernel_rfl) ⟨hB.drew, hW.drew⟩ (fun hH1 => ?_)
  refine tkm 0 (.agg #[.int .i64 1, .int .i64 n, .int .i64 0, .string ⟨#[]⟩]) rfl (by assumption) ?_ (hv := by intro ww hS; obtain ⟨_, c0, c1, c2, c3⟩ := hS.1; go_simp)
  try simp only [Act.put, List.setIfInBounds_toArray, List.set_cons_zero, List.set_cons_succ, List.getElem_toArray, List.getElem_cons_zero]
  refine wpAnyH_ready (rs := [1]) (by kernel_rfl) (by simp) ?_
  refine AllReadyH.cons rfl (fun KQ hK => ?_) AllReadyH.nil
  go_simp
  refine (G.out _).mono ?_
  rintro e wz ⟨rfl, hb1⟩
  go_wp2_with fail
  refine hK.out _ _ (⟨hH1.1.below hb1, hH1.2.trans (hb1.mono hH1.2.size)⟩) (fun hH2 => ?_)
  clear hK KQ
  try simp only [Act.put, zA, zB, zC, zD, zE, zF]
  refine tkv 2 (.bool false) rfl (by assumption) ?_
  refine tkv 3 (.int .i64 p) rfl (by assumption) ?_
  refine tkm 6 (.pointer (some ⟨w.heap.size, 1, none⟩)) rfl (by assumption) ?_
  refine tkm 7 (.int .i64 n) rfl (by assumption) ?_ (hv := by intro ww hS; obtain ⟨_, c0, c1, c2, c3⟩ := hS.1; go_simp)
  refine wpAnyH_ready (rs := [4]) (by kernel_rfl) (by simp) ?_
  refine AllReadyH.cons rfl (fun KQ hK => ?_) AllReadyH.nil
  go_simp
  refine (RW.out _).mono ?_
  rintro e wz ⟨⟨a1, c1, rfl, hs1⟩, hb2⟩
  go_wp2_with fail
  refine hK.out _ _ (⟨hH2.1.below hb2, hH2.2.trans (hb2.mono hH2.2.size)⟩) (fun hH3 => ?_)
  clear hK KQ
  try simp only [Act.put, zA, zB, zC, zD, zE, zF]
  refine wpAnyH_ready (rs := [5]) (by kernel_rfl) (by simp) ?_
  refine AllReadyH.cons rfl (fun KQ hK => ?_) AllReadyH.nil
  go_simp
  refine (words_kk _).mono ?_
  rintro e wz ⟨⟨b2, o2, c2, rfl, hb2, hc2, hc3, hcl⟩, hb3⟩
  go_wp2_with fail
  refine hK.out _ _ (⟨hH3.1.below hb3, hH3.2.trans (hb3.mono hH3.2.size)⟩) (fun hH4 => ?_)
  clear hK KQ
  try simp only [Act.put, zA, zB, zC, zD, zE, zF]
  have hs2 := hs1.below hb3
  have hcn := hcl n (by omega)
  clear hcl hs1
  refine wpAnyH_ready (rs := [8]) (by kernel_rfl) (by simp) ?_
  refine AllReadyH.cons rfl (fun KQ hK => ?_) AllReadyH.nil
  go_simp
  rw [if_pos (show (n : Int) < 31 by omega)]
  go_simp
  refine hK.out _ _ (hH4) (fun hH5 => ?_)
  clear hK KQ
  try simp only [Act.put, zA, zB, zC, zD, zE, zF]
  refine wpAnyH_ready (rs := [9]) (by kernel_rfl) (by simp) ?_
  refine AllReadyH.cons rfl (fun KQ hK => ?_) AllReadyH.nil
  go_simp
  refine hK.out _ _ (hH5) (fun hH6 => ?_)
  clear hK KQ
  try simp only [Act.put, zA, zB, zC, zD, zE, zF]
  refine wpAnyH_ready (rs := [10]) (by kernel_rfl) (by simp) ?_
  refine AllReadyH.cons rfl (fun KQ hK => ?_) AllReadyH.nil
  go_simp
  refine (refIn_any _ _ _ _ _ hs2).mono ?_
  rintro e wz ⟨rfl, rfl⟩
  go_wp2_with fail
  refine hK.out _ _ (hH6) (fun hH7 => ?_)
  clear hK KQ
  try simp only [Act.put, zA, zB, zC, zD, zE, zF]
  refine tkm 11 (.bool (xs.any fun x => decide (x = wordsL.getD n []))) rfl (by assumption) ?_
  refine tkv 12 (.bool (xs.any fun x => decide (x = wordsL.getD n []))) rfl (by assumption) ?_
  refine wpAnyH_done (by kernel_rfl) ?_ _
  go_wp2
  go_ret
  exact ⟨rfl, hH7.2⟩
theorem refT_u (p : Int) (v : Val) (w : World) (h1 : 1 ≤ p) (h2 : p ≤ 37) (hr : rightV v = true) (hl : v.name.length ≤ 9223372036854775807) (hk : v.kind ≠ 1) (ho : otherS p = [117]) :
    Calls Tryz.prog 32 #[.int .i64 p, .agg #[.int .i64 v.kind, .int .i64 v.n, .int .i64 v.d, .string (bs v.name)]] w fun e w' => e = .returned (.bool (upB v)) ∧ Below w.heap.size w w' := by
  have HC := Lib.hid (box4 v w)
  have R := refRight_any v (w.alloc (.cells #[.int .i64 v.kind, .int .i64 v.n, .int .i64 v.d, .string (bs v.name)] 61)) hl
  unfold valV at R
  rw [hr] at R
  have R := Lib.hid R
  have O : ∀ ww, Calls Tryz.prog 75 #[.int .i64 p] ww fun e w' => e = .returned (.string ⟨#[117]⟩) ∧ ww = w' := fun ww => by have := refO_any p h1 h2 ww; rw [ho] at this; exact this
  have O := Lib.hid O
  clear hr ho
  go_enter Tryz.func32, Tryz.ntmps32
  go_wp2_with (first
    | (go_at_call 70; refine R.out.mono ?_; rintro e w1 ⟨rfl, hb⟩; obtain ⟨c0, c1, c2, c3⟩ := HC.out _ hb)
    | (go_at_call 75; refine (O.out _).mono ?_; rintro e w2 ⟨rfl, rfl⟩))
  all_goals go_ret
  all_goals exact ⟨ret_bb (by (try unfold upB); (try unfold extentB); (try unfold amountB); first | rfl | (rw [Bool.eq_iff_iff]; simp; done) | (rw [Bool.eq_iff_iff]; simp; omega) | (rw [Bool.eq_iff_iff]; simp_all; done) | (rw [Bool.eq_iff_iff]; simp_all; omega)), after1 hb⟩
theorem refT_e (p : Int) (v : Val) (w : World) (h1 : 1 ≤ p) (h2 : p ≤ 37) (hr : rightV v = true) (hl : v.name.length ≤ 9223372036854775807) (hk : v.kind ≠ 1) (ho : otherS p = [101]) :
    Calls Tryz.prog 32 #[.int .i64 p, .agg #[.int .i64 v.kind, .int .i64 v.n, .int .i64 v.d, .string (bs v.name)]] w fun e w' => e = .returned (.bool (extentB v)) ∧ Below w.heap.size w w' := by
  have HC := Lib.hid (box4 v w)
  have R := refRight_any v (w.alloc (.cells #[.int .i64 v.kind, .int .i64 v.n, .int .i64 v.d, .string (bs v.name)] 61)) hl
  unfold valV at R
  rw [hr] at R
  have R := Lib.hid R
  have O : ∀ ww, Calls Tryz.prog 75 #[.int .i64 p] ww fun e w' => e = .returned (.string ⟨#[101]⟩) ∧ ww = w' := fun ww => by have := refO_any p h1 h2 ww; rw [ho] at this; exact this
  have O := Lib.hid O
  clear hr ho
  go_enter Tryz.func32, Tryz.ntmps32
  go_wp2_with (first
    | (go_at_call 70; refine R.out.mono ?_; rintro e w1 ⟨rfl, hb⟩; obtain ⟨c0, c1, c2, c3⟩ := HC.out _ hb)
    | (go_at_call 75; refine (O.out _).mono ?_; rintro e w2 ⟨rfl, rfl⟩))
  all_goals go_ret
  all_goals exact ⟨ret_bb (by (try unfold upB); (try unfold extentB); (try unfold amountB); first | rfl | (rw [Bool.eq_iff_iff]; simp; done) | (rw [Bool.eq_iff_iff]; simp; omega) | (rw [Bool.eq_iff_iff]; simp_all; done) | (rw [Bool.eq_iff_iff]; simp_all; omega)), after1 hb⟩
theorem refT_l (p : Int) (v : Val) (w : World) (h1 : 1 ≤ p) (h2 : p ≤ 37) (hr : rightV v = true) (hl : v.name.length ≤ 9223372036854775807) (hk : v.kind ≠ 1) (ho : otherS p = [108]) :
    Calls Tryz.prog 32 #[.int .i64 p, .agg #[.int .i64 v.kind, .int .i64 v.n, .int .i64 v.d, .string (bs v.name)]] w fun e w' => e = .returned (.bool (decide (v.kind = 2) && decide (0 ≤ v.n))) ∧ Below w.heap.size w w' := by
  have HC := Lib.hid (box4 v w)
  have R := refRight_any v (w.alloc (.cells #[.int .i64 v.kind, .int .i64 v.n, .int .i64 v.d, .string (bs v.name)] 61)) hl
  unfold valV at R
  rw [hr] at R
  have R := Lib.hid R
  have O : ∀ ww, Calls Tryz.prog 75 #[.int .i64 p] ww fun e w' => e = .returned (.string ⟨#[108]⟩) ∧ ww = w' := fun ww => by have := refO_any p h1 h2 ww; rw [ho] at this; exact this
  have O := Lib.hid O
  clear hr ho
  go_enter Tryz.func32, Tryz.ntmps32
  go_wp2_with (first
    | (go_at_call 70; refine R.out.mono ?_; rintro e w1 ⟨rfl, hb⟩; obtain ⟨c0, c1, c2, c3⟩ := HC.out _ hb)
    | (go_at_call 75; refine (O.out _).mono ?_; rintro e w2 ⟨rfl, rfl⟩))
  all_goals go_ret
  all_goals exact ⟨ret_bb (by (try unfold upB); (try unfold extentB); (try unfold amountB); first | rfl | (rw [Bool.eq_iff_iff]; simp; done) | (rw [Bool.eq_iff_iff]; simp; omega) | (rw [Bool.eq_iff_iff]; simp_all; done) | (rw [Bool.eq_iff_iff]; simp_all; omega)), after1 hb⟩
theorem refT_n (p : Int) (v : Val) (w : World) (h1 : 1 ≤ p) (h2 : p ≤ 37) (hr : rightV v = true) (hl : v.name.length ≤ 9223372036854775807) (hk : v.kind ≠ 1) (ho : otherS p = [110]) :
    Calls Tryz.prog 32 #[.int .i64 p, .agg #[.int .i64 v.kind, .int .i64 v.n, .int .i64 v.d, .string (bs v.name)]] w fun e w' => e = .returned (.bool (amountB v)) ∧ Below w.heap.size w w' := by
  have HC := Lib.hid (box4 v w)
  have R := refRight_any v (w.alloc (.cells #[.int .i64 v.kind, .int .i64 v.n, .int .i64 v.d, .string (bs v.name)] 61)) hl
  unfold valV at R
  rw [hr] at R
  have R := Lib.hid R
  have O : ∀ ww, Calls Tryz.prog 75 #[.int .i64 p] ww fun e w' => e = .returned (.string ⟨#[110]⟩) ∧ ww = w' := fun ww => by have := refO_any p h1 h2 ww; rw [ho] at this; exact this
  have O := Lib.hid O
  clear hr ho
  go_enter Tryz.func32, Tryz.ntmps32
  go_wp2_with (first
    | (go_at_call 70; refine R.out.mono ?_; rintro e w1 ⟨rfl, hb⟩; obtain ⟨c0, c1, c2, c3⟩ := HC.out _ hb)
    | (go_at_call 75; refine (O.out _).mono ?_; rintro e w2 ⟨rfl, rfl⟩))
  all_goals go_ret
  all_goals exact ⟨ret_bb (by (try unfold upB); (try unfold extentB); (try unfold amountB); first | rfl | (rw [Bool.eq_iff_iff]; simp; done) | (rw [Bool.eq_iff_iff]; simp; omega) | (rw [Bool.eq_iff_iff]; simp_all; done) | (rw [Bool.eq_iff_iff]; simp_all; omega)), after1 hb⟩
theorem refT_w (p : Int) (v : Val) (w : World) (h1 : 1 ≤ p) (h2 : p ≤ 37) (hr : rightV v = true) (hl : v.name.length ≤ 9223372036854775807) (hk : v.kind ≠ 1) (ho : otherS p = [119]) :
    Calls Tryz.prog 32 #[.int .i64 p, .agg #[.int .i64 v.kind, .int .i64 v.n, .int .i64 v.d, .string (bs v.name)]] w fun e w' => e = .returned (.bool (decide (v.kind = 4) && decide (v.n.tmod 1000 = 0))) ∧ Below w.heap.size w w' := by
  have HC := Lib.hid (box4 v w)
  have R := refRight_any v (w.alloc (.cells #[.int .i64 v.kind, .int .i64 v.n, .int .i64 v.d, .string (bs v.name)] 61)) hl
  unfold valV at R
  rw [hr] at R
  have R := Lib.hid R
  have O : ∀ ww, Calls Tryz.prog 75 #[.int .i64 p] ww fun e w' => e = .returned (.string ⟨#[119]⟩) ∧ ww = w' := fun ww => by have := refO_any p h1 h2 ww; rw [ho] at this; exact this
  have O := Lib.hid O
  clear hr ho
  go_enter Tryz.func32, Tryz.ntmps32
  go_wp2_with (first
    | (go_at_call 70; refine R.out.mono ?_; rintro e w1 ⟨rfl, hb⟩; obtain ⟨c0, c1, c2, c3⟩ := HC.out _ hb)
    | (go_at_call 75; refine (O.out _).mono ?_; rintro e w2 ⟨rfl, rfl⟩))
  all_goals go_ret
  all_goals exact ⟨ret_bb (by (try unfold upB); (try unfold extentB); (try unfold amountB); first | rfl | (rw [Bool.eq_iff_iff]; simp; done) | (rw [Bool.eq_iff_iff]; simp; omega) | (rw [Bool.eq_iff_iff]; simp_all; done) | (rw [Bool.eq_iff_iff]; simp_all; omega)), after1 hb⟩
theorem refT_r (p : Int) (v : Val) (w : World) (h1 : 1 ≤ p) (h2 : p ≤ 37) (hr : rightV v = true) (hl : v.name.length ≤ 9223372036854775807) (hk : v.kind ≠ 1) (ho : otherS p = [114]) :
    Calls Tryz.prog 32 #[.int .i64 p, .agg #[.int .i64 v.kind, .int .i64 v.n, .int .i64 v.d, .string (bs v.name)]] w fun e w' => e = .returned (.bool ((decide (v.kind = 4) && decide (0 < v.n)) || (decide (v.kind = 5) && decide (0 < v.n) && decide (0 < v.d)))) ∧ Below w.heap.size w w' := by
  have HC := Lib.hid (box4 v w)
  have R := refRight_any v (w.alloc (.cells #[.int .i64 v.kind, .int .i64 v.n, .int .i64 v.d, .string (bs v.name)] 61)) hl
  unfold valV at R
  rw [hr] at R
  have R := Lib.hid R
  have O : ∀ ww, Calls Tryz.prog 75 #[.int .i64 p] ww fun e w' => e = .returned (.string ⟨#[114]⟩) ∧ ww = w' := fun ww => by have := refO_any p h1 h2 ww; rw [ho] at this; exact this
  have O := Lib.hid O
  clear hr ho
  go_enter Tryz.func32, Tryz.ntmps32
  go_wp2_with (first
    | (go_at_call 70; refine R.out.mono ?_; rintro e w1 ⟨rfl, hb⟩; obtain ⟨c0, c1, c2, c3⟩ := HC.out _ hb)
    | (go_at_call 75; refine (O.out _).mono ?_; rintro e w2 ⟨rfl, rfl⟩))
  all_goals go_ret
  all_goals exact ⟨ret_bb (by (try unfold upB); (try unfold extentB); (try unfold amountB); first | rfl | (rw [Bool.eq_iff_iff]; simp; done) | (rw [Bool.eq_iff_iff]; simp; omega) | (rw [Bool.eq_iff_iff]; simp_all; done) | (rw [Bool.eq_iff_iff]; simp_all; omega)), after1 hb⟩
theorem refT_i (p : Int) (v : Val) (w : World) (h1 : 1 ≤ p) (h2 : p ≤ 37) (hr : rightV v = true) (hl : v.name.length ≤ 9223372036854775807) (hk : v.kind ≠ 1) (ho : otherS p = [105]) :
    Calls Tryz.prog 32 #[.int .i64 p, .agg #[.int .i64 v.kind, .int .i64 v.n, .int .i64 v.d, .string (bs v.name)]] w fun e w' => e = .returned (.bool (decide (v.kind = 6))) ∧ Below w.heap.size w w' := by
  have HC := Lib.hid (box4 v w)
  have R := refRight_any v (w.alloc (.cells #[.int .i64 v.kind, .int .i64 v.n, .int .i64 v.d, .string (bs v.name)] 61)) hl
  unfold valV at R
  rw [hr] at R
  have R := Lib.hid R
  have O : ∀ ww, Calls Tryz.prog 75 #[.int .i64 p] ww fun e w' => e = .returned (.string ⟨#[105]⟩) ∧ ww = w' := fun ww => by have := refO_any p h1 h2 ww; rw [ho] at this; exact this
  have O := Lib.hid O
  clear hr ho
  go_enter Tryz.func32, Tryz.ntmps32
  go_wp2_with (first
    | (go_at_call 70; refine R.out.mono ?_; rintro e w1 ⟨rfl, hb⟩; obtain ⟨c0, c1, c2, c3⟩ := HC.out _ hb)
    | (go_at_call 75; refine (O.out _).mono ?_; rintro e w2 ⟨rfl, rfl⟩))
  all_goals go_ret
  all_goals exact ⟨ret_bb (by (try unfold upB); (try unfold extentB); (try unfold amountB); first | rfl | (rw [Bool.eq_iff_iff]; simp; done) | (rw [Bool.eq_iff_iff]; simp; omega) | (rw [Bool.eq_iff_iff]; simp_all; done) | (rw [Bool.eq_iff_iff]; simp_all; omega)), after1 hb⟩
theorem refT_z (p : Int) (v : Val) (w : World) (h1 : 1 ≤ p) (h2 : p ≤ 37) (hr : rightV v = true) (hl : v.name.length ≤ 9223372036854775807) (hk : v.kind ≠ 1) (ho : otherS p = []) :
    Calls Tryz.prog 32 #[.int .i64 p, .agg #[.int .i64 v.kind, .int .i64 v.n, .int .i64 v.d, .string (bs v.name)]] w fun e w' => e = .returned (.bool (false)) ∧ Below w.heap.size w w' := by
  have HC := Lib.hid (box4 v w)
  have R := refRight_any v (w.alloc (.cells #[.int .i64 v.kind, .int .i64 v.n, .int .i64 v.d, .string (bs v.name)] 61)) hl
  unfold valV at R
  rw [hr] at R
  have R := Lib.hid R
  have O : ∀ ww, Calls Tryz.prog 75 #[.int .i64 p] ww fun e w' => e = .returned (.string ⟨#[]⟩) ∧ ww = w' := fun ww => by have := refO_any p h1 h2 ww; rw [ho] at this; exact this
  have O := Lib.hid O
  clear hr ho
  go_enter Tryz.func32, Tryz.ntmps32
  go_wp2_with (first
    | (go_at_call 70; refine R.out.mono ?_; rintro e w1 ⟨rfl, hb⟩; obtain ⟨c0, c1, c2, c3⟩ := HC.out _ hb)
    | (go_at_call 75; refine (O.out _).mono ?_; rintro e w2 ⟨rfl, rfl⟩))
  all_goals go_ret
  all_goals exact ⟨ret_bb (by (try unfold upB); (try unfold extentB); (try unfold amountB); first | rfl | (rw [Bool.eq_iff_iff]; simp; done) | (rw [Bool.eq_iff_iff]; simp; omega) | (rw [Bool.eq_iff_iff]; simp_all; done) | (rw [Bool.eq_iff_iff]; simp_all; omega)), after1 hb⟩
theorem otherP_letter (p : Int) (v : Val) : otherP p v = if otherS p = [117] then upB v else if otherS p = [101] then extentB v else if otherS p = [108] then decide (v.kind = 2) && decide (0 ≤ v.n) else if otherS p = [110] then amountB v
    else if otherS p = [119] then decide (v.kind = 4) && decide (v.n.tmod 1000 = 0) else if otherS p = [114] then (decide (v.kind = 4) && decide (0 < v.n)) || (decide (v.kind = 5) && decide (0 < v.n) && decide (0 < v.d)) else if otherS p = [105] then decide (v.kind = 6) else false := by
  have key : ∀ (a1 a2 a3 a4 a5 a6 a7 : Prop) [Decidable a1] [Decidable a2] [Decidable a3] [Decidable a4] [Decidable a5] [Decidable a6] [Decidable a7] (b1 b2 b3 b4 b5 b6 b7 : Bool),
      (if a1 then b1 else if a2 then b2 else if a3 then b3 else if a4 then b4 else if a5 then b5 else if a6 then b6 else if a7 then b7 else false) =
      (let s : List UInt8 := if a1 then [117] else if a2 then [101] else if a3 then [108] else if a4 then [110] else if a5 then [119] else if a6 then [114] else if a7 then [105] else []
       if s = [117] then b1 else if s = [101] then b2 else if s = [108] then b3 else if s = [110] then b4 else if s = [119] then b5 else if s = [114] then b6 else if s = [105] then b7 else false) := by
    intro a1 a2 a3 a4 a5 a6 a7 _ _ _ _ _ _ _ b1 b2 b3 b4 b5 b6 b7
    by_cases h1 : a1
    · simp [h1]
    by_cases h2 : a2
    · simp [h1, h2]
    by_cases h3 : a3
    · simp [h1, h2, h3]
    by_cases h4 : a4
    · simp [h1, h2, h3, h4]
    by_cases h5 : a5
    · simp [h1, h2, h3, h4, h5]
    by_cases h6 : a6
    · simp [h1, h2, h3, h4, h5, h6]
    by_cases h7 : a7
    · simp [h1, h2, h3, h4, h5, h6, h7]
    simp [h1, h2, h3, h4, h5, h6, h7]
  unfold otherP otherS
  exact key _ _ _ _ _ _ _ _ _ _ _ _ _ _
theorem otherS_cases (p : Int) : otherS p = [117] ∨ otherS p = [101] ∨ otherS p = [108] ∨ otherS p = [110] ∨ otherS p = [119] ∨ otherS p = [114] ∨ otherS p = [105] ∨ otherS p = [] := by
  unfold otherS
  (repeat' split) <;> simp
theorem words_any_swap (l : List Nat) (t : List UInt8) : ((l.map wd).any fun x => decide (x = t)) = l.any fun k => decide (wd k = t) := by
  rw [List.any_map]; rfl
theorem refTakes_any (p : Int) (v : Val) (w : World) (hl : v.name.length ≤ 9223372036854775807) :
    Calls Tryz.prog 32 #[.int .i64 p, .agg #[.int .i64 v.kind, .int .i64 v.n, .int .i64 v.d, .string (bs v.name)]] w fun e w' => e = .returned (.bool (takesM p v)) ∧ Below w.heap.size w w' := by
  rw [takes_same]
  by_cases h1 : p < 1
  · have := refTakes_lo p v w h1
    unfold refTakesM; rw [if_pos (Or.inl h1)]; exact this
  by_cases h2 : 37 < p
  · have := refTakes_hi p v w h2
    unfold refTakesM; rw [if_pos (Or.inr (Or.inl h2))]; exact this
  cases hr : rightV v
  · have := refTakes_wrong p v w (by omega) (by omega) hr hl
    unfold refTakesM; rw [if_pos (Or.inr (Or.inr hr))]; exact this
  unfold refTakesM; rw [if_neg (by rw [hr]; simp; omega)]
  by_cases hk : v.kind = 1
  · rw [if_pos hk]
    obtain ⟨k, n, d, nm⟩ := v
    simp only at hk
    subst hk
    unfold rightV at hr
    simp at hr
    obtain ⟨a1, a2, rfl, rfl⟩ := hr
    obtain ⟨m, rfl⟩ := Int.eq_ofNat_of_zero_le (show 0 ≤ n by omega)
    by_cases h28 : 28 ≤ m
    · have := refTakes_glob p m w (by omega) (by omega) h28 (by omega)
      simp only
      rw [decide_eq_true (show (28 : Int) ≤ (m : Int) by omega), Bool.true_or]; exact this
    · have := refTakes_word p m w (by omega) (by omega) (by omega) (by omega)
      rw [words_any_swap] at this
      simp only
      rw [decide_eq_false (show ¬ (28 : Int) ≤ (m : Int) by omega), Bool.false_or]
      have e : textV ⟨1, (m : Int), 0, []⟩ = wordsL.getD m [] := by unfold textV atL; rw [wordsL_length, if_pos (by simp only; omega), Int.toNat_natCast]
      rw [e]; exact this
  rw [if_neg hk, otherP_letter]
  rcases otherS_cases p with h | h | h | h | h | h | h | h
  · have := refT_u p v w (by omega) (by omega) hr hl hk h; rw [h]; exact this
  · have := refT_e p v w (by omega) (by omega) hr hl hk h; rw [h]; exact this
  · have := refT_l p v w (by omega) (by omega) hr hl hk h; rw [h]; exact this
  · have := refT_n p v w (by omega) (by omega) hr hl hk h; rw [h]; exact this
  · have := refT_w p v w (by omega) (by omega) hr hl hk h; rw [h]; exact this
  · have := refT_r p v w (by omega) (by omega) hr hl hk h; rw [h]; exact this
  · have := refT_i p v w (by omega) (by omega) hr hl hk h; rw [h]; exact this
  have := refT_z p v w (by omega) (by omega) hr hl hk h; rw [h]; exact this
end Go.Proofs.YtabhokgefpilkaaGreatDoor
