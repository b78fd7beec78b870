/-
  The walk of the reference's Tokens.
-/
import Derived.Test.YtikhghmnclpigaaGreatDoorToksA
import Derived.Test.YtikhghmnclpigaaGreatDoorValG
namespace Go.Proofs.YtikhghmnclpigaaGreatDoor
open Go.RowKit Wsc
theorem words_kk (w : World) : Calls Tryz.prog 36 #[] w fun e w' => (∃ b o c, e = .returned (.slice (some ⟨b, o, none⟩) 31 c) ∧ b < w'.heap.size ∧ 31 ≤ c ∧ c ≤ 9223372036854775807 ∧ ∀ k, k < 31 → w'.cell? ⟨b, o + k, none⟩ = some (.string (bs (wordsL.getD k [])))) ∧ Below w.heap.size w w' := by
  refine (words_k w).mono fun e w' ⟨⟨a, c, he, hs⟩, hb⟩ => ⟨?_, hb⟩
  obtain ⟨aa, cc, ee, hn0, hm0, hcase⟩ := hs
  simp at ee
  obtain ⟨rfl, rfl⟩ := ee
  rcases hcase with ⟨h0, _⟩ | ⟨b0, o0, rfl, hB0, hC0⟩
  · omega
  · refine ⟨b0, o0, c, he, hB0, hn0, by unfold maxLen at hm0; exact hm0, fun k hk => ?_⟩
    have hk2 : k < wordsL.length := by rw [wordsL_length]; exact hk
    rw [strs_get hC0 k hk2, List.getD_eq_getElem?_getD, List.getElem?_eq_getElem hk2]; rfl
theorem units_kk (w : World) : Calls Tryz.prog 41 #[] w fun e w' => (∃ b o c, e = .returned (.slice (some ⟨b, o, none⟩) 9 c) ∧ b < w'.heap.size ∧ 9 ≤ c ∧ c ≤ 9223372036854775807 ∧ ∀ k, k < 9 → w'.cell? ⟨b, o + k, none⟩ = some (.string (bs (unitsL.getD k [])))) ∧ Below w.heap.size w w' := by
  refine (units_k w).mono fun e w' ⟨⟨a, c, he, hs⟩, hb⟩ => ⟨?_, hb⟩
  obtain ⟨aa, cc, ee, hn0, hm0, hcase⟩ := hs
  simp at ee
  obtain ⟨rfl, rfl⟩ := ee
  rcases hcase with ⟨h0, _⟩ | ⟨b0, o0, rfl, hB0, hC0⟩
  · omega
  · refine ⟨b0, o0, c, he, hB0, hn0, by unfold maxLen at hm0; exact hm0, fun k hk => ?_⟩
    have hk2 : k < unitsL.length := by rw [unitsL_length]; exact hk
    rw [strs_get hC0 k hk2, List.getD_eq_getElem?_getD, List.getElem?_eq_getElem hk2]; rfl
theorem rt_no (v : Val) (w : World) (hr : rightV v = false) (hl : v.name.length ≤ 9223372036854775807) :
    Calls Tryz.prog 13 #[valV v] w fun e w' => e = .returned (.slice none 0 0) ∧ Below w.heap.size w w' := by
  have hA := (Below.refl w.heap.size w).alloc (Nat.le_refl _) (.cells #[.int .i64 v.kind, .int .i64 v.n, .int .i64 v.d, .string (bs v.name)] 23)
  have R := fun ww => refRight_any v ww hl
  rw [hr] at R
  have R2 := Lib.hid R
  have HA := Lib.hid hA
  clear R hA hr
  unfold valV at *
  go_enter Tryz.func13, Tryz.ntmps13
  go_wp2_with fail
  refine (R2.out _).mono ?_
  rintro e w1 ⟨rfl, hb⟩
  go_wp2
  go_ret
  exact ⟨rfl, HA.out.trans (hb.mono (by simp))⟩
theorem toksRes_one2 (w : World) (o : Obj) (t : Tok) (W : World) (hW : W = (w.alloc o).alloc (.cells #[.int .i64 t.kind, .string (bs t.text), .int .i64 t.n] 32)) : ToksRes [t] (.returned (.slice (some ⟨w.heap.size + 1, 0, none⟩) 1 1)) W := by
  subst hW
  have := toksRes_one (w.alloc o) t 1 (by decide) (by decide)
  simpa using this
theorem toksRes_at (W : World) (t : Tok) (g : Nat) (hg : g = W.heap.size) (W' : World) (hW : W' = W.alloc (.cells #[.int .i64 t.kind, .string (bs t.text), .int .i64 t.n] 32)) : ToksRes [t] (.returned (.slice (some ⟨g, 0, none⟩) 1 1)) W' := by
  subst hg hW
  exact toksRes_one W t 1 (by decide) (by decide)
theorem rt_num (n d : Int) (nm : List UInt8) (w : World) (hr : rightV ⟨4, n, d, nm⟩ = true) (hl : nm.length ≤ 9223372036854775807) :
    Calls Tryz.prog 13 #[valV ⟨4, n, d, nm⟩] w fun e w' => ToksRes [⟨7, [], n⟩] e w' ∧ Below w.heap.size w w' := by
  have hA := (Below.refl w.heap.size w).alloc (Nat.le_refl _) (.cells #[.int .i64 4, .int .i64 n, .int .i64 d, .string (bs nm)] 23)
  have R := fun ww => refRight_any ⟨4, n, d, nm⟩ ww hl
  rw [hr] at R
  have R2 := Lib.hid R
  have HA := Lib.hid hA
  clear R hA hr
  unfold valV at *
  go_enter Tryz.func13, Tryz.ntmps13
  go_wp2_with fail
  refine (R2.out _).mono ?_
  rintro e w1 ⟨rfl, hb⟩
  have HB := Lib.hid (HA.out.trans (hb.mono (by simp)))
  obtain ⟨q0, q1, q2, q3, _, _, _, _⟩ := (Blk4.new w 23 (.int .i64 4) (.int .i64 n) (.int .i64 d) (.string (bs nm))).below hb (by simp)
  have hlt : w.heap.size < w1.heap.size := by have := hb.size; simp at this; omega
  clear hb
  go_wp2
  go_ret
  exact ⟨toksRes_one2 w1 _ ⟨7, [], n⟩ _ rfl, (HB.out.alloc HB.out.size _).alloc (by have := HB.out.size; simp; omega) _⟩
theorem rt_pct (n d : Int) (nm : List UInt8) (w : World) (hr : rightV ⟨3, n, d, nm⟩ = true) (hl : nm.length ≤ 9223372036854775807) :
    Calls Tryz.prog 13 #[valV ⟨3, n, d, nm⟩] w fun e w' => ToksRes [⟨8, [], n⟩] e w' ∧ Below w.heap.size w w' := by
  have hA := (Below.refl w.heap.size w).alloc (Nat.le_refl _) (.cells #[.int .i64 3, .int .i64 n, .int .i64 d, .string (bs nm)] 23)
  have R := fun ww => refRight_any ⟨3, n, d, nm⟩ ww hl
  rw [hr] at R
  have R2 := Lib.hid R
  have HA := Lib.hid hA
  clear R hA hr
  unfold valV at *
  go_enter Tryz.func13, Tryz.ntmps13
  go_wp2_with fail
  refine (R2.out _).mono ?_
  rintro e w1 ⟨rfl, hb⟩
  have HB := Lib.hid (HA.out.trans (hb.mono (by simp)))
  obtain ⟨q0, q1, q2, q3, _, _, _, _⟩ := (Blk4.new w 23 (.int .i64 3) (.int .i64 n) (.int .i64 d) (.string (bs nm))).below hb (by simp)
  have hlt : w.heap.size < w1.heap.size := by have := hb.size; simp at this; omega
  clear hb
  go_wp2
  go_ret
  exact ⟨toksRes_one2 w1 _ ⟨8, [], n⟩ _ rfl, (HB.out.alloc HB.out.size _).alloc (by have := HB.out.size; simp; omega) _⟩
theorem rt_name (n d : Int) (nm : List UInt8) (w : World) (hr : rightV ⟨6, n, d, nm⟩ = true) (hl : nm.length ≤ 9223372036854775807) :
    Calls Tryz.prog 13 #[valV ⟨6, n, d, nm⟩] w fun e w' => ToksRes [⟨1, nm, 0⟩] e w' ∧ Below w.heap.size w w' := by
  have hA := (Below.refl w.heap.size w).alloc (Nat.le_refl _) (.cells #[.int .i64 6, .int .i64 n, .int .i64 d, .string (bs nm)] 23)
  have R := fun ww => refRight_any ⟨6, n, d, nm⟩ ww hl
  rw [hr] at R
  have R2 := Lib.hid R
  have HA := Lib.hid hA
  clear R hA hr
  unfold valV at *
  go_enter Tryz.func13, Tryz.ntmps13
  go_wp2_with fail
  refine (R2.out _).mono ?_
  rintro e w1 ⟨rfl, hb⟩
  have HB := Lib.hid (HA.out.trans (hb.mono (by simp)))
  obtain ⟨q0, q1, q2, q3, _, _, _, _⟩ := (Blk4.new w 23 (.int .i64 6) (.int .i64 n) (.int .i64 d) (.string (bs nm))).below hb (by simp)
  have hlt : w.heap.size < w1.heap.size := by have := hb.size; simp at this; omega
  clear hb
  go_wp2
  go_ret
  exact ⟨toksRes_one2 w1 _ ⟨1, nm, 0⟩ _ rfl, (HB.out.alloc HB.out.size _).alloc (by have := HB.out.size; simp; omega) _⟩
theorem rt_ratio (n d : Int) (nm : List UInt8) (w : World) (hr : rightV ⟨5, n, d, nm⟩ = true) (hl : nm.length ≤ 9223372036854775807) :
    Calls Tryz.prog 13 #[valV ⟨5, n, d, nm⟩] w fun e w' => ToksRes [⟨7, [], n⟩, spT, slT, spT, ⟨7, [], d⟩] e w' ∧ Below w.heap.size w w' := by
  have hA := (Below.refl w.heap.size w).alloc (Nat.le_refl _) (.cells #[.int .i64 5, .int .i64 n, .int .i64 d, .string (bs nm)] 23)
  have R := fun ww => refRight_any ⟨5, n, d, nm⟩ ww hl
  rw [hr] at R
  have R2 := Lib.hid R
  have HA := Lib.hid hA
  clear R hA hr
  unfold valV at *
  go_enter Tryz.func13, Tryz.ntmps13
  go_wp2_with fail
  refine (R2.out _).mono ?_
  rintro e w1 ⟨rfl, hb⟩
  have HB := Lib.hid (HA.out.trans (hb.mono (by simp)))
  obtain ⟨q0, q1, q2, q3, _, _, _, _⟩ := (Blk4.new w 23 (.int .i64 5) (.int .i64 n) (.int .i64 d) (.string (bs nm))).below hb (by simp)
  have hlt : w.heap.size < w1.heap.size := by have := hb.size; simp at this; omega
  clear hb
  go_wp2
  go_ret
  have S := SlAt.new (w1.alloc (.cells #[.int .i64 7, .string ⟨#[]⟩, .int .i64 n] 32)) (toks [⟨7, [], n⟩, spT, slT, spT, ⟨7, [], d⟩]) 5 5 32 (by decide) (by decide)
  rw [show (w1.alloc (.cells #[.int .i64 7, .string ⟨#[]⟩, .int .i64 n] 32)).heap.size = w1.heap.size + 1 by simp] at S
  exact ⟨⟨_, _, rfl, ⟨S⟩⟩, (HB.out.alloc HB.out.size _).alloc (by have := HB.out.size; simp; omega) _⟩
theorem below_put3' {B g : Nat} {w0 w : World} (h : Below B w0 w) (hg : B ≤ g) (a b c : Value) : Below B w0 (((w.setCell ⟨g, 0, none⟩ a).setCell ⟨g, 1, none⟩ b).setCell ⟨g, 2, none⟩ c) :=
  ((h.setCell hg _).setCell hg _).setCell hg _
set_option maxHeartbeats 2000000 in
theorem rt_word (n d : Int) (nm : List UInt8) (w : World) (hr : rightV ⟨1, n, d, nm⟩ = true) (hl : nm.length ≤ 9223372036854775807) :
    Calls Tryz.prog 13 #[valV ⟨1, n, d, nm⟩] w fun e w' => ToksRes [⟨1, atL wordsL n, 0⟩] e w' ∧ Below w.heap.size w w' := by
  have hk0 : 1 ≤ n ∧ n ≤ 30 := by unfold rightV at hr; simp at hr; omega
  obtain ⟨k, hk⟩ := Int.eq_ofNat_of_zero_le (show 0 ≤ n by omega)
  subst hk
  have hat : atL wordsL (k : Int) = wordsL.getD k [] := by unfold atL; rw [wordsL_length, if_pos (by omega), Int.toNat_natCast]
  rw [hat]
  have hk31 : k < 31 := by omega
  have hA := (Below.refl w.heap.size w).alloc (Nat.le_refl _) (.cells #[.int .i64 1, .int .i64 (k : Int), .int .i64 d, .string (bs nm)] 23)
  have R := fun ww => refRight_any ⟨1, (k : Int), d, nm⟩ ww hl
  rw [hr] at R
  have R2 := Lib.hid R
  have HA := Lib.hid hA
  clear R hA hr hat hk0
  unfold valV at *
  go_enter Tryz.func13, Tryz.ntmps13
  go_wp2_with fail
  refine (R2.out _).mono ?_
  rintro e w1 ⟨rfl, hb⟩
  have HB := Lib.hid (HA.out.trans (hb.mono (by simp)))
  obtain ⟨q0, q1, q2, q3, _, _, _, _⟩ := (Blk4.new w 23 (.int .i64 1) (.int .i64 (k : Int)) (.int .i64 d) (.string (bs nm))).below hb (by simp)
  have hlt : w.heap.size < w1.heap.size := by have := hb.size; simp at this; omega
  clear hb
  go_wp2_with fail
  have HB2 := HB.out.alloc HB.out.size (.cells #[.int .i64 7, .string ⟨#[]⟩, .int .i64 (k : Int)] 32)
  have T3 := Blk3.new w1 32 (.int .i64 7) (.string ⟨#[]⟩) (.int .i64 (k : Int))
  have q0' := ((Below.refl w1.heap.size w1).alloc (Nat.le_refl _) (.cells #[.int .i64 7, .string ⟨#[]⟩, .int .i64 (k : Int)] 32)).cell (p := ⟨w.heap.size, 0, none⟩) hlt |>.trans q0
  have q1' := ((Below.refl w1.heap.size w1).alloc (Nat.le_refl _) (.cells #[.int .i64 7, .string ⟨#[]⟩, .int .i64 (k : Int)] 32)).cell (p := ⟨w.heap.size, 1, none⟩) hlt |>.trans q1
  have q2' := ((Below.refl w1.heap.size w1).alloc (Nat.le_refl _) (.cells #[.int .i64 7, .string ⟨#[]⟩, .int .i64 (k : Int)] 32)).cell (p := ⟨w.heap.size, 2, none⟩) hlt |>.trans q2
  have hsz : (w1.alloc (.cells #[.int .i64 7, .string ⟨#[]⟩, .int .i64 (k : Int)] 32)).heap.size = w1.heap.size + 1 := by simp
  generalize hW : w1.alloc (.cells #[.int .i64 7, .string ⟨#[]⟩, .int .i64 (k : Int)] 32) = W at *
  have hs0 : w.heap.size < W.heap.size := by omega
  have hs1 : w1.heap.size < W.heap.size := by omega
  have HBW := Lib.hid HB2
  have HT3 := Lib.hid T3
  clear hW HB2 T3 hsz q0 q1 q2
  go_region_with ((go_at_call 36; refine (words_kk _).mono ?_; rintro e w2 ⟨⟨b0, o0, c0, rfl, hb0, hc1, hc2, hcl⟩, hb⟩; have hc3 := hcl k (by exact hk31); clear hcl; have p1 := (hb.cell (p := ⟨w.heap.size, 1, none⟩) (by exact hs0)).trans (by exact q1'); have p2 := (hb.cell (p := ⟨w.heap.size, 2, none⟩) (by exact hs0)).trans (by exact q2'); obtain ⟨t0, t1, t2, f0, f1, f2⟩ := HT3.out.drew.below hb (by exact hs1); have HB1 := Lib.hid hb; clear hb))
  all_goals
    have hX := Lib.hid ((HBW.out.drew.trans (HB1.out.mono (by exact HBW.out.size))))
    have U3 := (Blk3.mk t0 t1 t2 f0 f1 f2).put (.int .i64 1) (.string (bs (wordsL.getD k []))) (.int .i64 0)
    have hX3 := Lib.hid (below_put3' (g := w1.heap.size) hX.out HB.out.size (.int .i64 1) (.string (bs (wordsL.getD k []))) (.int .i64 0))
    go_wp2
    go_ret
    exact ⟨toksRes_at _ ⟨1, wordsL.getD k [], 0⟩ _ (by simp) _ rfl, hX3.out.alloc hX3.out.size _⟩
set_option maxHeartbeats 2000000 in
theorem rt_unit (n d : Int) (nm : List UInt8) (w : World) (hr : rightV ⟨2, n, d, nm⟩ = true) (hl : nm.length ≤ 9223372036854775807) :
    Calls Tryz.prog 13 #[valV ⟨2, n, d, nm⟩] w fun e w' => ToksRes [⟨9, atL unitsL d, n⟩] e w' ∧ Below w.heap.size w w' := by
  have hk0 : 1 ≤ d ∧ d ≤ 8 := by unfold rightV at hr; simp at hr; omega
  obtain ⟨k, hk⟩ := Int.eq_ofNat_of_zero_le (show 0 ≤ d by omega)
  subst hk
  have hat : atL unitsL (k : Int) = unitsL.getD k [] := by unfold atL; rw [unitsL_length, if_pos (by omega), Int.toNat_natCast]
  rw [hat]
  have hk31 : k < 9 := by omega
  have hA := (Below.refl w.heap.size w).alloc (Nat.le_refl _) (.cells #[.int .i64 2, .int .i64 n, .int .i64 (k : Int), .string (bs nm)] 23)
  have R := fun ww => refRight_any ⟨2, n, (k : Int), nm⟩ ww hl
  rw [hr] at R
  have R2 := Lib.hid R
  have HA := Lib.hid hA
  clear R hA hr hat hk0
  unfold valV at *
  go_enter Tryz.func13, Tryz.ntmps13
  go_wp2_with fail
  refine (R2.out _).mono ?_
  rintro e w1 ⟨rfl, hb⟩
  have HB := Lib.hid (HA.out.trans (hb.mono (by simp)))
  obtain ⟨q0, q1, q2, q3, _, _, _, _⟩ := (Blk4.new w 23 (.int .i64 2) (.int .i64 n) (.int .i64 (k : Int)) (.string (bs nm))).below hb (by simp)
  have hlt : w.heap.size < w1.heap.size := by have := hb.size; simp at this; omega
  clear hb
  go_wp2_with fail
  have HB2 := HB.out.alloc HB.out.size (.cells #[.int .i64 7, .string ⟨#[]⟩, .int .i64 n] 32)
  have T3 := Blk3.new w1 32 (.int .i64 7) (.string ⟨#[]⟩) (.int .i64 n)
  have q0' := ((Below.refl w1.heap.size w1).alloc (Nat.le_refl _) (.cells #[.int .i64 7, .string ⟨#[]⟩, .int .i64 n] 32)).cell (p := ⟨w.heap.size, 0, none⟩) hlt |>.trans q0
  have q1' := ((Below.refl w1.heap.size w1).alloc (Nat.le_refl _) (.cells #[.int .i64 7, .string ⟨#[]⟩, .int .i64 n] 32)).cell (p := ⟨w.heap.size, 1, none⟩) hlt |>.trans q1
  have q2' := ((Below.refl w1.heap.size w1).alloc (Nat.le_refl _) (.cells #[.int .i64 7, .string ⟨#[]⟩, .int .i64 n] 32)).cell (p := ⟨w.heap.size, 2, none⟩) hlt |>.trans q2
  have hsz : (w1.alloc (.cells #[.int .i64 7, .string ⟨#[]⟩, .int .i64 n] 32)).heap.size = w1.heap.size + 1 := by simp
  generalize hW : w1.alloc (.cells #[.int .i64 7, .string ⟨#[]⟩, .int .i64 n] 32) = W at *
  have hs0 : w.heap.size < W.heap.size := by omega
  have hs1 : w1.heap.size < W.heap.size := by omega
  have HBW := Lib.hid HB2
  have HT3 := Lib.hid T3
  clear hW HB2 T3 hsz q0 q1 q2
  go_region_with ((go_at_call 41; refine (units_kk _).mono ?_; rintro e w2 ⟨⟨b0, o0, c0, rfl, hb0, hc1, hc2, hcl⟩, hb⟩; have hc3 := hcl k (by exact hk31); clear hcl; have p1 := (hb.cell (p := ⟨w.heap.size, 1, none⟩) (by exact hs0)).trans (by exact q1'); have p2 := (hb.cell (p := ⟨w.heap.size, 2, none⟩) (by exact hs0)).trans (by exact q2'); obtain ⟨t0, t1, t2, f0, f1, f2⟩ := HT3.out.drew.below hb (by exact hs1); have HB1 := Lib.hid hb; clear hb))
  all_goals
    have hX := Lib.hid ((HBW.out.drew.trans (HB1.out.mono (by exact HBW.out.size))))
    have U3 := (Blk3.mk t0 t1 t2 f0 f1 f2).put (.int .i64 9) (.string (bs (unitsL.getD k []))) (.int .i64 n)
    have hX3 := Lib.hid (below_put3' (g := w1.heap.size) hX.out HB.out.size (.int .i64 9) (.string (bs (unitsL.getD k []))) (.int .i64 n))
    go_wp2
    go_ret
    exact ⟨toksRes_at _ ⟨9, unitsL.getD k [], n⟩ _ (by simp) _ rfl, hX3.out.alloc hX3.out.size _⟩
theorem rtokens_any (v : Val) (w : World) (hl : v.name.length ≤ 9223372036854775807) :
    Calls Tryz.prog 13 #[valV v] w fun e w' => ToksRes (tokensL v) e w' ∧ Below w.heap.size w w' := by
  cases hr : rightV v
  · refine (rt_no v w hr hl).mono fun e w' ⟨he, hb⟩ => ⟨?_, hb⟩
    subst he
    unfold tokensL; rw [hr, if_neg (by simp)]
    exact ⟨none, 0, rfl, ⟨SlAt.nil _⟩⟩
  · unfold tokensL; rw [if_pos hr]
    obtain ⟨k, n, d, nm⟩ := v
    unfold rightToks
    simp only
    by_cases h1 : k = 1
    · subst h1; rw [if_pos rfl]; exact rt_word n d nm w hr hl
    rw [if_neg h1]
    by_cases h6 : k = 6
    · subst h6; rw [if_pos rfl]; exact rt_name n d nm w hr hl
    rw [if_neg h6]
    by_cases h2 : k = 2
    · subst h2; rw [if_pos rfl]; exact rt_unit n d nm w hr hl
    rw [if_neg h2]
    by_cases h3 : k = 3
    · subst h3; rw [if_pos rfl]; exact rt_pct n d nm w hr hl
    rw [if_neg h3]
    by_cases h5 : k = 5
    · subst h5; rw [if_pos rfl]; exact rt_ratio n d nm w hr hl
    rw [if_neg h5]
    by_cases h4 : k = 4
    · subst h4; exact rt_num n d nm w hr hl
    · exfalso
      unfold rightV at hr
      simp only at hr
      rw [if_neg h1, if_neg h2, if_neg (by omega), if_neg h5, if_neg h6] at hr
      cases hr
end Go.Proofs.YtikhghmnclpigaaGreatDoor
