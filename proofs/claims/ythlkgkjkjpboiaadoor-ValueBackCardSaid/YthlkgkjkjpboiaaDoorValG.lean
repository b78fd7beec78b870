/-
  The walk of the reference's Read of values.
-/
import Derived.Test.YthlkgkjkjpboiaaDoorValC
namespace Go.Proofs.YthlkgkjkjpboiaaDoor
open Go.RowKit Wsc
abbrev zv (w : World) (v : Val) : World := (w.alloc (.cells #[.int .i64 0, .int .i64 0, .int .i64 0, .string ⟨#[]⟩] 32)).alloc (.cells #[.int .i64 v.kind, .int .i64 v.n, .int .i64 v.d, .string (bs v.name)] 32)
theorem zv_below (w : World) (v : Val) : Below w.heap.size w (zv w v) := ((Below.refl _ _).alloc (Nat.le_refl _) _).alloc (by simp) _
theorem zv_b0 (w : World) (v : Val) : Blk4 (zv w v) w.heap.size (.int .i64 0) (.int .i64 0) (.int .i64 0) (.string ⟨#[]⟩) :=
  (zblk w).below ((Below.refl (w.heap.size + 1) _).alloc (by simp) _) (by omega)
theorem zv_b1 (w : World) (v : Val) : Blk4 (zv w v) (w.heap.size + 1) (.int .i64 v.kind) (.int .i64 v.n) (.int .i64 v.d) (.string (bs v.name)) := by
  have := Blk4.new (w.alloc (.cells #[.int .i64 0, .int .i64 0, .int .i64 0, .string ⟨#[]⟩] 32)) 32 (.int .i64 v.kind) (.int .i64 v.n) (.int .i64 v.d) (.string (bs v.name))
  simpa using this
theorem zv_size (w : World) (v : Val) : (zv w v).heap.size = w.heap.size + 2 := by simp [zv]
/-- what Read gives back of a value, right or not. -/
def RightOr (v : Val) (n : Nat) (e : Ending) : Prop := e = .returned (if rightV v = true then .tuple #[valV v, .int .i64 n] else .tuple #[valV zeroVal, .int .i64 0])
theorem rightOr_yes {v : Val} {n : Nat} (h : rightV v = true) : RightOr v n (.returned (.tuple #[valV v, .int .i64 n])) := by unfold RightOr; rw [if_pos h]
theorem rightOr_no {v : Val} {n : Nat} (h : rightV v = false) : RightOr v n (.returned (.tuple #[valV zeroVal, .int .i64 0])) := by unfold RightOr; rw [if_neg (by rw [h]; simp)]
theorem rr_nil (a : Option Addr) (c : Nat) (w : World) :
    Calls Tryd.prog 17 #[.slice a 0 c] w fun e w' => e = .returned (.tuple #[valV zeroVal, .int .i64 0]) ∧ Below w.heap.size w w' := by
  go_enter Tryd.func17, Tryd.ntmps17
  go_wp2
  exact ret_val rfl rfl (zblk w) rfl ⟨rfl, (Below.refl _ _).alloc (Nat.le_refl _) _⟩
theorem rr_pct (b o c n : Nat) (t : Tok) (w : World) (hn : 0 < n) (hnc : n ≤ c) (hc : c ≤ 9223372036854775807) (hB : b < w.heap.size) (hk : t.kind = 8) (ht : TokAt w b o t) :
    Calls Tryd.prog 17 #[.slice (some ⟨b, o, none⟩) n c] w fun e w' => RightOr ⟨3, t.n, 0, []⟩ 1 e ∧ Below w.heap.size w w' := by
  obtain ⟨c0, c1, c2⟩ := ht
  rw [hk] at c0
  clear hk
  have hz : ((n : Int) == 0) = false := by simp; omega
  have RR := fun ww => refRight_any ⟨3, t.n, 0, []⟩ ww (by simp)
  unfold valV at RR
  simp only at RR
  cases hr : rightV ⟨3, t.n, 0, []⟩
  · rw [hr] at RR
    have RR2 := Lib.hid RR
    have HR := Lib.hid hr
    clear RR hr
    go_enter Tryd.func17, Tryd.ntmps17
    go_wp2_with fail
    refine (RR2.out _).mono ?_
    rintro e w1 ⟨rfl, hb⟩
    obtain ⟨r0, r1, r2, r3, f0, f1, f2, f3⟩ := (zv_b0 w ⟨3, t.n, 0, []⟩).below hb (by simp; omega)
    obtain ⟨q0, q1, q2, q3, _, _, _, _⟩ := (zv_b1 w ⟨3, t.n, 0, []⟩).below hb (by simp)
    have hB := Lib.hid ((zv_below w ⟨3, t.n, 0, []⟩).trans (hb.mono (by simp; omega)))
    have Q := (Blk4.mk r0 r1 r2 r3 f0 f1 f2 f3).put (.int .i64 0) (.int .i64 0) (.int .i64 0) (.string ⟨#[]⟩)
    go_wp2
    exact ret_val rfl rfl Q rfl ⟨rightOr_no HR.out, below_put4 hB.out (Nat.le_refl _) _ _ _ _⟩
  · rw [hr] at RR
    have RR2 := Lib.hid RR
    have HR := Lib.hid hr
    clear RR hr
    go_enter Tryd.func17, Tryd.ntmps17
    go_wp2_with fail
    refine (RR2.out _).mono ?_
    rintro e w1 ⟨rfl, hb⟩
    obtain ⟨r0, r1, r2, r3, f0, f1, f2, f3⟩ := (zv_b0 w ⟨3, t.n, 0, []⟩).below hb (by simp; omega)
    obtain ⟨q0, q1, q2, q3, _, _, _, _⟩ := (zv_b1 w ⟨3, t.n, 0, []⟩).below hb (by simp)
    have hB := Lib.hid ((zv_below w ⟨3, t.n, 0, []⟩).trans (hb.mono (by simp; omega)))
    have Q := (Blk4.mk r0 r1 r2 r3 f0 f1 f2 f3).put (.int .i64 3) (.int .i64 t.n) (.int .i64 0) (.string ⟨#[]⟩)
    go_wp2
    exact ret_val rfl rfl Q rfl ⟨rightOr_yes HR.out, below_put4 hB.out (Nat.le_refl _) _ _ _ _⟩
theorem rr_other (b o c n : Nat) (t : Tok) (w : World) (hn : 0 < n) (hnc : n ≤ c) (hc : c ≤ 9223372036854775807) (hB : b < w.heap.size) (hk : ¬ t.kind = 7 ∧ ¬ t.kind = 8 ∧ ¬ t.kind = 9 ∧ ¬ t.kind = 1) (ht : TokAt w b o t) :
    Calls Tryd.prog 17 #[.slice (some ⟨b, o, none⟩) n c] w fun e w' => RightOr ⟨0, t.n, 0, []⟩ 1 e ∧ Below w.heap.size w w' := by
  obtain ⟨c0, c1, c2⟩ := ht
  obtain ⟨k7, k8, k9, k1⟩ := hk
  have k7 : (t.kind == 7) = false := by simpa using k7
  have k8 : (t.kind == 8) = false := by simpa using k8
  have k9 : (t.kind == 9) = false := by simpa using k9
  have k1 : (t.kind == 1) = false := by simpa using k1
  have hz : ((n : Int) == 0) = false := by simp; omega
  have RR := fun ww => refRight_any ⟨0, t.n, 0, []⟩ ww (by simp)
  unfold valV at RR
  simp only at RR
  cases hr : rightV ⟨0, t.n, 0, []⟩
  · rw [hr] at RR
    have RR2 := Lib.hid RR
    have HR := Lib.hid hr
    clear RR hr
    go_enter Tryd.func17, Tryd.ntmps17
    go_wp2_with fail
    refine (RR2.out _).mono ?_
    rintro e w1 ⟨rfl, hb⟩
    obtain ⟨r0, r1, r2, r3, f0, f1, f2, f3⟩ := (zv_b0 w ⟨0, t.n, 0, []⟩).below hb (by simp; omega)
    obtain ⟨q0, q1, q2, q3, _, _, _, _⟩ := (zv_b1 w ⟨0, t.n, 0, []⟩).below hb (by simp)
    have hB := Lib.hid ((zv_below w ⟨0, t.n, 0, []⟩).trans (hb.mono (by simp; omega)))
    have Q := (Blk4.mk r0 r1 r2 r3 f0 f1 f2 f3).put (.int .i64 0) (.int .i64 0) (.int .i64 0) (.string ⟨#[]⟩)
    go_wp2
    exact ret_val rfl rfl Q rfl ⟨rightOr_no HR.out, below_put4 hB.out (Nat.le_refl _) _ _ _ _⟩
  · rw [hr] at RR
    have RR2 := Lib.hid RR
    have HR := Lib.hid hr
    clear RR hr
    go_enter Tryd.func17, Tryd.ntmps17
    go_wp2_with fail
    refine (RR2.out _).mono ?_
    rintro e w1 ⟨rfl, hb⟩
    obtain ⟨r0, r1, r2, r3, f0, f1, f2, f3⟩ := (zv_b0 w ⟨0, t.n, 0, []⟩).below hb (by simp; omega)
    obtain ⟨q0, q1, q2, q3, _, _, _, _⟩ := (zv_b1 w ⟨0, t.n, 0, []⟩).below hb (by simp)
    have hB := Lib.hid ((zv_below w ⟨0, t.n, 0, []⟩).trans (hb.mono (by simp; omega)))
    have Q := (Blk4.mk r0 r1 r2 r3 f0 f1 f2 f3).put (.int .i64 0) (.int .i64 t.n) (.int .i64 0) (.string ⟨#[]⟩)
    go_wp2
    exact ret_val rfl rfl Q rfl ⟨rightOr_yes HR.out, below_put4 hB.out (Nat.le_refl _) _ _ _ _⟩
theorem rr_num1 (b o c : Nat) (l : List Tok) (w : World) (hv : TokSl w (some ⟨b, o, none⟩) c l) (hn : 0 < l.length) (hl : l.length ≤ 1099511627775) (t : Tok) (hk : t.kind = 7) (ht : TokAt w b o t) (hs : signAt l (skipL l 1) [47] = false) :
    Calls Tryd.prog 17 #[.slice (some ⟨b, o, none⟩) l.length c] w fun e w' => RightOr ⟨4, t.n, 0, []⟩ 1 e ∧ Below w.heap.size w w' := by
  have hcap := hv.cap
  have hBB : b < w.heap.size := by obtain ⟨b', o', e, hBB, _⟩ := hv.at_ hn; cases e; exact hBB
  have hz : ((l.length : Int) == 0) = false := beq_eq_false_iff_ne.2 (by omega)
  obtain ⟨c0, c1, c2⟩ := ht
  rw [hk] at c0
  have hvz := hv.below (zv_below w ⟨4, t.n, 0, []⟩)
  obtain ⟨i, hi⟩ : ∃ i, i = skipL l 1 := ⟨_, rfl⟩
  obtain ⟨m, hm⟩ : ∃ m, m = i + 1 := ⟨_, rfl⟩
  obtain ⟨j, hj⟩ : ∃ j, j = skipL l m := ⟨_, rfl⟩
  have hm2 : (i : Int) + 1 = (m : Int) := by omega
  have hi1 := skipL_le l 1 hn
  rw [← hi] at hi1
  have hj1 : j ≤ l.length ∨ j = m := by
    by_cases h : m ≤ l.length
    · exact Or.inl (by rw [hj]; exact skipL_le l m h)
    · exact Or.inr (by rw [hj]; exact skipL_end l m (by omega))
  have SK := fun jj h0 h1 => refSkip_any (some ⟨b, o, none⟩) c l jj _ hvz h0 h1 (by omega)
  have e1 : skipL l 1 = i := hi.symm
  have e2 : skipL l m = j := hj.symm
  have hm3 : m ≤ 1099511627776 := by omega
  have GS := refSign_any (some ⟨b, o, none⟩) c l i ⟨#[47]⟩ _ hvz (by omega) (by omega)
  rw [Int.toNat_natCast] at GS
  have GI := refIs_any (some ⟨b, o, none⟩) c l j 7 _ hvz (by omega) (by omega)
  rw [Int.toNat_natCast] at GI
  rw [← hi] at hs
  have hs : signAt l i (⟨#[47]⟩ : ByteArray).data.toList = false := hs
  rw [hs] at GS
  have SK := Lib.hid SK
  have GS := Lib.hid GS
  have GI := Lib.hid GI
  clear hvz hv hk hi hm hj hj1
  clear hs
  have RR := fun ww => refRight_any ⟨4, t.n, 0, []⟩ ww (by simp)
  unfold valV at RR
  simp only at RR
  cases hr : rightV ⟨4, t.n, 0, []⟩
  · rw [hr] at RR
    have RR2 := Lib.hid RR
    have HR := Lib.hid hr
    clear RR hr
    go_enter Tryd.func17, Tryd.ntmps17
    go_wp2_with (first
      | (go_at_call 31; refine (SK.out _ (by omega) (by omega)).mono ?_; rintro e w' ⟨rfl, rfl⟩)
      | (go_at_call 32; refine GS.out.mono ?_; rintro e w' ⟨rfl, rfl⟩))
    refine (RR2.out _).mono ?_
    rintro e w1 ⟨rfl, hb⟩
    obtain ⟨r0, r1, r2, r3, f0, f1, f2, f3⟩ := (zv_b0 w ⟨4, t.n, 0, []⟩).below hb (by simp; omega)
    obtain ⟨q0, q1, q2, q3, _, _, _, _⟩ := (zv_b1 w ⟨4, t.n, 0, []⟩).below hb (by simp)
    have hB := Lib.hid ((zv_below w ⟨4, t.n, 0, []⟩).trans (hb.mono (by simp; omega)))
    have Q := (Blk4.mk r0 r1 r2 r3 f0 f1 f2 f3).put (.int .i64 0) (.int .i64 0) (.int .i64 0) (.string ⟨#[]⟩)
    go_wp2
    exact ret_val rfl rfl Q rfl ⟨rightOr_no HR.out, below_put4 hB.out (Nat.le_refl _) _ _ _ _⟩
  · rw [hr] at RR
    have RR2 := Lib.hid RR
    have HR := Lib.hid hr
    clear RR hr
    go_enter Tryd.func17, Tryd.ntmps17
    go_wp2_with (first
      | (go_at_call 31; refine (SK.out _ (by omega) (by omega)).mono ?_; rintro e w' ⟨rfl, rfl⟩)
      | (go_at_call 32; refine GS.out.mono ?_; rintro e w' ⟨rfl, rfl⟩))
    refine (RR2.out _).mono ?_
    rintro e w1 ⟨rfl, hb⟩
    obtain ⟨r0, r1, r2, r3, f0, f1, f2, f3⟩ := (zv_b0 w ⟨4, t.n, 0, []⟩).below hb (by simp; omega)
    obtain ⟨q0, q1, q2, q3, _, _, _, _⟩ := (zv_b1 w ⟨4, t.n, 0, []⟩).below hb (by simp)
    have hB := Lib.hid ((zv_below w ⟨4, t.n, 0, []⟩).trans (hb.mono (by simp; omega)))
    have Q := (Blk4.mk r0 r1 r2 r3 f0 f1 f2 f3).put (.int .i64 4) (.int .i64 t.n) (.int .i64 0) (.string ⟨#[]⟩)
    go_wp2
    exact ret_val rfl rfl Q rfl ⟨rightOr_yes HR.out, below_put4 hB.out (Nat.le_refl _) _ _ _ _⟩
theorem rr_num2 (b o c : Nat) (l : List Tok) (w : World) (hv : TokSl w (some ⟨b, o, none⟩) c l) (hn : 0 < l.length) (hl : l.length ≤ 1099511627775) (t : Tok) (hk : t.kind = 7) (ht : TokAt w b o t) (hs : signAt l (skipL l 1) [47] = true) (hi2 : isAt l (skipL l (skipL l 1 + 1)) 7 = false) :
    Calls Tryd.prog 17 #[.slice (some ⟨b, o, none⟩) l.length c] w fun e w' => RightOr ⟨4, t.n, 0, []⟩ 1 e ∧ Below w.heap.size w w' := by
  have hcap := hv.cap
  have hBB : b < w.heap.size := by obtain ⟨b', o', e, hBB, _⟩ := hv.at_ hn; cases e; exact hBB
  have hz : ((l.length : Int) == 0) = false := beq_eq_false_iff_ne.2 (by omega)
  obtain ⟨c0, c1, c2⟩ := ht
  rw [hk] at c0
  have hvz := hv.below (zv_below w ⟨4, t.n, 0, []⟩)
  obtain ⟨i, hi⟩ : ∃ i, i = skipL l 1 := ⟨_, rfl⟩
  obtain ⟨m, hm⟩ : ∃ m, m = i + 1 := ⟨_, rfl⟩
  obtain ⟨j, hj⟩ : ∃ j, j = skipL l m := ⟨_, rfl⟩
  have hm2 : (i : Int) + 1 = (m : Int) := by omega
  have hi1 := skipL_le l 1 hn
  rw [← hi] at hi1
  have hj1 : j ≤ l.length ∨ j = m := by
    by_cases h : m ≤ l.length
    · exact Or.inl (by rw [hj]; exact skipL_le l m h)
    · exact Or.inr (by rw [hj]; exact skipL_end l m (by omega))
  have SK := fun jj h0 h1 => refSkip_any (some ⟨b, o, none⟩) c l jj _ hvz h0 h1 (by omega)
  have e1 : skipL l 1 = i := hi.symm
  have e2 : skipL l m = j := hj.symm
  have hm3 : m ≤ 1099511627776 := by omega
  have GS := refSign_any (some ⟨b, o, none⟩) c l i ⟨#[47]⟩ _ hvz (by omega) (by omega)
  rw [Int.toNat_natCast] at GS
  have GI := refIs_any (some ⟨b, o, none⟩) c l j 7 _ hvz (by omega) (by omega)
  rw [Int.toNat_natCast] at GI
  rw [← hi] at hs
  have hs : signAt l i (⟨#[47]⟩ : ByteArray).data.toList = true := hs
  rw [hs] at GS
  rw [← hi, ← hm, ← hj] at hi2
  rw [hi2] at GI
  have SK := Lib.hid SK
  have GS := Lib.hid GS
  have GI := Lib.hid GI
  clear hvz hv hk hi hm hj hj1
  clear hs hi2
  have RR := fun ww => refRight_any ⟨4, t.n, 0, []⟩ ww (by simp)
  unfold valV at RR
  simp only at RR
  cases hr : rightV ⟨4, t.n, 0, []⟩
  · rw [hr] at RR
    have RR2 := Lib.hid RR
    have HR := Lib.hid hr
    clear RR hr
    go_enter Tryd.func17, Tryd.ntmps17
    go_wp2_with (first
      | (go_at_call 31; refine (SK.out _ (by omega) (by omega)).mono ?_; rintro e w' ⟨rfl, rfl⟩)
      | (go_at_call 32; refine GS.out.mono ?_; rintro e w' ⟨rfl, rfl⟩)
      | (go_at_call 33; refine GI.out.mono ?_; rintro e w' ⟨rfl, rfl⟩))
    refine (RR2.out _).mono ?_
    rintro e w1 ⟨rfl, hb⟩
    obtain ⟨r0, r1, r2, r3, f0, f1, f2, f3⟩ := (zv_b0 w ⟨4, t.n, 0, []⟩).below hb (by simp; omega)
    obtain ⟨q0, q1, q2, q3, _, _, _, _⟩ := (zv_b1 w ⟨4, t.n, 0, []⟩).below hb (by simp)
    have hB := Lib.hid ((zv_below w ⟨4, t.n, 0, []⟩).trans (hb.mono (by simp; omega)))
    have Q := (Blk4.mk r0 r1 r2 r3 f0 f1 f2 f3).put (.int .i64 0) (.int .i64 0) (.int .i64 0) (.string ⟨#[]⟩)
    go_wp2
    exact ret_val rfl rfl Q rfl ⟨rightOr_no HR.out, below_put4 hB.out (Nat.le_refl _) _ _ _ _⟩
  · rw [hr] at RR
    have RR2 := Lib.hid RR
    have HR := Lib.hid hr
    clear RR hr
    go_enter Tryd.func17, Tryd.ntmps17
    go_wp2_with (first
      | (go_at_call 31; refine (SK.out _ (by omega) (by omega)).mono ?_; rintro e w' ⟨rfl, rfl⟩)
      | (go_at_call 32; refine GS.out.mono ?_; rintro e w' ⟨rfl, rfl⟩)
      | (go_at_call 33; refine GI.out.mono ?_; rintro e w' ⟨rfl, rfl⟩))
    refine (RR2.out _).mono ?_
    rintro e w1 ⟨rfl, hb⟩
    obtain ⟨r0, r1, r2, r3, f0, f1, f2, f3⟩ := (zv_b0 w ⟨4, t.n, 0, []⟩).below hb (by simp; omega)
    obtain ⟨q0, q1, q2, q3, _, _, _, _⟩ := (zv_b1 w ⟨4, t.n, 0, []⟩).below hb (by simp)
    have hB := Lib.hid ((zv_below w ⟨4, t.n, 0, []⟩).trans (hb.mono (by simp; omega)))
    have Q := (Blk4.mk r0 r1 r2 r3 f0 f1 f2 f3).put (.int .i64 4) (.int .i64 t.n) (.int .i64 0) (.string ⟨#[]⟩)
    go_wp2
    exact ret_val rfl rfl Q rfl ⟨rightOr_yes HR.out, below_put4 hB.out (Nat.le_refl _) _ _ _ _⟩
theorem rr_ratio (b o c : Nat) (l : List Tok) (w : World) (hv : TokSl w (some ⟨b, o, none⟩) c l) (hn : 0 < l.length) (hl : l.length ≤ 1099511627775) (t : Tok) (hk : t.kind = 7) (ht : TokAt w b o t) (hs : signAt l (skipL l 1) [47] = true) (hi2 : isAt l (skipL l (skipL l 1 + 1)) 7 = true) :
    Calls Tryd.prog 17 #[.slice (some ⟨b, o, none⟩) l.length c] w fun e w' => RightOr ⟨5, t.n, nAt l (skipL l (skipL l 1 + 1)), []⟩ (skipL l (skipL l 1 + 1) + 1) e ∧ Below w.heap.size w w' := by
  have hcap := hv.cap
  have hBB : b < w.heap.size := by obtain ⟨b', o', e, hBB, _⟩ := hv.at_ hn; cases e; exact hBB
  have hz : ((l.length : Int) == 0) = false := beq_eq_false_iff_ne.2 (by omega)
  obtain ⟨c0, c1, c2⟩ := ht
  rw [hk] at c0
  have hvz := hv.below (zv_below w ⟨4, t.n, 0, []⟩)
  obtain ⟨i, hi⟩ : ∃ i, i = skipL l 1 := ⟨_, rfl⟩
  obtain ⟨m, hm⟩ : ∃ m, m = i + 1 := ⟨_, rfl⟩
  obtain ⟨j, hj⟩ : ∃ j, j = skipL l m := ⟨_, rfl⟩
  have hm2 : (i : Int) + 1 = (m : Int) := by omega
  have hi1 := skipL_le l 1 hn
  rw [← hi] at hi1
  have hj1 : j ≤ l.length ∨ j = m := by
    by_cases h : m ≤ l.length
    · exact Or.inl (by rw [hj]; exact skipL_le l m h)
    · exact Or.inr (by rw [hj]; exact skipL_end l m (by omega))
  have SK := fun jj h0 h1 => refSkip_any (some ⟨b, o, none⟩) c l jj _ hvz h0 h1 (by omega)
  have e1 : skipL l 1 = i := hi.symm
  have e2 : skipL l m = j := hj.symm
  have hm3 : m ≤ 1099511627776 := by omega
  have GS := refSign_any (some ⟨b, o, none⟩) c l i ⟨#[47]⟩ _ hvz (by omega) (by omega)
  rw [Int.toNat_natCast] at GS
  have GI := refIs_any (some ⟨b, o, none⟩) c l j 7 _ hvz (by omega) (by omega)
  rw [Int.toNat_natCast] at GI
  rw [← hi] at hs
  have hs : signAt l i (⟨#[47]⟩ : ByteArray).data.toList = true := hs
  rw [hs] at GS
  have hj2 : j < l.length := by rw [← hi, ← hm, ← hj] at hi2; exact isAt_lt hi2
  have hx : nAt l (skipL l (skipL l 1 + 1)) = l[j].n := by rw [← hi, ← hm, ← hj]; exact nAt_in hj2
  rw [hx, show skipL l (skipL l 1 + 1) = j by rw [← hi, ← hm, ← hj]]
  rw [← hi, ← hm, ← hj] at hi2
  rw [hi2] at GI
  obtain ⟨b', o', e, _, hC⟩ := hv.at_ hn
  cases e
  have X2 := (tokAt hC j hj2).c2
  clear hC hx
  generalize l[j] = x at *
  have SK := Lib.hid SK
  have GS := Lib.hid GS
  have GI := Lib.hid GI
  clear hvz hv hk hi hm hj hj1
  clear hs hi2
  have RR := fun ww => refRight_any ⟨5, t.n, x.n, []⟩ ww (by simp)
  unfold valV at RR
  simp only at RR
  cases hr : rightV ⟨5, t.n, x.n, []⟩
  · rw [hr] at RR
    have RR2 := Lib.hid RR
    have HR := Lib.hid hr
    clear RR hr
    go_enter Tryd.func17, Tryd.ntmps17
    go_wp2_with (first
      | (go_at_call 31; refine (SK.out _ (by omega) (by omega)).mono ?_; rintro e w' ⟨rfl, rfl⟩)
      | (go_at_call 32; refine GS.out.mono ?_; rintro e w' ⟨rfl, rfl⟩)
      | (go_at_call 33; refine GI.out.mono ?_; rintro e w' ⟨rfl, rfl⟩))
    refine (RR2.out _).mono ?_
    rintro e w1 ⟨rfl, hb⟩
    obtain ⟨r0, r1, r2, r3, f0, f1, f2, f3⟩ := (zv_b0 w ⟨5, t.n, x.n, []⟩).below hb (by simp; omega)
    obtain ⟨q0, q1, q2, q3, _, _, _, _⟩ := (zv_b1 w ⟨5, t.n, x.n, []⟩).below hb (by simp)
    have hB := Lib.hid ((zv_below w ⟨5, t.n, x.n, []⟩).trans (hb.mono (by simp; omega)))
    have Q := (Blk4.mk r0 r1 r2 r3 f0 f1 f2 f3).put (.int .i64 0) (.int .i64 0) (.int .i64 0) (.string ⟨#[]⟩)
    go_wp2
    exact ret_val rfl rfl Q rfl ⟨rightOr_no HR.out, below_put4 hB.out (Nat.le_refl _) _ _ _ _⟩
  · rw [hr] at RR
    have RR2 := Lib.hid RR
    have HR := Lib.hid hr
    clear RR hr
    go_enter Tryd.func17, Tryd.ntmps17
    go_wp2_with (first
      | (go_at_call 31; refine (SK.out _ (by omega) (by omega)).mono ?_; rintro e w' ⟨rfl, rfl⟩)
      | (go_at_call 32; refine GS.out.mono ?_; rintro e w' ⟨rfl, rfl⟩)
      | (go_at_call 33; refine GI.out.mono ?_; rintro e w' ⟨rfl, rfl⟩))
    refine (RR2.out _).mono ?_
    rintro e w1 ⟨rfl, hb⟩
    obtain ⟨r0, r1, r2, r3, f0, f1, f2, f3⟩ := (zv_b0 w ⟨5, t.n, x.n, []⟩).below hb (by simp; omega)
    obtain ⟨q0, q1, q2, q3, _, _, _, _⟩ := (zv_b1 w ⟨5, t.n, x.n, []⟩).below hb (by simp)
    have hB := Lib.hid ((zv_below w ⟨5, t.n, x.n, []⟩).trans (hb.mono (by simp; omega)))
    have Q := (Blk4.mk r0 r1 r2 r3 f0 f1 f2 f3).put (.int .i64 5) (.int .i64 t.n) (.int .i64 x.n) (.string ⟨#[]⟩)
    go_wp2
    exact ret_val rfl rfl Q rfl ⟨rightOr_yes HR.out, below_put4 hB.out (Nat.le_refl _) _ _ _ _⟩
theorem words_k (w : World) : Calls Tryd.prog 8 #[] w fun e w' => (∃ a c, e = .returned (.slice a 31 c) ∧ SlAt w' (.slice a 31 c) 31 (strs wordsL)) ∧ Below w.heap.size w w' := by
  have := refWords_any w
  rw [wordsL_length] at this
  exact this
theorem units_k (w : World) : Calls Tryd.prog 12 #[] w fun e w' => (∃ a c, e = .returned (.slice a 9 c) ∧ SlAt w' (.slice a 9 c) 9 (strs unitsL)) ∧ Below w.heap.size w w' := by
  have := refUnits_any w
  rw [unitsL_length] at this
  exact this
theorem placew_k (a : Option Addr) (c : Nat) (s : List UInt8) (w : World) (hv : SlAt w (.slice a 31 c) 31 (strs wordsL)) : Calls Tryd.prog 10 #[.slice a 31 c, .string (bs s)] w fun e w' => e = .returned (.int .i64 (placeL wordsL s)) ∧ w = w' := by
  have := refPlace_any a c wordsL (bs s) w
  rw [wordsL_length, bs_data] at this
  exact this hv
theorem placeu_k (a : Option Addr) (c : Nat) (s : List UInt8) (w : World) (hv : SlAt w (.slice a 9 c) 9 (strs unitsL)) : Calls Tryd.prog 10 #[.slice a 9 c, .string (bs s)] w fun e w' => e = .returned (.int .i64 (placeL unitsL s)) ∧ w = w' := by
  have := refPlace_any a c unitsL (bs s) w
  rw [unitsL_length, bs_data] at this
  exact this hv
theorem blk_other {w : World} {g : Nat} {v0 v1 v2 v3 : Value} (h : Blk4 w g v0 v1 v2 v3) (p : Addr) (hp : ¬ g = p.block) (u : Value) : Blk4 (w.setCell p u) g v0 v1 v2 v3 := by
  obtain ⟨c0, c1, c2, c3, f0, f1, f2, f3⟩ := h
  have e : ∀ k, p ≠ (⟨g, k, none⟩ : Addr) := fun k e => hp (by rw [e])
  exact ⟨(World.cell?_setCell_other w p ⟨g, 0, none⟩ u (e 0)).trans c0, (World.cell?_setCell_other w p ⟨g, 1, none⟩ u (e 1)).trans c1, (World.cell?_setCell_other w p ⟨g, 2, none⟩ u (e 2)).trans c2, (World.cell?_setCell_other w p ⟨g, 3, none⟩ u (e 3)).trans c3, by simpa using f0, by simpa using f1, by simpa using f2, by simpa using f3⟩
theorem blk_other4 {w : World} {g : Nat} {v0 v1 v2 v3 : Value} (h : Blk4 w g v0 v1 v2 v3) (g' : Nat) (hp : ¬ g = g') (u0 u1 u2 u3 : Value) : Blk4 ((((w.setCell ⟨g', 0, none⟩ u0).setCell ⟨g', 1, none⟩ u1).setCell ⟨g', 2, none⟩ u2).setCell ⟨g', 3, none⟩ u3) g v0 v1 v2 v3 :=
  blk_other (blk_other (blk_other (blk_other h _ hp _) _ hp _) _ hp _) _ hp _
theorem cell_other4 {w : World} (g' b o : Nat) (h : ¬ g' = b) (u0 u1 u2 u3 : Value) : ((((w.setCell ⟨g', 0, none⟩ u0).setCell ⟨g', 1, none⟩ u1).setCell ⟨g', 2, none⟩ u2).setCell ⟨g', 3, none⟩ u3).cell? ⟨b, o, none⟩ = w.cell? ⟨b, o, none⟩ := by
  have e : ∀ k, (⟨g', k, none⟩ : Addr) ≠ ⟨b, o, none⟩ := fun k e => h (by cases e; rfl)
  rw [World.cell?_setCell_other _ _ _ _ (e 3), World.cell?_setCell_other _ _ _ _ (e 2), World.cell?_setCell_other _ _ _ _ (e 1), World.cell?_setCell_other _ _ _ _ (e 0)]
theorem blk_set2 {w : World} {g : Nat} {v0 v1 v2 v3 : Value} (h : Blk4 w g v0 v1 v2 v3) (u : Value) : Blk4 (w.setCell ⟨g, 2, none⟩ u) g v0 v1 u v3 := by
  obtain ⟨c0, c1, c2, c3, f0, f1, f2, f3⟩ := h
  constructor <;> simp [World.cell?_setCell_same', World.cell?_setCell_other, *]
theorem rr_dim (b o c n : Nat) (t : Tok) (w : World) (hn : 0 < n) (hnc : n ≤ c) (hc : c ≤ 9223372036854775807) (hB : b < w.heap.size) (hk : t.kind = 9) (ht : TokAt w b o t) :
    Calls Tryd.prog 17 #[.slice (some ⟨b, o, none⟩) n c] w fun e w' => RightOr ⟨2, t.n, (placeL unitsL t.text : Nat), []⟩ 1 e ∧ Below w.heap.size w w' := by
  obtain ⟨c0, c1, c2⟩ := ht
  rw [hk] at c0
  have hz : ((n : Int) == 0) = false := by simp; omega
  have P := fun a c ww hv => placeu_k a c t.text ww hv
  generalize placeL unitsL t.text = k at *
  have hb2 := zv_below w ⟨2, t.n, 0, []⟩
  have Q0 := zv_b0 w ⟨2, t.n, 0, []⟩
  have Q1 := zv_b1 w ⟨2, t.n, 0, []⟩
  have hsz := zv_size w ⟨2, t.n, 0, []⟩
  have hT := (hb2.cell (p := ⟨b, o + 1, none⟩) hB).trans c1
  have P2 := Lib.hid P
  have RR := fun ww => refRight_any ⟨2, t.n, k, []⟩ ww (by simp)
  unfold valV at RR
  simp only at RR
  have RR2 := Lib.hid RR
  have HZ := Lib.hid hsz
  have HB := Lib.hid hb2
  have HQ0 := Lib.hid Q0
  have HQ1 := Lib.hid Q1
  have HT := Lib.hid hT
  clear hk P RR hsz hb2 Q0 Q1 hT
  go_enter Tryd.func17, Tryd.ntmps17
  go_wp2_with fail
  unfold zv at HZ HB HQ0 HQ1 HT
  generalize hW : ((w.alloc (.cells #[.int .i64 0, .int .i64 0, .int .i64 0, .string ⟨#[]⟩] 32)).alloc (.cells #[.int .i64 2, .int .i64 t.n, .int .i64 0, .string ⟨#[]⟩] 32)) = W at *
  have hW2 : ((w.alloc (.cells #[.int .i64 0, .int .i64 0, .int .i64 0, .string ⟨#[]⟩] 32)).alloc (.cells #[.int .i64 2, .int .i64 t.n, .int .i64 0, .string (bs [])] 32)) = W := hW
  simp only [hW2] at HZ HB HQ0 HQ1 HT
  have hT := HT.out
  have hsb : b < W.heap.size := by have := HZ.out; omega
  have hs0 : w.heap.size < W.heap.size := by have := HZ.out; omega
  have hs1 : w.heap.size + 1 < W.heap.size := by have := HZ.out; omega
  clear hW hW2
  go_region_with (first
    | (go_at_call 12; refine (units_k _).mono ?_; rintro e w1 ⟨⟨a1, k1, rfl, hs⟩, hb⟩; have HS := Lib.hid hs; have hT1 := (hb.cell (p := ⟨b, o + 1, none⟩) (by exact hsb)).trans (by exact hT); obtain ⟨r0, r1, r2, r3, f0, f1, f2, f3⟩ := HQ0.out.drew.below hb (by exact hs0); obtain ⟨q0, q1, q2, q3, g0, g1, g2, g3⟩ := HQ1.out.drew.below hb (by exact hs1); have HB1 := Lib.hid hb; clear hb hs)
    | (go_at_call 10; refine (P2.out _ _ _ (by exact HS.out)).mono ?_; rintro e w' ⟨rfl, rfl⟩))
  all_goals
    cases hr : rightV ⟨2, t.n, k, []⟩
    · have RR4 := RR2.out
      rw [hr] at RR4
      have RR3 := Lib.hid RR4
      have HR := Lib.hid hr
      clear RR4 hr RR2
      have X1 := Lib.hid ((HB.out.drew.trans (HB1.out.mono (by exact Nat.le_of_lt hs0))).setCell (p := ⟨w.heap.size + 1, 2, none⟩) (by exact Nat.le_succ _) (.int .i64 k))
      have Z0 := Lib.hid (blk_other (Blk4.mk r0 r1 r2 r3 f0 f1 f2 f3) ⟨w.heap.size + 1, 2, none⟩ (by exact Nat.ne_of_lt (Nat.lt_succ_self _)) (.int .i64 k))
      have Z1 := Lib.hid (blk_set2 (Blk4.mk q0 q1 q2 q3 g0 g1 g2 g3) (.int .i64 k))
      have hw1 : w.heap.size + 1 < w1.heap.size := by have := HB1.out.size; simp at this; omega
      have HW1 := Lib.hid hw1
      clear hw1
      go_wp2_with fail
      refine (RR3.out _).mono ?_
      rintro e w3 ⟨rfl, hb3⟩
      obtain ⟨r0, r1, r2, r3, f0, f1, f2, f3⟩ := Z0.out.below hb3 (by have := HW1.out; simp; omega)
      obtain ⟨q0, q1, q2, q3, _, _, _, _⟩ := Z1.out.below hb3 (by have := HW1.out; simp; omega)
      have hB := Lib.hid (X1.out.trans (hb3.mono X1.out.size))
      have Q := (Blk4.mk r0 r1 r2 r3 f0 f1 f2 f3).put (.int .i64 0) (.int .i64 0) (.int .i64 0) (.string ⟨#[]⟩)
      go_wp2
      exact ret_val rfl rfl Q rfl ⟨rightOr_no HR.out, below_put4 hB.out (Nat.le_refl _) _ _ _ _⟩
    · have RR4 := RR2.out
      rw [hr] at RR4
      have RR3 := Lib.hid RR4
      have HR := Lib.hid hr
      clear RR4 hr RR2
      have X1 := Lib.hid ((HB.out.drew.trans (HB1.out.mono (by exact Nat.le_of_lt hs0))).setCell (p := ⟨w.heap.size + 1, 2, none⟩) (by exact Nat.le_succ _) (.int .i64 k))
      have Z0 := Lib.hid (blk_other (Blk4.mk r0 r1 r2 r3 f0 f1 f2 f3) ⟨w.heap.size + 1, 2, none⟩ (by exact Nat.ne_of_lt (Nat.lt_succ_self _)) (.int .i64 k))
      have Z1 := Lib.hid (blk_set2 (Blk4.mk q0 q1 q2 q3 g0 g1 g2 g3) (.int .i64 k))
      have hw1 : w.heap.size + 1 < w1.heap.size := by have := HB1.out.size; simp at this; omega
      have HW1 := Lib.hid hw1
      clear hw1
      go_wp2_with fail
      refine (RR3.out _).mono ?_
      rintro e w3 ⟨rfl, hb3⟩
      obtain ⟨r0, r1, r2, r3, f0, f1, f2, f3⟩ := Z0.out.below hb3 (by have := HW1.out; simp; omega)
      obtain ⟨q0, q1, q2, q3, _, _, _, _⟩ := Z1.out.below hb3 (by have := HW1.out; simp; omega)
      have hB := Lib.hid (X1.out.trans (hb3.mono X1.out.size))
      have Q := (Blk4.mk r0 r1 r2 r3 f0 f1 f2 f3).put (.int .i64 2) (.int .i64 t.n) (.int .i64 k) (.string ⟨#[]⟩)
      go_wp2
      exact ret_val rfl rfl Q rfl ⟨rightOr_yes HR.out, below_put4 hB.out (Nat.le_refl _) _ _ _ _⟩
set_option maxHeartbeats 1000000 in
theorem rr_word (b o c n : Nat) (t : Tok) (w : World) (hn : 0 < n) (hnc : n ≤ c) (hc : c ≤ 9223372036854775807) (hB : b < w.heap.size) (hk : t.kind = 1) (ht : TokAt w b o t) (hp : 0 < placeL wordsL t.text) :
    Calls Tryd.prog 17 #[.slice (some ⟨b, o, none⟩) n c] w fun e w' => RightOr ⟨1, (placeL wordsL t.text : Nat), 0, []⟩ 1 e ∧ Below w.heap.size w w' := by
  obtain ⟨c0, c1, c2⟩ := ht
  rw [hk] at c0
  have hz : ((n : Int) == 0) = false := by simp; omega
  have P := fun a c ww hv => placew_k a c t.text ww hv
  generalize placeL wordsL t.text = k at *
  have hk0 : ((k : Int) == 0) = false := by simp; omega
  have hb2 := zv_below w ⟨0, t.n, 0, []⟩
  have Q0 := zv_b0 w ⟨0, t.n, 0, []⟩
  have Q1 := zv_b1 w ⟨0, t.n, 0, []⟩
  have hsz := zv_size w ⟨0, t.n, 0, []⟩
  have hT := (hb2.cell (p := ⟨b, o + 1, none⟩) hB).trans c1
  have P2 := Lib.hid P
  have RR := fun ww => refRight_any ⟨1, k, 0, []⟩ ww (by simp)
  unfold valV at RR
  simp only at RR
  have RR2 := Lib.hid RR
  have HZ := Lib.hid hsz
  have HB := Lib.hid hb2
  have HQ0 := Lib.hid Q0
  have HQ1 := Lib.hid Q1
  have HT := Lib.hid hT
  clear hk P RR hsz hb2 Q0 Q1 hT hp
  go_enter Tryd.func17, Tryd.ntmps17
  go_wp2_with fail
  unfold zv at HZ HB HQ0 HQ1 HT
  generalize hW : ((w.alloc (.cells #[.int .i64 0, .int .i64 0, .int .i64 0, .string ⟨#[]⟩] 32)).alloc (.cells #[.int .i64 0, .int .i64 t.n, .int .i64 0, .string ⟨#[]⟩] 32)) = W at *
  have hW2 : ((w.alloc (.cells #[.int .i64 0, .int .i64 0, .int .i64 0, .string ⟨#[]⟩] 32)).alloc (.cells #[.int .i64 0, .int .i64 t.n, .int .i64 0, .string (bs [])] 32)) = W := hW
  simp only [hW2] at HZ HB HQ0 HQ1 HT
  have hT := HT.out
  have hsb : b < W.heap.size := by have := HZ.out; omega
  have hs0 : w.heap.size < W.heap.size := by have := HZ.out; omega
  have hs1 : w.heap.size + 1 < W.heap.size := by have := HZ.out; omega
  clear hW hW2
  go_region_with (first
    | (go_at_call 8; refine (words_k _).mono ?_; rintro e w1 ⟨⟨a1, k1, rfl, hs⟩, hb⟩; have HS := Lib.hid hs; have hT1 := (hb.cell (p := ⟨b, o + 1, none⟩) (by exact hsb)).trans (by exact hT); obtain ⟨r0, r1, r2, r3, f0, f1, f2, f3⟩ := HQ0.out.drew.below hb (by exact hs0); obtain ⟨q0, q1, q2, q3, g0, g1, g2, g3⟩ := HQ1.out.drew.below hb (by exact hs1); have HB1 := Lib.hid hb; clear hb hs)
    | (go_at_call 10; refine (P2.out _ _ _ (by exact HS.out)).mono ?_; rintro e w' ⟨rfl, rfl⟩))
  all_goals
    have hw1 : w.heap.size + 1 < w1.heap.size := by have := HB1.out.size; simp at this; omega
    have HW1 := Lib.hid (show w.heap.size + 1 < ((((w1.setCell ⟨w.heap.size + 1, 0, none⟩ (.int .i64 1)).setCell ⟨w.heap.size + 1, 1, none⟩ (.int .i64 k)).setCell ⟨w.heap.size + 1, 2, none⟩ (.int .i64 0)).setCell ⟨w.heap.size + 1, 3, none⟩ (.string ⟨#[]⟩)).heap.size by simpa using hw1)
    have X0 := HB.out.drew.trans (HB1.out.mono (by exact Nat.le_of_lt hs0))
    have X1 := Lib.hid (below_put4 (g := w.heap.size + 1) X0 (by exact Nat.le_succ _) (.int .i64 1) (.int .i64 k) (.int .i64 0) (.string ⟨#[]⟩))
    have Z1 := (Blk4.mk q0 q1 q2 q3 g0 g1 g2 g3).put (.int .i64 1) (.int .i64 k) (.int .i64 0) (.string ⟨#[]⟩)
    have Z0 := Lib.hid (blk_other4 (Blk4.mk r0 r1 r2 r3 f0 f1 f2 f3) (w.heap.size + 1) (by exact Nat.ne_of_lt (Nat.lt_succ_self _)) (.int .i64 1) (.int .i64 k) (.int .i64 0) (.string ⟨#[]⟩))
    have hTx : ((((w1.setCell ⟨w.heap.size + 1, 0, none⟩ (.int .i64 1)).setCell ⟨w.heap.size + 1, 1, none⟩ (.int .i64 k)).setCell ⟨w.heap.size + 1, 2, none⟩ (.int .i64 0)).setCell ⟨w.heap.size + 1, 3, none⟩ (.string ⟨#[]⟩)).cell? ⟨b, o + 1, none⟩ = some (.string (bs t.text)) := (cell_other4 (w.heap.size + 1) b (o + 1) (by omega) (.int .i64 1) (.int .i64 k) (.int .i64 0) (.string ⟨#[]⟩)).trans hT1
    clear hw1 X0 r0 r1 r2 r3 f0 f1 f2 f3 q0 q1 q2 q3 g0 g1 g2 g3
    generalize hwx : ((((w1.setCell ⟨w.heap.size + 1, 0, none⟩ (.int .i64 1)).setCell ⟨w.heap.size + 1, 1, none⟩ (.int .i64 k)).setCell ⟨w.heap.size + 1, 2, none⟩ (.int .i64 0)).setCell ⟨w.heap.size + 1, 3, none⟩ (.string ⟨#[]⟩)) = wx at *
    clear hwx
    obtain ⟨q0, q1, q2, q3, g0, g1, g2, g3⟩ := Z1
    cases hr : rightV ⟨1, k, 0, []⟩
    · have RR4 := RR2.out
      rw [hr] at RR4
      have RR3 := Lib.hid RR4
      have HR := Lib.hid hr
      clear RR4 hr RR2
      go_wp2_with fail
      have Y0 := Z0
      have Y1 := Lib.hid (Blk4.mk q0 q1 q2 q3 g0 g1 g2 g3)
      have Y2 := X1
      clear q0 q1 q2 q3 g0 g1 g2 g3 Z0 X1
      refine (RR3.out _).mono ?_
      rintro e w3 ⟨rfl, hb3⟩
      obtain ⟨r0, r1, r2, r3, f0, f1, f2, f3⟩ := Y0.out.below hb3 (by have := HW1.out; simp; omega)
      obtain ⟨q0, q1, q2, q3, _, _, _, _⟩ := Y1.out.below hb3 (by have := HW1.out; simp; omega)
      have hB := Lib.hid (Y2.out.trans (hb3.mono Y2.out.size))
      have Q := (Blk4.mk r0 r1 r2 r3 f0 f1 f2 f3).put (.int .i64 0) (.int .i64 0) (.int .i64 0) (.string ⟨#[]⟩)
      clear Y0 Y1 Y2
      go_wp2
      exact ret_val rfl rfl Q rfl ⟨rightOr_no HR.out, below_put4 hB.out (Nat.le_refl _) _ _ _ _⟩
    · have RR4 := RR2.out
      rw [hr] at RR4
      have RR3 := Lib.hid RR4
      have HR := Lib.hid hr
      clear RR4 hr RR2
      go_wp2_with fail
      have Y0 := Z0
      have Y1 := Lib.hid (Blk4.mk q0 q1 q2 q3 g0 g1 g2 g3)
      have Y2 := X1
      clear q0 q1 q2 q3 g0 g1 g2 g3 Z0 X1
      refine (RR3.out _).mono ?_
      rintro e w3 ⟨rfl, hb3⟩
      obtain ⟨r0, r1, r2, r3, f0, f1, f2, f3⟩ := Y0.out.below hb3 (by have := HW1.out; simp; omega)
      obtain ⟨q0, q1, q2, q3, _, _, _, _⟩ := Y1.out.below hb3 (by have := HW1.out; simp; omega)
      have hB := Lib.hid (Y2.out.trans (hb3.mono Y2.out.size))
      have Q := (Blk4.mk r0 r1 r2 r3 f0 f1 f2 f3).put (.int .i64 1) (.int .i64 k) (.int .i64 0) (.string ⟨#[]⟩)
      clear Y0 Y1 Y2
      go_wp2
      exact ret_val rfl rfl Q rfl ⟨rightOr_yes HR.out, below_put4 hB.out (Nat.le_refl _) _ _ _ _⟩
set_option maxHeartbeats 1000000 in
theorem rr_name (b o c n : Nat) (t : Tok) (w : World) (hn : 0 < n) (hnc : n ≤ c) (hc : c ≤ 9223372036854775807) (hB : b < w.heap.size) (hk : t.kind = 1) (ht : TokAt w b o t) (hp : placeL wordsL t.text = 0) (htl : t.text.length ≤ 9223372036854775807) :
    Calls Tryd.prog 17 #[.slice (some ⟨b, o, none⟩) n c] w fun e w' => RightOr ⟨6, 0, 0, t.text⟩ 1 e ∧ Below w.heap.size w w' := by
  obtain ⟨c0, c1, c2⟩ := ht
  rw [hk] at c0
  have hz : ((n : Int) == 0) = false := by simp; omega
  have P := fun a c ww hv => placew_k a c t.text ww hv
  rw [hp, show ((0 : Nat) : Int) = 0 from rfl] at P
  have hb2 := zv_below w ⟨0, t.n, 0, []⟩
  have Q0 := zv_b0 w ⟨0, t.n, 0, []⟩
  have Q1 := zv_b1 w ⟨0, t.n, 0, []⟩
  have hsz := zv_size w ⟨0, t.n, 0, []⟩
  have hT := (hb2.cell (p := ⟨b, o + 1, none⟩) hB).trans c1
  have P2 := Lib.hid P
  have RR := fun ww => refRight_any ⟨6, 0, 0, t.text⟩ ww (by exact htl)
  unfold valV at RR
  simp only at RR
  have RR2 := Lib.hid RR
  have HZ := Lib.hid hsz
  have HB := Lib.hid hb2
  have HQ0 := Lib.hid Q0
  have HQ1 := Lib.hid Q1
  have HT := Lib.hid hT
  clear hk P RR hsz hb2 Q0 Q1 hT hp
  go_enter Tryd.func17, Tryd.ntmps17
  go_wp2_with fail
  unfold zv at HZ HB HQ0 HQ1 HT
  generalize hW : ((w.alloc (.cells #[.int .i64 0, .int .i64 0, .int .i64 0, .string ⟨#[]⟩] 32)).alloc (.cells #[.int .i64 0, .int .i64 t.n, .int .i64 0, .string ⟨#[]⟩] 32)) = W at *
  have hW2 : ((w.alloc (.cells #[.int .i64 0, .int .i64 0, .int .i64 0, .string ⟨#[]⟩] 32)).alloc (.cells #[.int .i64 0, .int .i64 t.n, .int .i64 0, .string (bs [])] 32)) = W := hW
  simp only [hW2] at HZ HB HQ0 HQ1 HT
  have hT := HT.out
  have hsb : b < W.heap.size := by have := HZ.out; omega
  have hs0 : w.heap.size < W.heap.size := by have := HZ.out; omega
  have hs1 : w.heap.size + 1 < W.heap.size := by have := HZ.out; omega
  clear hW hW2
  go_region_with (first
    | (go_at_call 8; refine (words_k _).mono ?_; rintro e w1 ⟨⟨a1, k1, rfl, hs⟩, hb⟩; have HS := Lib.hid hs; have hT1 := (hb.cell (p := ⟨b, o + 1, none⟩) (by exact hsb)).trans (by exact hT); obtain ⟨r0, r1, r2, r3, f0, f1, f2, f3⟩ := HQ0.out.drew.below hb (by exact hs0); obtain ⟨q0, q1, q2, q3, g0, g1, g2, g3⟩ := HQ1.out.drew.below hb (by exact hs1); have HB1 := Lib.hid hb; clear hb hs)
    | (go_at_call 10; refine (P2.out _ _ _ (by exact HS.out)).mono ?_; rintro e w' ⟨rfl, rfl⟩))
  all_goals
    have hw1 : w.heap.size + 1 < w1.heap.size := by have := HB1.out.size; simp at this; omega
    have HW1 := Lib.hid (show w.heap.size + 1 < ((((w1.setCell ⟨w.heap.size + 1, 0, none⟩ (.int .i64 1)).setCell ⟨w.heap.size + 1, 1, none⟩ (.int .i64 0)).setCell ⟨w.heap.size + 1, 2, none⟩ (.int .i64 0)).setCell ⟨w.heap.size + 1, 3, none⟩ (.string ⟨#[]⟩)).heap.size by simpa using hw1)
    have X0 := HB.out.drew.trans (HB1.out.mono (by exact Nat.le_of_lt hs0))
    have X1 := Lib.hid (below_put4 (g := w.heap.size + 1) X0 (by exact Nat.le_succ _) (.int .i64 1) (.int .i64 0) (.int .i64 0) (.string ⟨#[]⟩))
    have Z1 := (Blk4.mk q0 q1 q2 q3 g0 g1 g2 g3).put (.int .i64 1) (.int .i64 0) (.int .i64 0) (.string ⟨#[]⟩)
    have Z0 := Lib.hid (blk_other4 (Blk4.mk r0 r1 r2 r3 f0 f1 f2 f3) (w.heap.size + 1) (by exact Nat.ne_of_lt (Nat.lt_succ_self _)) (.int .i64 1) (.int .i64 0) (.int .i64 0) (.string ⟨#[]⟩))
    have hTx : ((((w1.setCell ⟨w.heap.size + 1, 0, none⟩ (.int .i64 1)).setCell ⟨w.heap.size + 1, 1, none⟩ (.int .i64 0)).setCell ⟨w.heap.size + 1, 2, none⟩ (.int .i64 0)).setCell ⟨w.heap.size + 1, 3, none⟩ (.string ⟨#[]⟩)).cell? ⟨b, o + 1, none⟩ = some (.string (bs t.text)) := (cell_other4 (w.heap.size + 1) b (o + 1) (by omega) (.int .i64 1) (.int .i64 0) (.int .i64 0) (.string ⟨#[]⟩)).trans hT1
    clear hw1 X0 r0 r1 r2 r3 f0 f1 f2 f3 q0 q1 q2 q3 g0 g1 g2 g3
    generalize hwx : ((((w1.setCell ⟨w.heap.size + 1, 0, none⟩ (.int .i64 1)).setCell ⟨w.heap.size + 1, 1, none⟩ (.int .i64 0)).setCell ⟨w.heap.size + 1, 2, none⟩ (.int .i64 0)).setCell ⟨w.heap.size + 1, 3, none⟩ (.string ⟨#[]⟩)) = wx at *
    clear hwx
    obtain ⟨q0, q1, q2, q3, g0, g1, g2, g3⟩ := Z1
    cases hr : rightV ⟨6, 0, 0, t.text⟩
    · have RR4 := RR2.out
      rw [hr] at RR4
      have RR3 := Lib.hid RR4
      have HR := Lib.hid hr
      clear RR4 hr RR2
      go_wp2_with fail
      have Y0 := Lib.hid (blk_other4 Z0.out (w.heap.size + 1) (by exact Nat.ne_of_lt (Nat.lt_succ_self _)) (.int .i64 6) (.int .i64 0) (.int .i64 0) (.string (bs t.text)))
      have Y1 := Lib.hid ((Blk4.mk q0 q1 q2 q3 g0 g1 g2 g3).put (.int .i64 6) (.int .i64 0) (.int .i64 0) (.string (bs t.text)))
      have Y2 := Lib.hid (below_put4 (g := w.heap.size + 1) X1.out (by exact Nat.le_succ _) (.int .i64 6) (.int .i64 0) (.int .i64 0) (.string (bs t.text)))
      clear q0 q1 q2 q3 g0 g1 g2 g3 Z0 X1
      refine (RR3.out _).mono ?_
      rintro e w3 ⟨rfl, hb3⟩
      obtain ⟨r0, r1, r2, r3, f0, f1, f2, f3⟩ := Y0.out.below hb3 (by have := HW1.out; simp; omega)
      obtain ⟨q0, q1, q2, q3, _, _, _, _⟩ := Y1.out.below hb3 (by have := HW1.out; simp; omega)
      have hB := Lib.hid (Y2.out.trans (hb3.mono Y2.out.size))
      have Q := (Blk4.mk r0 r1 r2 r3 f0 f1 f2 f3).put (.int .i64 0) (.int .i64 0) (.int .i64 0) (.string ⟨#[]⟩)
      clear Y0 Y1 Y2
      go_wp2
      exact ret_val rfl rfl Q rfl ⟨rightOr_no HR.out, below_put4 hB.out (Nat.le_refl _) _ _ _ _⟩
    · have RR4 := RR2.out
      rw [hr] at RR4
      have RR3 := Lib.hid RR4
      have HR := Lib.hid hr
      clear RR4 hr RR2
      go_wp2_with fail
      have Y0 := Lib.hid (blk_other4 Z0.out (w.heap.size + 1) (by exact Nat.ne_of_lt (Nat.lt_succ_self _)) (.int .i64 6) (.int .i64 0) (.int .i64 0) (.string (bs t.text)))
      have Y1 := Lib.hid ((Blk4.mk q0 q1 q2 q3 g0 g1 g2 g3).put (.int .i64 6) (.int .i64 0) (.int .i64 0) (.string (bs t.text)))
      have Y2 := Lib.hid (below_put4 (g := w.heap.size + 1) X1.out (by exact Nat.le_succ _) (.int .i64 6) (.int .i64 0) (.int .i64 0) (.string (bs t.text)))
      clear q0 q1 q2 q3 g0 g1 g2 g3 Z0 X1
      refine (RR3.out _).mono ?_
      rintro e w3 ⟨rfl, hb3⟩
      obtain ⟨r0, r1, r2, r3, f0, f1, f2, f3⟩ := Y0.out.below hb3 (by have := HW1.out; simp; omega)
      obtain ⟨q0, q1, q2, q3, _, _, _, _⟩ := Y1.out.below hb3 (by have := HW1.out; simp; omega)
      have hB := Lib.hid (Y2.out.trans (hb3.mono Y2.out.size))
      have Q := (Blk4.mk r0 r1 r2 r3 f0 f1 f2 f3).put (.int .i64 6) (.int .i64 0) (.int .i64 0) (.string (bs t.text))
      clear Y0 Y1 Y2
      go_wp2
      exact ret_val rfl rfl Q rfl ⟨rightOr_yes HR.out, below_put4 hB.out (Nat.le_refl _) _ _ _ _⟩
end Go.Proofs.YthlkgkjkjpboiaaDoor
