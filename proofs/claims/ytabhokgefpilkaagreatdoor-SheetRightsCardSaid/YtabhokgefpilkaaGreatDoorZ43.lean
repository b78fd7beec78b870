/-
  The law SheetRights, walked (printed by gen_rgtn.py).
-/
import Derived.Test.YtabhokgefpilkaaGreatDoorZ1
import Derived.Test.YtabhokgefpilkaaGreatDoorZ28
import Derived.Test.YtabhokgefpilkaaGreatDoorZ42
set_option linter.all false
namespace Go.Proofs.YtabhokgefpilkaaGreatDoor
open Go.RowKit Wsc
theorem rule_at {w0 ww : World} (hb : Below w0.heap.size w0 ww) {g : Nat} {cs : List Value} {x : RuleM} (hx : RulR w0 cs x) (hg : BlkL ww g cs) : SlAt ww (.slice (some ⟨g, 0, none⟩) 1 1) 1 cs ∧ ElsIn (RulR ww) 4 cs [x] := by
  have hl : cs.length = 4 := by obtain ⟨_, _, _, _, _, _, _, _, rfl, _⟩ := hx; rfl
  refine ⟨⟨some ⟨g, 0, none⟩, 1, rfl, Nat.le_refl _, by decide, Or.inr ⟨g, 0, rfl, hg.lt, fun i v h => ?_⟩⟩, cs, [], by simp, hl, hx.below hb, rfl⟩
  rw [Nat.zero_add]; exact hg.c i v h
theorem sheetSame_one {w0 ww : World} (hb : Below w0.heap.size w0 ww) {g1 g2 : Nat} {cs ds : List Value} {x y : RuleM} (hx : RulR w0 cs x) (hy : RulR w0 ds y) (h1 : BlkL ww g1 cs) (h2 : BlkL ww g2 ds) :
    Calls Tryz.prog 9 #[.slice (some ⟨g1, 0, none⟩) 1 1, .slice (some ⟨g2, 0, none⟩) 1 1] ww fun e w' => e = .returned (.bool (rulB x y)) ∧ Below ww.heap.size ww w' := by
  obtain ⟨s1, e1⟩ := rule_at hb hx h1
  obtain ⟨s2, e2⟩ := rule_at hb hy h2
  rw [← one_rule]
  exact sheetSame_any ww _ _ 1 1 1 1 _ _ [x] [y] rfl rfl s1 s2 e1 e2
theorem refRules_one {w0 ww : World} (hb : Below w0.heap.size w0 ww) {g1 g2 : Nat} {cs ds : List Value} {x y : RuleM} (hx : RulR w0 cs x) (hy : RulR w0 ds y) (h1 : BlkL ww g1 cs) (h2 : BlkL ww g2 ds) :
    Calls Tryz.prog 8 #[.slice (some ⟨g1, 0, none⟩) 1 1, .slice (some ⟨g2, 0, none⟩) 1 1] ww fun e w' => e = .returned (.bool (rulB x y)) ∧ Below ww.heap.size ww w' := by
  obtain ⟨s1, e1⟩ := rule_at hb hx h1
  obtain ⟨s2, e2⟩ := rule_at hb hy h2
  rw [← one_rule]
  exact refRules_any ww _ _ 1 1 1 1 _ _ [x] [y] rfl rfl s1 s2 e1 e2
set_option maxRecDepth 100000 in
set_option maxHeartbeats 4000000 in
theorem sheetRights_walk (cs : List Value) (x : RuleM) (ds : List Value) (y : RuleM) (w : World) (hg : Gl w) (hx : RulR w cs x) (hy : RulR w ds y) :
    Calls Tryz.prog 4 #[.agg cs.toArray, .agg ds.toArray] w fun e w' => e = .returned (.bool true) ∧ Below w.heap.size w w' := by
  have P1 := Lib.hid (fun ww (hb : Below w.heap.size w ww) => sheetRight_any w ww hg hb cs x hx)
  have P2 := Lib.hid (fun ww (hb : Below w.heap.size w ww) => refRule_any w ww hb cs x hx)
  have P3 := Lib.hid (fun (g1 g2 : Nat) ww (hb : Below w.heap.size w ww) (h1 : BlkL ww g1 cs) (h2 : BlkL ww g2 ds) => refRules_one hb hx hy h1 h2)
  have P4 := Lib.hid (fun (g1 g2 : Nat) ww (hb : Below w.heap.size w ww) (h1 : BlkL ww g1 cs) (h2 : BlkL ww g2 ds) => sheetSame_one hb hx hy h1 h2)
  have P5 := fun (g1 g2 : Nat) ww (hb : Below w.heap.size w ww) (h1 : BlkL ww g1 cs) (h2 : BlkL ww g2 cs) => sheetSame_one hb hx hx h1 h2
  rw [rulB_refl] at P5
  have P5 := Lib.hid P5
  have P6 := Lib.hid (fun ww (hb : Below w.heap.size w ww) => law12known ww (hg.below hb))
  obtain ⟨x0, a, b, d, f, j, k, l, m, n, rfl⟩ := rul_shape w cs x hx
  obtain ⟨y0, o, p, q, r, s, t, u, z, A, rfl⟩ := rul_shape w ds y hy
  generalize rightR x = rx at *
  generalize rulB x y = rs at *
  clear hx hy
  have hA := ((Below.refl w.heap.size w).alloc (Nat.le_refl _) (.cells #[.int .i64 x0, .slice a b d, .slice f j k, .slice l m n] 33)).alloc (by simp) (.cells #[.int .i64 y0, .slice o p q, .slice r s t, .slice u z A] 33)
  have HX0 := Lib.hid ((BlkL.new w 33 [.int .i64 x0, .slice a b d, .slice f j k, .slice l m n]).low ((Below.refl _ _).alloc (Nat.le_refl _) (.cells #[.int .i64 y0, .slice o p q, .slice r s t, .slice u z A] 33)))
  have hx1 := BlkL.new (w.alloc (.cells #[.int .i64 x0, .slice a b d, .slice f j k, .slice l m n] 33)) 33 [.int .i64 y0, .slice o p q, .slice r s t, .slice u z A]
  rw [World.size_alloc] at hx1
  have HX1 := Lib.hid hx1
  have HA := Lib.hid hA
  have HZ := Lib.hid (show ((w.alloc (.cells #[.int .i64 x0, .slice a b d, .slice f j k, .slice l m n] 33)).alloc (.cells #[.int .i64 y0, .slice o p q, .slice r s t, .slice u z A] 33)).heap.size = w.heap.size + 2 by simp)
  clear hx1 hA
  go_enter Tryz.func4, Tryz.ntmps4
  go_upto_region 1 with fail
  generalize (w.alloc (.cells #[.int .i64 x0, .slice a b d, .slice f j k, .slice l m n] 33)).alloc (.cells #[.int .i64 y0, .slice o p q, .slice r s t, .slice u z A] 33) = W at *
  have q0 := HX0.out.c 0 _ rfl
  have q1 := HX0.out.c 1 _ rfl
  have q2 := HX0.out.c 2 _ rfl
  have q3 := HX0.out.c 3 _ rfl
  have r0 := HX1.out.c 0 _ rfl
  have r1 := HX1.out.c 1 _ rfl
  have r2 := HX1.out.c 2 _ rfl
  have r3 := HX1.out.c 3 _ rfl
  have gx := HX0.out.lt
  have gy := HX1.out.lt
  have HB2 := Lib.hid ((HA.out.alloc HA.out.size (.cells #[.int .i64 x0, .slice a b d, .slice f j k, .slice l m n] 33)).alloc (by have := HA.out.size; simp; omega) (.cells #[.int .i64 y0, .slice o p q, .slice r s t, .slice u z A] 33))
  have HBW := Lib.hid (((Below.refl W.heap.size W).alloc (Nat.le_refl _) (.cells #[.int .i64 x0, .slice a b d, .slice f j k, .slice l m n] 33)).alloc (by simp) (.cells #[.int .i64 y0, .slice o p q, .slice r s t, .slice u z A] 33))
  have HY0 := Lib.hid ((BlkL.new W 33 [.int .i64 x0, .slice a b d, .slice f j k, .slice l m n]).low ((Below.refl _ _).alloc (Nat.le_refl _) (.cells #[.int .i64 y0, .slice o p q, .slice r s t, .slice u z A] 33)))
  have hy1 := BlkL.new (W.alloc (.cells #[.int .i64 x0, .slice a b d, .slice f j k, .slice l m n] 33)) 33 [.int .i64 y0, .slice o p q, .slice r s t, .slice u z A]
  rw [World.size_alloc] at hy1
  have HY1 := Lib.hid hy1
  clear hy1
  go_wp2_with (first | (go_at_call 9; refine (P4.out _ _ _ HB2.out HY0.out HY1.out).mono ?_; rintro e w5 ⟨rfl, hb5⟩; have HB5 := Lib.hid (HB2.out.trans (hb5.mono HB2.out.size)); have HW5 := Lib.hid (HBW.out.trans (hb5.mono HBW.out.size)); clear hb5) | fail)
  have HX05 := HX0.out.low HW5.out
  have HX15 := HX1.out.low HW5.out
  clear q0 q1 q2 q3 r0 r1 r2 r3 gx gy HY0 HY1 HB2 HBW
  refine wp_region_held_drew (S := (fun w' => BlkL w' w.heap.size [.int .i64 x0, .slice a b d, .slice f j k, .slice l m n] ∧ BlkL w' (w.heap.size + 1) [.int .i64 y0, .slice o p q, .slice r s t, .slice u z A] ∧ Below w.heap.size w w')) (by kernel_rfl) (⟨HX05.drew, HX15.drew, HB5.out.drew⟩) (fun hH1 => ?_)
  refine tkm 0 (.agg #[.int .i64 x0, .slice a b d, .slice f j k, .slice l m n]) rfl hH1 ?_ (hv := by rintro ww ⟨hA, hB, hb⟩; have c0 := hA.c 0 _ rfl; have c1 := hA.c 1 _ rfl; have c2 := hA.c 2 _ rfl; have c3 := hA.c 3 _ rfl; go_simp)
  refine tkm 2 (.agg #[.int .i64 x0, .slice a b d, .slice f j k, .slice l m n]) rfl hH1 ?_ (hv := by rintro ww ⟨hA, hB, hb⟩; have c0 := hA.c 0 _ rfl; have c1 := hA.c 1 _ rfl; have c2 := hA.c 2 _ rfl; have c3 := hA.c 3 _ rfl; go_simp)
  try simp only [Act.put, zA, zB, zC, zD, zE, zF]
  refine rd1 1 rfl (fun KQ hK => ?_)
  go_simp
  refine (P1.out _ hH1.2.2).mono ?_
  rintro e z2 ⟨rfl, hb2⟩
  go_wp2_with fail
  refine hK.out _ _ (⟨hH1.1.low hb2, hH1.2.1.low hb2, hH1.2.2.trans (hb2.mono hH1.2.2.size)⟩) (fun hH2 => ?_)
  clear hK KQ
  try simp only [Act.put, zA, zB, zC, zD, zE, zF]
  refine rd1 3 rfl (fun KQ hK => ?_)
  go_simp
  refine (P2.out _ hH2.2.2).mono ?_
  rintro e z3 ⟨rfl, hb3⟩
  go_wp2_with fail
  refine hK.out _ _ (⟨hH2.1.low hb3, hH2.2.1.low hb3, hH2.2.2.trans (hb3.mono hH2.2.2.size)⟩) (fun hH3 => ?_)
  clear hK KQ
  refine tkm 4 (.bool true) rfl hH3 ?_
  refine tkm 5 (.bool true) rfl hH3 ?_ (hv := fun _ _ => by rfl)
  refine tkm 6 (.bool rs) rfl hH3 ?_ (hv := fun _ _ => by rfl)
  refine tkm 7 (.agg #[.int .i64 x0, .slice a b d, .slice f j k, .slice l m n]) rfl hH3 ?_ (hv := by rintro ww ⟨hA, hB, hb⟩; have c0 := hA.c 0 _ rfl; have c1 := hA.c 1 _ rfl; have c2 := hA.c 2 _ rfl; have c3 := hA.c 3 _ rfl; go_simp)
  refine tkm 9 (.agg #[.int .i64 y0, .slice o p q, .slice r s t, .slice u z A]) rfl hH3 ?_ (hv := by rintro ww ⟨hA, hB, hb⟩; have c0 := hB.c 0 _ rfl; have c1 := hB.c 1 _ rfl; have c2 := hB.c 2 _ rfl; have c3 := hB.c 3 _ rfl; go_simp)
  try simp only [Act.put, zA, zB, zC, zD, zE, zF]
  refine wpAnyH_ready (rs := [8, 10]) (by kernel_rfl) (by simp) ?_
  refine AllReadyH.cons rfl (fun KQ hK => ?_) ?_
  · skip
    go_simp
    have hb4 := (Below.refl z3.heap.size z3).alloc (Nat.le_refl _) (.cells #[.int .i64 x0, .slice a b d, .slice f j k, .slice l m n] 33)
    have hx4 := BlkL.new z3 33 [.int .i64 x0, .slice a b d, .slice f j k, .slice l m n]
    generalize z3.alloc (.cells #[.int .i64 x0, .slice a b d, .slice f j k, .slice l m n] 33) = z4 at hb4 hx4 ⊢
    refine hK.out _ _ (⟨hH3.1.low hb4, hH3.2.1.low hb4, hH3.2.2.trans (hb4.mono hH3.2.2.size)⟩) (fun hH4 => ?_)
    clear hK KQ
    try simp only [Act.put, zA, zB, zC, zD, zE, zF]
    refine rd1 10 rfl (fun KQ hK => ?_)
    go_simp
    have hb5 := (Below.refl z4.heap.size z4).alloc (Nat.le_refl _) (.cells #[.int .i64 y0, .slice o p q, .slice r s t, .slice u z A] 33)
    have hx5 := BlkL.new z4 33 [.int .i64 y0, .slice o p q, .slice r s t, .slice u z A]
    have hx4_5 := hx4.low hb5
    generalize z4.alloc (.cells #[.int .i64 y0, .slice o p q, .slice r s t, .slice u z A] 33) = z5 at hb5 hx5 hx4_5 ⊢
    refine hK.out _ _ (⟨hH4.1.low hb5, hH4.2.1.low hb5, hH4.2.2.trans (hb5.mono hH4.2.2.size)⟩) (fun hH5 => ?_)
    clear hK KQ
    try simp only [Act.put, zA, zB, zC, zD, zE, zF]
    refine rd1 11 rfl (fun KQ hK => ?_)
    go_simp
    refine (P3.out _ _ _ hH5.2.2 hx4_5 hx5).mono ?_
    rintro e z6 ⟨rfl, hb6⟩
    go_wp2_with fail
    refine hK.out _ _ (⟨hH5.1.low hb6, hH5.2.1.low hb6, hH5.2.2.trans (hb6.mono hH5.2.2.size)⟩) (fun hH6 => ?_)
    clear hK KQ
    refine tkm 12 (.bool true) rfl hH6 ?_
    refine tkm 13 (.bool true) rfl hH6 ?_
    refine tkm 14 (.bool true) rfl hH6 ?_ (hv := fun _ _ => by rfl)
    refine tkm 15 (.agg #[.int .i64 x0, .slice a b d, .slice f j k, .slice l m n]) rfl hH6 ?_ (hv := by rintro ww ⟨hA, hB, hb⟩; have c0 := hA.c 0 _ rfl; have c1 := hA.c 1 _ rfl; have c2 := hA.c 2 _ rfl; have c3 := hA.c 3 _ rfl; go_simp)
    refine tkm 17 (.agg #[.int .i64 x0, .slice a b d, .slice f j k, .slice l m n]) rfl hH6 ?_ (hv := by rintro ww ⟨hA, hB, hb⟩; have c0 := hA.c 0 _ rfl; have c1 := hA.c 1 _ rfl; have c2 := hA.c 2 _ rfl; have c3 := hA.c 3 _ rfl; go_simp)
    try simp only [Act.put, zA, zB, zC, zD, zE, zF]
    refine wpAnyH_ready (rs := [16, 18]) (by kernel_rfl) (by simp) ?_
    refine AllReadyH.cons rfl (fun KQ hK => ?_) ?_
    · skip
      go_simp
      have hb7 := (Below.refl z6.heap.size z6).alloc (Nat.le_refl _) (.cells #[.int .i64 x0, .slice a b d, .slice f j k, .slice l m n] 33)
      have hx7 := BlkL.new z6 33 [.int .i64 x0, .slice a b d, .slice f j k, .slice l m n]
      generalize z6.alloc (.cells #[.int .i64 x0, .slice a b d, .slice f j k, .slice l m n] 33) = z7 at hb7 hx7 ⊢
      refine hK.out _ _ (⟨hH6.1.low hb7, hH6.2.1.low hb7, hH6.2.2.trans (hb7.mono hH6.2.2.size)⟩) (fun hH7 => ?_)
      clear hK KQ
      try simp only [Act.put, zA, zB, zC, zD, zE, zF]
      refine rd1 18 rfl (fun KQ hK => ?_)
      go_simp
      have hb8 := (Below.refl z7.heap.size z7).alloc (Nat.le_refl _) (.cells #[.int .i64 x0, .slice a b d, .slice f j k, .slice l m n] 33)
      have hx8 := BlkL.new z7 33 [.int .i64 x0, .slice a b d, .slice f j k, .slice l m n]
      have hx7_8 := hx7.low hb8
      generalize z7.alloc (.cells #[.int .i64 x0, .slice a b d, .slice f j k, .slice l m n] 33) = z8 at hb8 hx8 hx7_8 ⊢
      refine hK.out _ _ (⟨hH7.1.low hb8, hH7.2.1.low hb8, hH7.2.2.trans (hb8.mono hH7.2.2.size)⟩) (fun hH8 => ?_)
      clear hK KQ
      try simp only [Act.put, zA, zB, zC, zD, zE, zF]
      refine rd1 19 rfl (fun KQ hK => ?_)
      go_simp
      refine (P5.out _ _ _ hH8.2.2 hx7_8 hx8).mono ?_
      rintro e z9 ⟨rfl, hb9⟩
      go_wp2_with fail
      refine hK.out _ _ (⟨hH8.1.low hb9, hH8.2.1.low hb9, hH8.2.2.trans (hb9.mono hH8.2.2.size)⟩) (fun hH9 => ?_)
      clear hK KQ
      refine tkm 20 (.bool true) rfl hH9 ?_
      refine tkm 21 (.bool true) rfl hH9 ?_ (hv := fun _ _ => by rfl)
      try simp only [Act.put, zA, zB, zC, zD, zE, zF]
      refine rd1 22 rfl (fun KQ hK => ?_)
      go_simp
      refine (P6.out _ hH9.2.2).mono ?_
      rintro e z10 ⟨rfl, hb10⟩
      go_wp2_with fail
      refine hK.out _ _ (⟨hH9.1.low hb10, hH9.2.1.low hb10, hH9.2.2.trans (hb10.mono hH9.2.2.size)⟩) (fun hH10 => ?_)
      clear hK KQ
      refine tkm 23 (.bool true) rfl hH10 ?_
      refine tkm 24 (.bool true) rfl hH10 ?_ (hv := fun _ _ => by rfl)
      try simp only [Act.put, zA, zB, zC, zD, zE, zF]
      refine wpAnyH_done (by kernel_rfl) ?_ _
      go_wp2_with fail
      go_ret
      exact ⟨rfl, hH10.2.2⟩
    refine AllReadyH.cons rfl (fun KQ hK => ?_) ?_
    · skip
      go_simp
      have hb11 := (Below.refl z6.heap.size z6).alloc (Nat.le_refl _) (.cells #[.int .i64 x0, .slice a b d, .slice f j k, .slice l m n] 33)
      have hx11 := BlkL.new z6 33 [.int .i64 x0, .slice a b d, .slice f j k, .slice l m n]
      generalize z6.alloc (.cells #[.int .i64 x0, .slice a b d, .slice f j k, .slice l m n] 33) = z11 at hb11 hx11 ⊢
      refine hK.out _ _ (⟨hH6.1.low hb11, hH6.2.1.low hb11, hH6.2.2.trans (hb11.mono hH6.2.2.size)⟩) (fun hH11 => ?_)
      clear hK KQ
      try simp only [Act.put, zA, zB, zC, zD, zE, zF]
      refine rd1 16 rfl (fun KQ hK => ?_)
      go_simp
      have hb12 := (Below.refl z11.heap.size z11).alloc (Nat.le_refl _) (.cells #[.int .i64 x0, .slice a b d, .slice f j k, .slice l m n] 33)
      have hx12 := BlkL.new z11 33 [.int .i64 x0, .slice a b d, .slice f j k, .slice l m n]
      have hx11_12 := hx11.low hb12
      generalize z11.alloc (.cells #[.int .i64 x0, .slice a b d, .slice f j k, .slice l m n] 33) = z12 at hb12 hx12 hx11_12 ⊢
      refine hK.out _ _ (⟨hH11.1.low hb12, hH11.2.1.low hb12, hH11.2.2.trans (hb12.mono hH11.2.2.size)⟩) (fun hH12 => ?_)
      clear hK KQ
      try simp only [Act.put, zA, zB, zC, zD, zE, zF]
      refine rd1 19 rfl (fun KQ hK => ?_)
      go_simp
      refine (P5.out _ _ _ hH12.2.2 hx12 hx11_12).mono ?_
      rintro e z13 ⟨rfl, hb13⟩
      go_wp2_with fail
      refine hK.out _ _ (⟨hH12.1.low hb13, hH12.2.1.low hb13, hH12.2.2.trans (hb13.mono hH12.2.2.size)⟩) (fun hH13 => ?_)
      clear hK KQ
      refine tkm 20 (.bool true) rfl hH13 ?_
      refine tkm 21 (.bool true) rfl hH13 ?_ (hv := fun _ _ => by rfl)
      try simp only [Act.put, zA, zB, zC, zD, zE, zF]
      refine rd1 22 rfl (fun KQ hK => ?_)
      go_simp
      refine (P6.out _ hH13.2.2).mono ?_
      rintro e z14 ⟨rfl, hb14⟩
      go_wp2_with fail
      refine hK.out _ _ (⟨hH13.1.low hb14, hH13.2.1.low hb14, hH13.2.2.trans (hb14.mono hH13.2.2.size)⟩) (fun hH14 => ?_)
      clear hK KQ
      refine tkm 23 (.bool true) rfl hH14 ?_
      refine tkm 24 (.bool true) rfl hH14 ?_ (hv := fun _ _ => by rfl)
      try simp only [Act.put, zA, zB, zC, zD, zE, zF]
      refine wpAnyH_done (by kernel_rfl) ?_ _
      go_wp2_with fail
      go_ret
      exact ⟨rfl, hH14.2.2⟩
    exact AllReadyH.nil
  refine AllReadyH.cons rfl (fun KQ hK => ?_) ?_
  · skip
    go_simp
    have hb15 := (Below.refl z3.heap.size z3).alloc (Nat.le_refl _) (.cells #[.int .i64 y0, .slice o p q, .slice r s t, .slice u z A] 33)
    have hx15 := BlkL.new z3 33 [.int .i64 y0, .slice o p q, .slice r s t, .slice u z A]
    generalize z3.alloc (.cells #[.int .i64 y0, .slice o p q, .slice r s t, .slice u z A] 33) = z15 at hb15 hx15 ⊢
    refine hK.out _ _ (⟨hH3.1.low hb15, hH3.2.1.low hb15, hH3.2.2.trans (hb15.mono hH3.2.2.size)⟩) (fun hH15 => ?_)
    clear hK KQ
    try simp only [Act.put, zA, zB, zC, zD, zE, zF]
    refine rd1 8 rfl (fun KQ hK => ?_)
    go_simp
    have hb16 := (Below.refl z15.heap.size z15).alloc (Nat.le_refl _) (.cells #[.int .i64 x0, .slice a b d, .slice f j k, .slice l m n] 33)
    have hx16 := BlkL.new z15 33 [.int .i64 x0, .slice a b d, .slice f j k, .slice l m n]
    have hx15_16 := hx15.low hb16
    generalize z15.alloc (.cells #[.int .i64 x0, .slice a b d, .slice f j k, .slice l m n] 33) = z16 at hb16 hx16 hx15_16 ⊢
    refine hK.out _ _ (⟨hH15.1.low hb16, hH15.2.1.low hb16, hH15.2.2.trans (hb16.mono hH15.2.2.size)⟩) (fun hH16 => ?_)
    clear hK KQ
    try simp only [Act.put, zA, zB, zC, zD, zE, zF]
    refine rd1 11 rfl (fun KQ hK => ?_)
    go_simp
    refine (P3.out _ _ _ hH16.2.2 hx16 hx15_16).mono ?_
    rintro e z17 ⟨rfl, hb17⟩
    go_wp2_with fail
    refine hK.out _ _ (⟨hH16.1.low hb17, hH16.2.1.low hb17, hH16.2.2.trans (hb17.mono hH16.2.2.size)⟩) (fun hH17 => ?_)
    clear hK KQ
    refine tkm 12 (.bool true) rfl hH17 ?_
    refine tkm 13 (.bool true) rfl hH17 ?_
    refine tkm 14 (.bool true) rfl hH17 ?_ (hv := fun _ _ => by rfl)
    refine tkm 15 (.agg #[.int .i64 x0, .slice a b d, .slice f j k, .slice l m n]) rfl hH17 ?_ (hv := by rintro ww ⟨hA, hB, hb⟩; have c0 := hA.c 0 _ rfl; have c1 := hA.c 1 _ rfl; have c2 := hA.c 2 _ rfl; have c3 := hA.c 3 _ rfl; go_simp)
    refine tkm 17 (.agg #[.int .i64 x0, .slice a b d, .slice f j k, .slice l m n]) rfl hH17 ?_ (hv := by rintro ww ⟨hA, hB, hb⟩; have c0 := hA.c 0 _ rfl; have c1 := hA.c 1 _ rfl; have c2 := hA.c 2 _ rfl; have c3 := hA.c 3 _ rfl; go_simp)
    try simp only [Act.put, zA, zB, zC, zD, zE, zF]
    refine wpAnyH_ready (rs := [16, 18]) (by kernel_rfl) (by simp) ?_
    refine AllReadyH.cons rfl (fun KQ hK => ?_) ?_
    · skip
      go_simp
      have hb18 := (Below.refl z17.heap.size z17).alloc (Nat.le_refl _) (.cells #[.int .i64 x0, .slice a b d, .slice f j k, .slice l m n] 33)
      have hx18 := BlkL.new z17 33 [.int .i64 x0, .slice a b d, .slice f j k, .slice l m n]
      generalize z17.alloc (.cells #[.int .i64 x0, .slice a b d, .slice f j k, .slice l m n] 33) = z18 at hb18 hx18 ⊢
      refine hK.out _ _ (⟨hH17.1.low hb18, hH17.2.1.low hb18, hH17.2.2.trans (hb18.mono hH17.2.2.size)⟩) (fun hH18 => ?_)
      clear hK KQ
      try simp only [Act.put, zA, zB, zC, zD, zE, zF]
      refine rd1 18 rfl (fun KQ hK => ?_)
      go_simp
      have hb19 := (Below.refl z18.heap.size z18).alloc (Nat.le_refl _) (.cells #[.int .i64 x0, .slice a b d, .slice f j k, .slice l m n] 33)
      have hx19 := BlkL.new z18 33 [.int .i64 x0, .slice a b d, .slice f j k, .slice l m n]
      have hx18_19 := hx18.low hb19
      generalize z18.alloc (.cells #[.int .i64 x0, .slice a b d, .slice f j k, .slice l m n] 33) = z19 at hb19 hx19 hx18_19 ⊢
      refine hK.out _ _ (⟨hH18.1.low hb19, hH18.2.1.low hb19, hH18.2.2.trans (hb19.mono hH18.2.2.size)⟩) (fun hH19 => ?_)
      clear hK KQ
      try simp only [Act.put, zA, zB, zC, zD, zE, zF]
      refine rd1 19 rfl (fun KQ hK => ?_)
      go_simp
      refine (P5.out _ _ _ hH19.2.2 hx18_19 hx19).mono ?_
      rintro e z20 ⟨rfl, hb20⟩
      go_wp2_with fail
      refine hK.out _ _ (⟨hH19.1.low hb20, hH19.2.1.low hb20, hH19.2.2.trans (hb20.mono hH19.2.2.size)⟩) (fun hH20 => ?_)
      clear hK KQ
      refine tkm 20 (.bool true) rfl hH20 ?_
      refine tkm 21 (.bool true) rfl hH20 ?_ (hv := fun _ _ => by rfl)
      try simp only [Act.put, zA, zB, zC, zD, zE, zF]
      refine rd1 22 rfl (fun KQ hK => ?_)
      go_simp
      refine (P6.out _ hH20.2.2).mono ?_
      rintro e z21 ⟨rfl, hb21⟩
      go_wp2_with fail
      refine hK.out _ _ (⟨hH20.1.low hb21, hH20.2.1.low hb21, hH20.2.2.trans (hb21.mono hH20.2.2.size)⟩) (fun hH21 => ?_)
      clear hK KQ
      refine tkm 23 (.bool true) rfl hH21 ?_
      refine tkm 24 (.bool true) rfl hH21 ?_ (hv := fun _ _ => by rfl)
      try simp only [Act.put, zA, zB, zC, zD, zE, zF]
      refine wpAnyH_done (by kernel_rfl) ?_ _
      go_wp2_with fail
      go_ret
      exact ⟨rfl, hH21.2.2⟩
    refine AllReadyH.cons rfl (fun KQ hK => ?_) ?_
    · skip
      go_simp
      have hb22 := (Below.refl z17.heap.size z17).alloc (Nat.le_refl _) (.cells #[.int .i64 x0, .slice a b d, .slice f j k, .slice l m n] 33)
      have hx22 := BlkL.new z17 33 [.int .i64 x0, .slice a b d, .slice f j k, .slice l m n]
      generalize z17.alloc (.cells #[.int .i64 x0, .slice a b d, .slice f j k, .slice l m n] 33) = z22 at hb22 hx22 ⊢
      refine hK.out _ _ (⟨hH17.1.low hb22, hH17.2.1.low hb22, hH17.2.2.trans (hb22.mono hH17.2.2.size)⟩) (fun hH22 => ?_)
      clear hK KQ
      try simp only [Act.put, zA, zB, zC, zD, zE, zF]
      refine rd1 16 rfl (fun KQ hK => ?_)
      go_simp
      have hb23 := (Below.refl z22.heap.size z22).alloc (Nat.le_refl _) (.cells #[.int .i64 x0, .slice a b d, .slice f j k, .slice l m n] 33)
      have hx23 := BlkL.new z22 33 [.int .i64 x0, .slice a b d, .slice f j k, .slice l m n]
      have hx22_23 := hx22.low hb23
      generalize z22.alloc (.cells #[.int .i64 x0, .slice a b d, .slice f j k, .slice l m n] 33) = z23 at hb23 hx23 hx22_23 ⊢
      refine hK.out _ _ (⟨hH22.1.low hb23, hH22.2.1.low hb23, hH22.2.2.trans (hb23.mono hH22.2.2.size)⟩) (fun hH23 => ?_)
      clear hK KQ
      try simp only [Act.put, zA, zB, zC, zD, zE, zF]
      refine rd1 19 rfl (fun KQ hK => ?_)
      go_simp
      refine (P5.out _ _ _ hH23.2.2 hx23 hx22_23).mono ?_
      rintro e z24 ⟨rfl, hb24⟩
      go_wp2_with fail
      refine hK.out _ _ (⟨hH23.1.low hb24, hH23.2.1.low hb24, hH23.2.2.trans (hb24.mono hH23.2.2.size)⟩) (fun hH24 => ?_)
      clear hK KQ
      refine tkm 20 (.bool true) rfl hH24 ?_
      refine tkm 21 (.bool true) rfl hH24 ?_ (hv := fun _ _ => by rfl)
      try simp only [Act.put, zA, zB, zC, zD, zE, zF]
      refine rd1 22 rfl (fun KQ hK => ?_)
      go_simp
      refine (P6.out _ hH24.2.2).mono ?_
      rintro e z25 ⟨rfl, hb25⟩
      go_wp2_with fail
      refine hK.out _ _ (⟨hH24.1.low hb25, hH24.2.1.low hb25, hH24.2.2.trans (hb25.mono hH24.2.2.size)⟩) (fun hH25 => ?_)
      clear hK KQ
      refine tkm 23 (.bool true) rfl hH25 ?_
      refine tkm 24 (.bool true) rfl hH25 ?_ (hv := fun _ _ => by rfl)
      try simp only [Act.put, zA, zB, zC, zD, zE, zF]
      refine wpAnyH_done (by kernel_rfl) ?_ _
      go_wp2_with fail
      go_ret
      exact ⟨rfl, hH25.2.2⟩
    exact AllReadyH.nil
  exact AllReadyH.nil
end Go.Proofs.YtabhokgefpilkaaGreatDoor
