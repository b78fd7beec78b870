/-
  The walk of law17.StyleWords (printed by gen_words17.py).
-/
import Derived.Test.YtfiidocojooghaaDoorStyleP
import Derived.Deep.DeepCutAuto
import Derived.Deep.CutRange
namespace Go.Proofs.YtfiidocojooghaaDoor
open Go.RowKit Wsc
set_option maxRecDepth 100000 in
theorem words_out (a : Option Addr) (cp : Nat) (l : List Val) (p : Int) (P : Sty) (wd ht : Int) (w : World) (hg : Gl w) (h : (l.length : Int) < 37 ∨ p < 1 ∨ 37 < p) :
    Calls Tryd.prog 7 #[.slice a l.length cp, .int .i64 p, .agg (styA P), .int .i64 wd, .int .i64 ht] w fun e w' => e = .returned (.bool true) ∧ Below w.heap.size w w' := by
  have hA := (Below.refl w.heap.size w).alloc (Nat.le_refl _) (.cells (styA P) 27)
  have K := Lib.hid (known_any (w.alloc (.cells (styA P) 27)) (hg.below hA))
  generalize styA P = st at *
  by_cases h1 : (l.length : Int) < 37
  · go_enter Tryd.func7, Tryd.ntmps7
    go_wp2_with (go_at_call 10; refine K.out.mono ?_; rintro e w1 ⟨rfl, hb⟩)
    go_ret
    exact ⟨rfl, after1 hb⟩
  by_cases h2 : p < 1
  · clear h
    go_enter Tryd.func7, Tryd.ntmps7
    go_wp2_with (go_at_call 10; refine K.out.mono ?_; rintro e w1 ⟨rfl, hb⟩)
    go_ret
    exact ⟨rfl, after1 hb⟩
  have h3 : 37 < p := by omega
  clear h
  go_enter Tryd.func7, Tryd.ntmps7
  go_wp2_with (go_at_call 10; refine K.out.mono ?_; rintro e w1 ⟨rfl, hb⟩)
  go_ret
  exact ⟨rfl, after1 hb⟩
set_option maxRecDepth 100000 in
set_option maxHeartbeats 20000000 in
theorem words_in (a : Option Addr) (cp : Nat) (l : List Val) (k : Nat) (p : Int) (hp : p = (k : Int) + 1) (hk : k < 37) (P : Sty) (wd ht : Int) (w : World) (hg : Gl w) (hs : SlAt w (.slice a l.length cp) l.length (vals l)) (hz : l.length * 40 ≤ 140737488351232) (hl : 37 ≤ l.length) :
    Calls Tryd.prog 7 #[.slice a l.length cp, .int .i64 p, .agg (styA P), .int .i64 wd, .int .i64 ht] w fun e w' => e = .returned (.bool true) ∧ Below w.heap.size w w' := by
  have hA := Lib.hid ((Below.refl w.heap.size w).alloc (Nat.le_refl _) (.cells (styA P) 27))
  have hZ0 := Lib.hid (show (w.alloc (.cells (styA P) 27)).heap.size = w.heap.size + 1 by simp)
  have H0 := Lib.hid (show Hold w w.heap.size w.heap.size (styA P) (styA P) (w.alloc (.cells (styA P) 27)) from
    have r : (w.alloc (.cells (styA P) 27)).rangeAt w.heap.size 0 (styA P).toList := fun j v hv => by rw [Nat.zero_add, World.cell?_alloc_at _ _ _ _ rfl]; simpa using hv
    ⟨⟨by simp, hA.out⟩, r, r, by simp, by simp⟩)
  have SL := Lib.hid (fun ww (hb : Below w.heap.size w ww) => hs.below hb)
  have h40 := Lib.hid hz
  have hpos := Lib.hid (show 0 < l.length by omega)
  have hge := Lib.hid (show ¬ (l.length : Int) < 37 by omega)
  have hlk := Lib.hid (show k < l.length by omega)
  have hn37 : decide ((l.length : Int) < 37) = false := by simp; omega
  have hp1 : decide (p < 1) = false := by simp; omega
  have hp2 : decide (37 < p) = false := by simp; omega
  have hs1 : p - 1 = (k : Int) := by omega
  have hkl : (k : Int) < (l.length : Int) := by omega
  have hk0 : (0 : Int) ≤ (k : Int) := by omega
  have hpk := Lib.hid hp
  have hlb : (l.length : Int) ≤ 9223372036854775807 := by omega
  clear hs hz hp
  have hst := Lib.hid (show (styA P).toList.length = 55 by simp [sty_size])
  generalize hst0 : styA P = st at *
  have hsta := Lib.hid hst0
  clear hst0
  go_enter Tryd.func7, Tryd.ntmps7
  go_upto_region 5 with (refine wpList_copy rfl _ _ rfl rfl a cp l (SL.out _ hA.out) hpos.out rfl h40.out ?_; intro g1 c1 w1 R1 G1 N1 M1 B1)
  have F1 := Lib.hid (H0.out.next B1)
  go_upto_region 6 with (refine wpList_copy rfl _ _ rfl rfl a cp l (SL.out _ F1.out.e.bel) hpos.out rfl h40.out ?_; intro g2 c2 w2 R2 G2 N2 M2 B2)
  have F2 := Lib.hid (F1.out.next B2)
  go_upto_region 7 with (refine wpList_copy rfl _ _ rfl rfl a cp l (SL.out _ F2.out.e.bel) hpos.out rfl h40.out ?_; intro g3 c3 w3 R3 G3 N3 M3 B3)
  have F3 := Lib.hid (F2.out.next B3)
  go_upto_region 8 with (refine wpList_copy rfl _ _ rfl rfl a cp l (SL.out _ F3.out.e.bel) hpos.out rfl h40.out ?_; intro g4 c4 w4 R4 G4 N4 M4 B4)
  have F4 := Lib.hid (F3.out.next B4)
  have hg12 : g1 ≠ g2 := by have := R1.lt; omega
  have hg13 : g1 ≠ g3 := by have := R1.lt; have := B2.size; omega
  have hg14 : g1 ≠ g4 := by have := R1.lt; have := B2.size; have := B3.size; omega
  have hg23 : g2 ≠ g3 := by have := R2.lt; omega
  have hg24 : g2 ≠ g4 := by have := R2.lt; have := B3.size; omega
  have hg34 : g3 ≠ g4 := by have := R3.lt; omega
  have hw0 := hZ0.out
  have u1 : w.heap.size + 1 ≤ g1 := by omega
  have u2 : w.heap.size + 1 ≤ g2 := by have := B1.size; omega
  have u3 : w.heap.size + 1 ≤ g3 := by have := B1.size; have := B2.size; omega
  have u4 : w.heap.size + 1 ≤ g4 := by have := B1.size; have := B2.size; have := B3.size; omega
  have E0 := Lib.hid (show Four w w.heap.size st g1 g2 g3 g4 l l l l w4 from
    have a2 := R1.below B2 R1.lt
    have a3 := a2.below B3 a2.lt
    have b3 := R2.below B3 R2.lt
    have c4 := R3.below B4 R3.lt
    ⟨F4.out, a3.below B4 a3.lt, b3.below B4 b3.lt, c4, R4⟩)
  clear R1 R2 R3 R4 B1 B2 B3 B4 G1 G2 G3 G4 F1 F2 F3 F4 hw0
  have q0 := E0.out.r1.get k 0 hlk.out (by omega)
  have q1 := E0.out.r1.get k 1 hlk.out (by omega)
  have q2 := E0.out.r1.get k 2 hlk.out (by omega)
  have q3 := E0.out.r1.get k 3 hlk.out (by omega)
  have f0 := E0.out.r1.f (k * 4) (by have := hlk.out; omega)
  have f1 := E0.out.r1.f (k * 4 + 1) (by have := hlk.out; omega)
  have f2 := E0.out.r1.f (k * 4 + 2) (by have := hlk.out; omega)
  have f3 := E0.out.r1.f (k * 4 + 3) (by have := hlk.out; omega)
  simp [valc] at q0 q1 q2 q3
  have E1 := Lib.hid (show Four w w.heap.size st g1 g2 g3 g4 (l.set k zeroVal) l l l (((((w4).setCell ⟨g1, k * 4, none⟩ (.int .i64 0)).setCell ⟨g1, k * 4 + 1, none⟩ (.int .i64 0)).setCell ⟨g1, k * 4 + 2, none⟩ (.int .i64 0)).setCell ⟨g1, k * 4 + 3, none⟩ (.string ⟨#[]⟩)) from
    ⟨E0.out.h.put4 g1 (k * 4) (by omega) (by omega) zeroVal, E0.out.r1.put k (k * 4) hlk.out rfl zeroVal, E0.out.r2.other4 g1 (k * 4) hg12.symm zeroVal, E0.out.r3.other4 g1 (k * 4) hg13.symm zeroVal, E0.out.r4.other4 g1 (k * 4) hg14.symm zeroVal⟩)
  go_upto_region 9 with fail
  generalize (((((w4).setCell ⟨g1, k * 4, none⟩ (.int .i64 0)).setCell ⟨g1, k * 4 + 1, none⟩ (.int .i64 0)).setCell ⟨g1, k * 4 + 2, none⟩ (.int .i64 0)).setCell ⟨g1, k * 4 + 3, none⟩ (.string ⟨#[]⟩)) = w5 at *
  clear q0 q1 q2 q3 f0 f1 f2 f3 E0
  have q0 := E1.out.r2.get k 0 hlk.out (by omega)
  have q1 := E1.out.r2.get k 1 hlk.out (by omega)
  have q2 := E1.out.r2.get k 2 hlk.out (by omega)
  have q3 := E1.out.r2.get k 3 hlk.out (by omega)
  have f0 := E1.out.r2.f (k * 4) (by have := hlk.out; omega)
  have f1 := E1.out.r2.f (k * 4 + 1) (by have := hlk.out; omega)
  have f2 := E1.out.r2.f (k * 4 + 2) (by have := hlk.out; omega)
  have f3 := E1.out.r2.f (k * 4 + 3) (by have := hlk.out; omega)
  simp [valc] at q0 q1 q2 q3
  have E2 := Lib.hid (show Four w w.heap.size st g1 g2 g3 g4 (l.set k zeroVal) (l.set k (wdV 30)) l l (((((w5).setCell ⟨g2, k * 4, none⟩ (.int .i64 1)).setCell ⟨g2, k * 4 + 1, none⟩ (.int .i64 30)).setCell ⟨g2, k * 4 + 2, none⟩ (.int .i64 0)).setCell ⟨g2, k * 4 + 3, none⟩ (.string ⟨#[]⟩)) from
    ⟨E1.out.h.put4 g2 (k * 4) (by omega) (by omega) (wdV 30), E1.out.r1.other4 g2 (k * 4) hg12 (wdV 30), E1.out.r2.put k (k * 4) hlk.out rfl (wdV 30), E1.out.r3.other4 g2 (k * 4) hg23.symm (wdV 30), E1.out.r4.other4 g2 (k * 4) hg24.symm (wdV 30)⟩)
  go_upto_region 10 with fail
  generalize (((((w5).setCell ⟨g2, k * 4, none⟩ (.int .i64 1)).setCell ⟨g2, k * 4 + 1, none⟩ (.int .i64 30)).setCell ⟨g2, k * 4 + 2, none⟩ (.int .i64 0)).setCell ⟨g2, k * 4 + 3, none⟩ (.string ⟨#[]⟩)) = w6 at *
  clear q0 q1 q2 q3 f0 f1 f2 f3 E1
  have q0 := E2.out.r3.get k 0 hlk.out (by omega)
  have q1 := E2.out.r3.get k 1 hlk.out (by omega)
  have q2 := E2.out.r3.get k 2 hlk.out (by omega)
  have q3 := E2.out.r3.get k 3 hlk.out (by omega)
  have f0 := E2.out.r3.f (k * 4) (by have := hlk.out; omega)
  have f1 := E2.out.r3.f (k * 4 + 1) (by have := hlk.out; omega)
  have f2 := E2.out.r3.f (k * 4 + 2) (by have := hlk.out; omega)
  have f3 := E2.out.r3.f (k * 4 + 3) (by have := hlk.out; omega)
  simp [valc] at q0 q1 q2 q3
  have E3 := Lib.hid (show Four w w.heap.size st g1 g2 g3 g4 (l.set k zeroVal) (l.set k (wdV 30)) (l.set k (wdV 28)) l (((((w6).setCell ⟨g3, k * 4, none⟩ (.int .i64 1)).setCell ⟨g3, k * 4 + 1, none⟩ (.int .i64 28)).setCell ⟨g3, k * 4 + 2, none⟩ (.int .i64 0)).setCell ⟨g3, k * 4 + 3, none⟩ (.string ⟨#[]⟩)) from
    ⟨E2.out.h.put4 g3 (k * 4) (by omega) (by omega) (wdV 28), E2.out.r1.other4 g3 (k * 4) hg13 (wdV 28), E2.out.r2.other4 g3 (k * 4) hg23 (wdV 28), E2.out.r3.put k (k * 4) hlk.out rfl (wdV 28), E2.out.r4.other4 g3 (k * 4) hg34.symm (wdV 28)⟩)
  go_upto_region 11 with fail
  generalize (((((w6).setCell ⟨g3, k * 4, none⟩ (.int .i64 1)).setCell ⟨g3, k * 4 + 1, none⟩ (.int .i64 28)).setCell ⟨g3, k * 4 + 2, none⟩ (.int .i64 0)).setCell ⟨g3, k * 4 + 3, none⟩ (.string ⟨#[]⟩)) = w7 at *
  clear q0 q1 q2 q3 f0 f1 f2 f3 E2
  have q0 := E3.out.r4.get k 0 hlk.out (by omega)
  have q1 := E3.out.r4.get k 1 hlk.out (by omega)
  have q2 := E3.out.r4.get k 2 hlk.out (by omega)
  have q3 := E3.out.r4.get k 3 hlk.out (by omega)
  have f0 := E3.out.r4.f (k * 4) (by have := hlk.out; omega)
  have f1 := E3.out.r4.f (k * 4 + 1) (by have := hlk.out; omega)
  have f2 := E3.out.r4.f (k * 4 + 2) (by have := hlk.out; omega)
  have f3 := E3.out.r4.f (k * 4 + 3) (by have := hlk.out; omega)
  simp [valc] at q0 q1 q2 q3
  have E4 := Lib.hid (show Four w w.heap.size st g1 g2 g3 g4 (l.set k zeroVal) (l.set k (wdV 30)) (l.set k (wdV 28)) (l.set k (wdV 29)) (((((w7).setCell ⟨g4, k * 4, none⟩ (.int .i64 1)).setCell ⟨g4, k * 4 + 1, none⟩ (.int .i64 29)).setCell ⟨g4, k * 4 + 2, none⟩ (.int .i64 0)).setCell ⟨g4, k * 4 + 3, none⟩ (.string ⟨#[]⟩)) from
    ⟨E3.out.h.put4 g4 (k * 4) (by omega) (by omega) (wdV 29), E3.out.r1.other4 g4 (k * 4) hg14 (wdV 29), E3.out.r2.other4 g4 (k * 4) hg24 (wdV 29), E3.out.r3.other4 g4 (k * 4) hg34 (wdV 29), E3.out.r4.put k (k * 4) hlk.out rfl (wdV 29)⟩)
  go_upto_region 12 with fail
  generalize (((((w7).setCell ⟨g4, k * 4, none⟩ (.int .i64 1)).setCell ⟨g4, k * 4 + 1, none⟩ (.int .i64 29)).setCell ⟨g4, k * 4 + 2, none⟩ (.int .i64 0)).setCell ⟨g4, k * 4 + 3, none⟩ (.string ⟨#[]⟩)) = w8 at *
  clear q0 q1 q2 q3 f0 f1 f2 f3 E3
  have hsz8 := E4.out.h.l0
  have hb8 := E4.out.h.e.bel
  have hn := Lib.hid (show l.length ≤ 9223372036854775807 by omega)
  have HW := Lib.hid (fun ww (hb : Below w8.heap.size w8 ww) => hb8.trans (hb.mono hb8.size))
  have ST := Lib.hid (fun ww (hb : Below w8.heap.size w8 ww) => rangeAt_below E4.out.h.r0 hb hsz8)
  have C1 := fun ww (hb : Below w8.heap.size w8 ww) => compute_any (some ⟨g1, 0, none⟩) c1 (l.set k zeroVal) P wd ht ww (hg.below (HW.out _ hb)) ((E4.out.r1.below hb E4.out.r1.lt).sl c1 (by rw [List.length_set]; exact N1) M1) (by rw [List.length_set]; exact hn.out)
  rw [List.length_set, hsta.out] at C1
  have C2 := fun ww (hb : Below w8.heap.size w8 ww) => compute_any (some ⟨g2, 0, none⟩) c2 (l.set k (wdV 30)) P wd ht ww (hg.below (HW.out _ hb)) ((E4.out.r2.below hb E4.out.r2.lt).sl c2 (by rw [List.length_set]; exact N2) M2) (by rw [List.length_set]; exact hn.out)
  rw [List.length_set, hsta.out] at C2
  have C3 := fun ww (hb : Below w8.heap.size w8 ww) => compute_any (some ⟨g3, 0, none⟩) c3 (l.set k (wdV 28)) P wd ht ww (hg.below (HW.out _ hb)) ((E4.out.r3.below hb E4.out.r3.lt).sl c3 (by rw [List.length_set]; exact N3) M3) (by rw [List.length_set]; exact hn.out)
  rw [List.length_set, hsta.out] at C3
  have C4 := fun ww (hb : Below w8.heap.size w8 ww) => compute_any (some ⟨g4, 0, none⟩) c4 (l.set k (wdV 29)) P wd ht ww (hg.below (HW.out _ hb)) ((E4.out.r4.below hb E4.out.r4.lt).sl c4 (by rw [List.length_set]; exact N4) M4) (by rw [List.length_set]; exact hn.out)
  rw [List.length_set, hsta.out] at C4
  have X1 := Lib.hid (styA_same _ _ (words_unset l k hlk.out hk P wd ht))
  rw [← X1.out] at C2
  have OS := fun s => sty_one s
  have S1 := Lib.hid (sty_size (finS (l.set k zeroVal) P wd ht))
  have O1 := Lib.hid (sty_one (finS (l.set k zeroVal) P wd ht))
  have EQ := eqlS (finS (l.set k zeroVal) P wd ht)
  have NE := neqS (finS (l.set k zeroVal) P wd ht)
  have X28 := Lib.hid (fun h35 : 35 ≤ k => styA_same _ _ (words_inherit l k hlk.out hk h35 P wd ht))
  have X29 := Lib.hid (fun h35 : k < 35 => styA_same _ _ (words_initial l k hlk.out hk h35 P wd ht))
  have S3 := Lib.hid (sty_size (finS (l.set k (wdV 28)) P wd ht))
  have O3 := Lib.hid (sty_one (finS (l.set k (wdV 28)) P wd ht))
  have S4 := Lib.hid (sty_size (finS (l.set k (wdV 29)) P wd ht))
  have O4 := Lib.hid (sty_one (finS (l.set k (wdV 29)) P wd ht))
  have K := Lib.hid (fun ww (hb : Below w8.heap.size w8 ww) => known_any ww (hg.below (HW.out _ hb)))
  clear OS X1
  generalize styA (finS (l.set k zeroVal) P wd ht) = fx at *
  generalize styA (finS (l.set k (wdV 28)) P wd ht) = fu at *
  generalize styA (finS (l.set k (wdV 29)) P wd ht) = fv at *
  have C1 := Lib.hid C1
  have C2 := Lib.hid C2
  have C3 := Lib.hid C3
  have C4 := Lib.hid C4
  have gs := gS
  have hi1 := Lib.hid (show (Tryd.prog.info? 27).map (·.size) = some st.toList.length by rw [hst.out]; exact infoSty)
  clear E4 hb8
  go_cut [15, 16] (fun s15 s16 wx => ∃ h1 h2, s15 = .pointer (some ⟨h1, 0, none⟩) ∧ s16 = .pointer (some ⟨h2, 0, none⟩) ∧ Below w8.heap.size w8 wx ∧ wx.rangeAt h1 0 fx.toList ∧ wx.rangeAt h2 0 fx.toList ∧ h1 < wx.heap.size ∧ h2 < wx.heap.size)
  case first =>
    have eq1 : st.toList.toArray = st := by simp
    refine wp_region_held_drew (S := Below w8.heap.size w8) (by kernel_rfl) (Below.refl _ _).drew (fun hS0 => ?_)
    generalize w8.drew = wd0 at *
    refine wpAnyH_take (i := 0) (v := .slice (some ⟨g1, 0, none⟩) l.length c1) rfl (by kernel_rfl) (by kernel_rfl) (by kernel_rfl) (fun _ _ _ h => h) (Or.inl ⟨by rfl, fun _ _ => by rfl⟩) (by assumption) ?_
    try simp only [Act.put, List.setIfInBounds_toArray, List.set_cons_zero, List.set_cons_succ, List.getElem_toArray, List.getElem_cons_zero]
    refine wpAnyH_take (i := 2) (v := .int .i64 wd) rfl (by kernel_rfl) (by kernel_rfl) (by kernel_rfl) (fun _ _ _ h => h) (Or.inl ⟨by rfl, fun _ _ => by rfl⟩) (by assumption) ?_
    try simp only [Act.put, List.setIfInBounds_toArray, List.set_cons_zero, List.set_cons_succ, List.getElem_toArray, List.getElem_cons_zero, List.getElem_cons_succ]
    refine wpAnyH_take (i := 3) (v := .int .i64 ht) rfl (by kernel_rfl) (by kernel_rfl) (by kernel_rfl) (fun _ _ _ h => h) (Or.inl ⟨by rfl, fun _ _ => by rfl⟩) (by assumption) ?_
    try simp only [Act.put, List.setIfInBounds_toArray, List.set_cons_zero, List.set_cons_succ, List.getElem_toArray, List.getElem_cons_zero, List.getElem_cons_succ]
    refine wpAnyH_take (i := 5) (v := .slice (some ⟨g2, 0, none⟩) l.length c2) rfl (by kernel_rfl) (by kernel_rfl) (by kernel_rfl) (fun _ _ _ h => h) (Or.inl ⟨by rfl, fun _ _ => by rfl⟩) (by assumption) ?_
    try simp only [Act.put, List.setIfInBounds_toArray, List.set_cons_zero, List.set_cons_succ, List.getElem_toArray, List.getElem_cons_zero, List.getElem_cons_succ]
    refine wpAnyH_take (i := 7) (v := .int .i64 wd) rfl (by kernel_rfl) (by kernel_rfl) (by kernel_rfl) (fun _ _ _ h => h) (Or.inl ⟨by rfl, fun _ _ => by rfl⟩) (by assumption) ?_
    try simp only [Act.put, List.setIfInBounds_toArray, List.set_cons_zero, List.set_cons_succ, List.getElem_toArray, List.getElem_cons_zero, List.getElem_cons_succ]
    refine wpAnyH_take (i := 8) (v := .int .i64 ht) rfl (by kernel_rfl) (by kernel_rfl) (by kernel_rfl) (fun _ _ _ h => h) (Or.inl ⟨by rfl, fun _ _ => by rfl⟩) (by assumption) ?_
    try simp only [Act.put, List.setIfInBounds_toArray, List.set_cons_zero, List.set_cons_succ, List.getElem_toArray, List.getElem_cons_zero, List.getElem_cons_succ]
    refine wpAnyH_take (i := 1) rfl (by kernel_rfl) (by kernel_rfl) (by kernel_rfl) (fun _ _ _ h => h) (yieldsIf_load_mid (by rfl) 27 _ rfl w.heap.size 0 rfl st.toList _ (fun _ h => ST.out _ h) Tryd.underlying27 rfl hi1.out) (by assumption) ?_
    rw [eq1]
    try simp only [Act.put, List.setIfInBounds_toArray, List.set_cons_zero, List.set_cons_succ, List.getElem_toArray, List.getElem_cons_zero, List.getElem_cons_succ]
    refine wpAnyH_take (i := 6) rfl (by kernel_rfl) (by kernel_rfl) (by kernel_rfl) (fun _ _ _ h => h) (yieldsIf_load_mid (by rfl) 27 _ rfl w.heap.size 0 rfl st.toList _ (fun _ h => ST.out _ h) Tryd.underlying27 rfl hi1.out) (by assumption) ?_
    rw [eq1]
    try simp only [Act.put, List.setIfInBounds_toArray, List.set_cons_zero, List.set_cons_succ, List.getElem_toArray, List.getElem_cons_zero, List.getElem_cons_succ]
    refine wpAnyH_ready (rs := [4, 10, 11]) (by kernel_rfl) (by simp) ?_
    refine AllReadyH.cons rfl (fun KQ hK => ?_) ?_
    · go_simp
      refine (C1.out _ hS0).mono ?_
      rintro e wa1 ⟨rfl, hb2⟩
      go_wp2_with fail
      refine hK.out _ _ (hS0.trans (hb2.mono hS0.size)) (fun hB3 => ?_)
      clear hK KQ
      try simp only [Act.put, List.setIfInBounds_toArray, List.set_cons_zero, List.set_cons_succ, List.getElem_toArray, List.getElem_cons_zero, List.getElem_cons_succ]
      refine wpAnyH_ready (rs := [9, 10, 11]) (by kernel_rfl) (by simp) ?_
      refine AllReadyH.cons rfl (fun KQ hK => ?_) ?_
      · go_simp
        refine (C2.out _ hB3).mono ?_
        rintro e wa4 ⟨rfl, hb5⟩
        go_wp2_with fail
        refine hK.out _ _ (hB3.trans (hb5.mono hB3.size)) (fun hB6 => ?_)
        clear hK KQ
        try simp only [Act.put, List.setIfInBounds_toArray, List.set_cons_zero, List.set_cons_succ, List.getElem_toArray, List.getElem_cons_zero, List.getElem_cons_succ]
        refine wpAnyH_ready (rs := [10, 11]) (by kernel_rfl) (by simp) ?_
        refine AllReadyH.cons rfl (fun KQ hK => ?_) ?_
        · go_simp
          have hb8 := w1_below wa4
          have t10 := w1_there wa4
          have l11 := show wa4.heap.size < (W1 wa4).heap.size by simp
          change KQ _ (W1 wa4)
          generalize W1 wa4 = wa7 at hb8 t10 l11 ⊢
          refine hK.out _ _ (hB6.trans (hb8.mono hB6.size)) (fun hB9 => ?_)
          clear hK KQ
          try simp only [Act.put, List.setIfInBounds_toArray, List.set_cons_zero, List.set_cons_succ, List.getElem_toArray, List.getElem_cons_zero, List.getElem_cons_succ]
          have m12 := hB6.size
          refine wpAnyH_ready (rs := [11]) (by kernel_rfl) (by simp) ?_
          refine AllReadyH.cons rfl (fun KQ hK => ?_) ?_
          · go_simp
            have hb14 := w1_below wa7
            have t16 := w1_there wa7
            have l17 := show wa7.heap.size < (W1 wa7).heap.size by simp
            change KQ _ (W1 wa7)
            generalize W1 wa7 = wa13 at hb14 t16 l17 ⊢
            refine hK.out _ _ (hB9.trans (hb14.mono hB9.size)) (fun hB15 => ?_)
            clear hK KQ
            try simp only [Act.put, List.setIfInBounds_toArray, List.set_cons_zero, List.set_cons_succ, List.getElem_toArray, List.getElem_cons_zero, List.getElem_cons_succ]
            have t18 := there_below t10 hb14 l11
            have l19 := Nat.lt_of_lt_of_le l11 hb14.size
            have m20 := hB9.size
            have hne : wa4.heap.size ≠ wa7.heap.size := by omega
            refine wpAnyH_ready (rs := [12]) (by kernel_rfl) (by simp) ?_
            refine AllReadyH.cons rfl (fun KQ hK => ?_) AllReadyH.nil
            rw [if_pos (by rfl)]
            refine wp_store_mid _ _ _ rfl wa4.heap.size 0 fx rfl rfl (by rw [S1.out]; exact t18) (by rw [S1.out]; exact infoSty) O1.out ?_
            have r23 := World.rangeAt_setCells_same wa13 wa4.heap.size 0 fx.toList (by rw [show fx.toList.length = 55 by simpa using S1.out]; exact t18)
            have b25 := (below_setCells (B := 0) (w := wa13) (b := wa4.heap.size) (Nat.zero_le _) fx.toList 0 wa13 (Below.refl _ _)).size
            have hB22 := below_setCells (b := wa4.heap.size) m12 fx.toList 0 wa13 hB15
            have t24 := World.there_setCells t16 wa4.heap.size 0 fx.toList
            generalize wa13.setCells wa4.heap.size 0 fx.toList = wa21 at *
            refine hK.out _ _ hB22 (fun hB26 => ?_)
            clear hK KQ
            try simp only [Act.put, List.getElem_toArray, List.getElem_cons_zero, List.getElem_cons_succ]
            have l27 := Nat.lt_of_lt_of_le l19 b25
            have l28 := Nat.lt_of_lt_of_le l17 b25
            refine wpAnyH_ready (rs := [13]) (by kernel_rfl) (by simp) ?_
            refine AllReadyH.cons rfl (fun KQ hK => ?_) AllReadyH.nil
            rw [if_pos (by rfl)]
            refine wp_store_mid _ _ _ rfl wa7.heap.size 0 fx rfl rfl (by rw [S1.out]; exact t24) (by rw [S1.out]; exact infoSty) O1.out ?_
            have r31 := World.rangeAt_setCells_same wa21 wa7.heap.size 0 fx.toList (by rw [show fx.toList.length = 55 by simpa using S1.out]; exact t24)
            have b33 := (below_setCells (B := 0) (w := wa21) (b := wa7.heap.size) (Nat.zero_le _) fx.toList 0 wa21 (Below.refl _ _)).size
            have hB30 := below_setCells (b := wa7.heap.size) m20 fx.toList 0 wa21 hB26
            have t32 := World.rangeAt_setCells_apart r23 wa7.heap.size 0 fx.toList (Or.inl hne)
            have t37 := World.there_setCells t24 wa7.heap.size 0 fx.toList
            generalize wa21.setCells wa7.heap.size 0 fx.toList = wa29 at *
            refine hK.out _ _ hB30 (fun hB34 => ?_)
            clear hK KQ
            try simp only [Act.put, List.getElem_toArray, List.getElem_cons_zero, List.getElem_cons_succ]
            have l35 := Nat.lt_of_lt_of_le l27 b33
            have l36 := Nat.lt_of_lt_of_le l28 b33
            refine wpAnyH_done (by kernel_rfl) ?_ _
            go_wp2_with fail
            go_meet
            exact ⟨_, _, rfl, rfl, hB34, t32, r31, l35, l36⟩
          exact AllReadyH.nil
        refine AllReadyH.cons rfl (fun KQ hK => ?_) ?_
        · go_simp
          have hb39 := w1_below wa4
          have t41 := w1_there wa4
          have l42 := show wa4.heap.size < (W1 wa4).heap.size by simp
          change KQ _ (W1 wa4)
          generalize W1 wa4 = wa38 at hb39 t41 l42 ⊢
          refine hK.out _ _ (hB6.trans (hb39.mono hB6.size)) (fun hB40 => ?_)
          clear hK KQ
          try simp only [Act.put, List.setIfInBounds_toArray, List.set_cons_zero, List.set_cons_succ, List.getElem_toArray, List.getElem_cons_zero, List.getElem_cons_succ]
          have m43 := hB6.size
          refine wpAnyH_ready (rs := [10]) (by kernel_rfl) (by simp) ?_
          refine AllReadyH.cons rfl (fun KQ hK => ?_) ?_
          · go_simp
            have hb45 := w1_below wa38
            have t47 := w1_there wa38
            have l48 := show wa38.heap.size < (W1 wa38).heap.size by simp
            change KQ _ (W1 wa38)
            generalize W1 wa38 = wa44 at hb45 t47 l48 ⊢
            refine hK.out _ _ (hB40.trans (hb45.mono hB40.size)) (fun hB46 => ?_)
            clear hK KQ
            try simp only [Act.put, List.setIfInBounds_toArray, List.set_cons_zero, List.set_cons_succ, List.getElem_toArray, List.getElem_cons_zero, List.getElem_cons_succ]
            have t49 := there_below t41 hb45 l42
            have l50 := Nat.lt_of_lt_of_le l42 hb45.size
            have m51 := hB40.size
            have hne : wa38.heap.size ≠ wa4.heap.size := by omega
            refine wpAnyH_ready (rs := [12]) (by kernel_rfl) (by simp) ?_
            refine AllReadyH.cons rfl (fun KQ hK => ?_) AllReadyH.nil
            rw [if_pos (by rfl)]
            refine wp_store_mid _ _ _ rfl wa38.heap.size 0 fx rfl rfl (by rw [S1.out]; exact t47) (by rw [S1.out]; exact infoSty) O1.out ?_
            have r54 := World.rangeAt_setCells_same wa44 wa38.heap.size 0 fx.toList (by rw [show fx.toList.length = 55 by simpa using S1.out]; exact t47)
            have b56 := (below_setCells (B := 0) (w := wa44) (b := wa38.heap.size) (Nat.zero_le _) fx.toList 0 wa44 (Below.refl _ _)).size
            have hB53 := below_setCells (b := wa38.heap.size) m51 fx.toList 0 wa44 hB46
            have t55 := World.there_setCells t49 wa38.heap.size 0 fx.toList
            generalize wa44.setCells wa38.heap.size 0 fx.toList = wa52 at *
            refine hK.out _ _ hB53 (fun hB57 => ?_)
            clear hK KQ
            try simp only [Act.put, List.getElem_toArray, List.getElem_cons_zero, List.getElem_cons_succ]
            have l58 := Nat.lt_of_lt_of_le l48 b56
            have l59 := Nat.lt_of_lt_of_le l50 b56
            refine wpAnyH_ready (rs := [13]) (by kernel_rfl) (by simp) ?_
            refine AllReadyH.cons rfl (fun KQ hK => ?_) AllReadyH.nil
            rw [if_pos (by rfl)]
            refine wp_store_mid _ _ _ rfl wa4.heap.size 0 fx rfl rfl (by rw [S1.out]; exact t55) (by rw [S1.out]; exact infoSty) O1.out ?_
            have r62 := World.rangeAt_setCells_same wa52 wa4.heap.size 0 fx.toList (by rw [show fx.toList.length = 55 by simpa using S1.out]; exact t55)
            have b64 := (below_setCells (B := 0) (w := wa52) (b := wa4.heap.size) (Nat.zero_le _) fx.toList 0 wa52 (Below.refl _ _)).size
            have hB61 := below_setCells (b := wa4.heap.size) m43 fx.toList 0 wa52 hB57
            have t63 := World.rangeAt_setCells_apart r54 wa4.heap.size 0 fx.toList (Or.inl hne)
            have t68 := World.there_setCells t55 wa4.heap.size 0 fx.toList
            generalize wa52.setCells wa4.heap.size 0 fx.toList = wa60 at *
            refine hK.out _ _ hB61 (fun hB65 => ?_)
            clear hK KQ
            try simp only [Act.put, List.getElem_toArray, List.getElem_cons_zero, List.getElem_cons_succ]
            have l66 := Nat.lt_of_lt_of_le l58 b64
            have l67 := Nat.lt_of_lt_of_le l59 b64
            refine wpAnyH_done (by kernel_rfl) ?_ _
            go_wp2_with fail
            go_meet
            exact ⟨_, _, rfl, rfl, hB65, t63, r62, l66, l67⟩
          exact AllReadyH.nil
        exact AllReadyH.nil
      refine AllReadyH.cons rfl (fun KQ hK => ?_) ?_
      · go_simp
        have hb70 := w1_below wa1
        have t72 := w1_there wa1
        have l73 := show wa1.heap.size < (W1 wa1).heap.size by simp
        change KQ _ (W1 wa1)
        generalize W1 wa1 = wa69 at hb70 t72 l73 ⊢
        refine hK.out _ _ (hB3.trans (hb70.mono hB3.size)) (fun hB71 => ?_)
        clear hK KQ
        try simp only [Act.put, List.setIfInBounds_toArray, List.set_cons_zero, List.set_cons_succ, List.getElem_toArray, List.getElem_cons_zero, List.getElem_cons_succ]
        have m74 := hB3.size
        refine wpAnyH_ready (rs := [9, 11]) (by kernel_rfl) (by simp) ?_
        refine AllReadyH.cons rfl (fun KQ hK => ?_) ?_
        · go_simp
          refine (C2.out _ hB71).mono ?_
          rintro e wa75 ⟨rfl, hb76⟩
          go_wp2_with fail
          refine hK.out _ _ (hB71.trans (hb76.mono hB71.size)) (fun hB77 => ?_)
          clear hK KQ
          try simp only [Act.put, List.setIfInBounds_toArray, List.set_cons_zero, List.set_cons_succ, List.getElem_toArray, List.getElem_cons_zero, List.getElem_cons_succ]
          have t78 := there_below t72 hb76 l73
          have l79 := Nat.lt_of_lt_of_le l73 hb76.size
          refine wpAnyH_ready (rs := [11]) (by kernel_rfl) (by simp) ?_
          refine AllReadyH.cons rfl (fun KQ hK => ?_) ?_
          · go_simp
            have hb81 := w1_below wa75
            have t83 := w1_there wa75
            have l84 := show wa75.heap.size < (W1 wa75).heap.size by simp
            change KQ _ (W1 wa75)
            generalize W1 wa75 = wa80 at hb81 t83 l84 ⊢
            refine hK.out _ _ (hB77.trans (hb81.mono hB77.size)) (fun hB82 => ?_)
            clear hK KQ
            try simp only [Act.put, List.setIfInBounds_toArray, List.set_cons_zero, List.set_cons_succ, List.getElem_toArray, List.getElem_cons_zero, List.getElem_cons_succ]
            have t85 := there_below t78 hb81 l79
            have l86 := Nat.lt_of_lt_of_le l79 hb81.size
            have m87 := hB77.size
            have hne : wa1.heap.size ≠ wa75.heap.size := by omega
            refine wpAnyH_ready (rs := [12]) (by kernel_rfl) (by simp) ?_
            refine AllReadyH.cons rfl (fun KQ hK => ?_) AllReadyH.nil
            rw [if_pos (by rfl)]
            refine wp_store_mid _ _ _ rfl wa1.heap.size 0 fx rfl rfl (by rw [S1.out]; exact t85) (by rw [S1.out]; exact infoSty) O1.out ?_
            have r90 := World.rangeAt_setCells_same wa80 wa1.heap.size 0 fx.toList (by rw [show fx.toList.length = 55 by simpa using S1.out]; exact t85)
            have b92 := (below_setCells (B := 0) (w := wa80) (b := wa1.heap.size) (Nat.zero_le _) fx.toList 0 wa80 (Below.refl _ _)).size
            have hB89 := below_setCells (b := wa1.heap.size) m74 fx.toList 0 wa80 hB82
            have t91 := World.there_setCells t83 wa1.heap.size 0 fx.toList
            generalize wa80.setCells wa1.heap.size 0 fx.toList = wa88 at *
            refine hK.out _ _ hB89 (fun hB93 => ?_)
            clear hK KQ
            try simp only [Act.put, List.getElem_toArray, List.getElem_cons_zero, List.getElem_cons_succ]
            have l94 := Nat.lt_of_lt_of_le l86 b92
            have l95 := Nat.lt_of_lt_of_le l84 b92
            refine wpAnyH_ready (rs := [13]) (by kernel_rfl) (by simp) ?_
            refine AllReadyH.cons rfl (fun KQ hK => ?_) AllReadyH.nil
            rw [if_pos (by rfl)]
            refine wp_store_mid _ _ _ rfl wa75.heap.size 0 fx rfl rfl (by rw [S1.out]; exact t91) (by rw [S1.out]; exact infoSty) O1.out ?_
            have r98 := World.rangeAt_setCells_same wa88 wa75.heap.size 0 fx.toList (by rw [show fx.toList.length = 55 by simpa using S1.out]; exact t91)
            have b100 := (below_setCells (B := 0) (w := wa88) (b := wa75.heap.size) (Nat.zero_le _) fx.toList 0 wa88 (Below.refl _ _)).size
            have hB97 := below_setCells (b := wa75.heap.size) m87 fx.toList 0 wa88 hB93
            have t99 := World.rangeAt_setCells_apart r90 wa75.heap.size 0 fx.toList (Or.inl hne)
            have t104 := World.there_setCells t91 wa75.heap.size 0 fx.toList
            generalize wa88.setCells wa75.heap.size 0 fx.toList = wa96 at *
            refine hK.out _ _ hB97 (fun hB101 => ?_)
            clear hK KQ
            try simp only [Act.put, List.getElem_toArray, List.getElem_cons_zero, List.getElem_cons_succ]
            have l102 := Nat.lt_of_lt_of_le l94 b100
            have l103 := Nat.lt_of_lt_of_le l95 b100
            refine wpAnyH_done (by kernel_rfl) ?_ _
            go_wp2_with fail
            go_meet
            exact ⟨_, _, rfl, rfl, hB101, t99, r98, l102, l103⟩
          exact AllReadyH.nil
        refine AllReadyH.cons rfl (fun KQ hK => ?_) ?_
        · go_simp
          have hb106 := w1_below wa69
          have t108 := w1_there wa69
          have l109 := show wa69.heap.size < (W1 wa69).heap.size by simp
          change KQ _ (W1 wa69)
          generalize W1 wa69 = wa105 at hb106 t108 l109 ⊢
          refine hK.out _ _ (hB71.trans (hb106.mono hB71.size)) (fun hB107 => ?_)
          clear hK KQ
          try simp only [Act.put, List.setIfInBounds_toArray, List.set_cons_zero, List.set_cons_succ, List.getElem_toArray, List.getElem_cons_zero, List.getElem_cons_succ]
          have t110 := there_below t72 hb106 l73
          have l111 := Nat.lt_of_lt_of_le l73 hb106.size
          have m112 := hB71.size
          refine wpAnyH_ready (rs := [9]) (by kernel_rfl) (by simp) ?_
          refine AllReadyH.cons rfl (fun KQ hK => ?_) ?_
          · go_simp
            refine (C2.out _ hB107).mono ?_
            rintro e wa113 ⟨rfl, hb114⟩
            go_wp2_with fail
            refine hK.out _ _ (hB107.trans (hb114.mono hB107.size)) (fun hB115 => ?_)
            clear hK KQ
            try simp only [Act.put, List.setIfInBounds_toArray, List.set_cons_zero, List.set_cons_succ, List.getElem_toArray, List.getElem_cons_zero, List.getElem_cons_succ]
            have t116 := there_below t110 hb114 l111
            have l117 := Nat.lt_of_lt_of_le l111 hb114.size
            have t118 := there_below t108 hb114 l109
            have l119 := Nat.lt_of_lt_of_le l109 hb114.size
            have hne : wa1.heap.size ≠ wa69.heap.size := by omega
            refine wpAnyH_ready (rs := [12]) (by kernel_rfl) (by simp) ?_
            refine AllReadyH.cons rfl (fun KQ hK => ?_) AllReadyH.nil
            rw [if_pos (by rfl)]
            refine wp_store_mid _ _ _ rfl wa1.heap.size 0 fx rfl rfl (by rw [S1.out]; exact t116) (by rw [S1.out]; exact infoSty) O1.out ?_
            have r122 := World.rangeAt_setCells_same wa113 wa1.heap.size 0 fx.toList (by rw [show fx.toList.length = 55 by simpa using S1.out]; exact t116)
            have b124 := (below_setCells (B := 0) (w := wa113) (b := wa1.heap.size) (Nat.zero_le _) fx.toList 0 wa113 (Below.refl _ _)).size
            have hB121 := below_setCells (b := wa1.heap.size) m74 fx.toList 0 wa113 hB115
            have t123 := World.there_setCells t118 wa1.heap.size 0 fx.toList
            generalize wa113.setCells wa1.heap.size 0 fx.toList = wa120 at *
            refine hK.out _ _ hB121 (fun hB125 => ?_)
            clear hK KQ
            try simp only [Act.put, List.getElem_toArray, List.getElem_cons_zero, List.getElem_cons_succ]
            have l126 := Nat.lt_of_lt_of_le l117 b124
            have l127 := Nat.lt_of_lt_of_le l119 b124
            refine wpAnyH_ready (rs := [13]) (by kernel_rfl) (by simp) ?_
            refine AllReadyH.cons rfl (fun KQ hK => ?_) AllReadyH.nil
            rw [if_pos (by rfl)]
            refine wp_store_mid _ _ _ rfl wa69.heap.size 0 fx rfl rfl (by rw [S1.out]; exact t123) (by rw [S1.out]; exact infoSty) O1.out ?_
            have r130 := World.rangeAt_setCells_same wa120 wa69.heap.size 0 fx.toList (by rw [show fx.toList.length = 55 by simpa using S1.out]; exact t123)
            have b132 := (below_setCells (B := 0) (w := wa120) (b := wa69.heap.size) (Nat.zero_le _) fx.toList 0 wa120 (Below.refl _ _)).size
            have hB129 := below_setCells (b := wa69.heap.size) m112 fx.toList 0 wa120 hB125
            have t131 := World.rangeAt_setCells_apart r122 wa69.heap.size 0 fx.toList (Or.inl hne)
            have t136 := World.there_setCells t123 wa69.heap.size 0 fx.toList
            generalize wa120.setCells wa69.heap.size 0 fx.toList = wa128 at *
            refine hK.out _ _ hB129 (fun hB133 => ?_)
            clear hK KQ
            try simp only [Act.put, List.getElem_toArray, List.getElem_cons_zero, List.getElem_cons_succ]
            have l134 := Nat.lt_of_lt_of_le l126 b132
            have l135 := Nat.lt_of_lt_of_le l127 b132
            refine wpAnyH_done (by kernel_rfl) ?_ _
            go_wp2_with fail
            go_meet
            exact ⟨_, _, rfl, rfl, hB133, t131, r130, l134, l135⟩
          exact AllReadyH.nil
        exact AllReadyH.nil
      refine AllReadyH.cons rfl (fun KQ hK => ?_) ?_
      · go_simp
        have hb138 := w1_below wa1
        have t140 := w1_there wa1
        have l141 := show wa1.heap.size < (W1 wa1).heap.size by simp
        change KQ _ (W1 wa1)
        generalize W1 wa1 = wa137 at hb138 t140 l141 ⊢
        refine hK.out _ _ (hB3.trans (hb138.mono hB3.size)) (fun hB139 => ?_)
        clear hK KQ
        try simp only [Act.put, List.setIfInBounds_toArray, List.set_cons_zero, List.set_cons_succ, List.getElem_toArray, List.getElem_cons_zero, List.getElem_cons_succ]
        have m142 := hB3.size
        refine wpAnyH_ready (rs := [9, 10]) (by kernel_rfl) (by simp) ?_
        refine AllReadyH.cons rfl (fun KQ hK => ?_) ?_
        · go_simp
          refine (C2.out _ hB139).mono ?_
          rintro e wa143 ⟨rfl, hb144⟩
          go_wp2_with fail
          refine hK.out _ _ (hB139.trans (hb144.mono hB139.size)) (fun hB145 => ?_)
          clear hK KQ
          try simp only [Act.put, List.setIfInBounds_toArray, List.set_cons_zero, List.set_cons_succ, List.getElem_toArray, List.getElem_cons_zero, List.getElem_cons_succ]
          have t146 := there_below t140 hb144 l141
          have l147 := Nat.lt_of_lt_of_le l141 hb144.size
          refine wpAnyH_ready (rs := [10]) (by kernel_rfl) (by simp) ?_
          refine AllReadyH.cons rfl (fun KQ hK => ?_) ?_
          · go_simp
            have hb149 := w1_below wa143
            have t151 := w1_there wa143
            have l152 := show wa143.heap.size < (W1 wa143).heap.size by simp
            change KQ _ (W1 wa143)
            generalize W1 wa143 = wa148 at hb149 t151 l152 ⊢
            refine hK.out _ _ (hB145.trans (hb149.mono hB145.size)) (fun hB150 => ?_)
            clear hK KQ
            try simp only [Act.put, List.setIfInBounds_toArray, List.set_cons_zero, List.set_cons_succ, List.getElem_toArray, List.getElem_cons_zero, List.getElem_cons_succ]
            have t153 := there_below t146 hb149 l147
            have l154 := Nat.lt_of_lt_of_le l147 hb149.size
            have m155 := hB145.size
            have hne : wa143.heap.size ≠ wa1.heap.size := by omega
            refine wpAnyH_ready (rs := [12]) (by kernel_rfl) (by simp) ?_
            refine AllReadyH.cons rfl (fun KQ hK => ?_) AllReadyH.nil
            rw [if_pos (by rfl)]
            refine wp_store_mid _ _ _ rfl wa143.heap.size 0 fx rfl rfl (by rw [S1.out]; exact t151) (by rw [S1.out]; exact infoSty) O1.out ?_
            have r158 := World.rangeAt_setCells_same wa148 wa143.heap.size 0 fx.toList (by rw [show fx.toList.length = 55 by simpa using S1.out]; exact t151)
            have b160 := (below_setCells (B := 0) (w := wa148) (b := wa143.heap.size) (Nat.zero_le _) fx.toList 0 wa148 (Below.refl _ _)).size
            have hB157 := below_setCells (b := wa143.heap.size) m155 fx.toList 0 wa148 hB150
            have t159 := World.there_setCells t153 wa143.heap.size 0 fx.toList
            generalize wa148.setCells wa143.heap.size 0 fx.toList = wa156 at *
            refine hK.out _ _ hB157 (fun hB161 => ?_)
            clear hK KQ
            try simp only [Act.put, List.getElem_toArray, List.getElem_cons_zero, List.getElem_cons_succ]
            have l162 := Nat.lt_of_lt_of_le l152 b160
            have l163 := Nat.lt_of_lt_of_le l154 b160
            refine wpAnyH_ready (rs := [13]) (by kernel_rfl) (by simp) ?_
            refine AllReadyH.cons rfl (fun KQ hK => ?_) AllReadyH.nil
            rw [if_pos (by rfl)]
            refine wp_store_mid _ _ _ rfl wa1.heap.size 0 fx rfl rfl (by rw [S1.out]; exact t159) (by rw [S1.out]; exact infoSty) O1.out ?_
            have r166 := World.rangeAt_setCells_same wa156 wa1.heap.size 0 fx.toList (by rw [show fx.toList.length = 55 by simpa using S1.out]; exact t159)
            have b168 := (below_setCells (B := 0) (w := wa156) (b := wa1.heap.size) (Nat.zero_le _) fx.toList 0 wa156 (Below.refl _ _)).size
            have hB165 := below_setCells (b := wa1.heap.size) m142 fx.toList 0 wa156 hB161
            have t167 := World.rangeAt_setCells_apart r158 wa1.heap.size 0 fx.toList (Or.inl hne)
            have t172 := World.there_setCells t159 wa1.heap.size 0 fx.toList
            generalize wa156.setCells wa1.heap.size 0 fx.toList = wa164 at *
            refine hK.out _ _ hB165 (fun hB169 => ?_)
            clear hK KQ
            try simp only [Act.put, List.getElem_toArray, List.getElem_cons_zero, List.getElem_cons_succ]
            have l170 := Nat.lt_of_lt_of_le l162 b168
            have l171 := Nat.lt_of_lt_of_le l163 b168
            refine wpAnyH_done (by kernel_rfl) ?_ _
            go_wp2_with fail
            go_meet
            exact ⟨_, _, rfl, rfl, hB169, t167, r166, l170, l171⟩
          exact AllReadyH.nil
        refine AllReadyH.cons rfl (fun KQ hK => ?_) ?_
        · go_simp
          have hb174 := w1_below wa137
          have t176 := w1_there wa137
          have l177 := show wa137.heap.size < (W1 wa137).heap.size by simp
          change KQ _ (W1 wa137)
          generalize W1 wa137 = wa173 at hb174 t176 l177 ⊢
          refine hK.out _ _ (hB139.trans (hb174.mono hB139.size)) (fun hB175 => ?_)
          clear hK KQ
          try simp only [Act.put, List.setIfInBounds_toArray, List.set_cons_zero, List.set_cons_succ, List.getElem_toArray, List.getElem_cons_zero, List.getElem_cons_succ]
          have t178 := there_below t140 hb174 l141
          have l179 := Nat.lt_of_lt_of_le l141 hb174.size
          have m180 := hB139.size
          refine wpAnyH_ready (rs := [9]) (by kernel_rfl) (by simp) ?_
          refine AllReadyH.cons rfl (fun KQ hK => ?_) ?_
          · go_simp
            refine (C2.out _ hB175).mono ?_
            rintro e wa181 ⟨rfl, hb182⟩
            go_wp2_with fail
            refine hK.out _ _ (hB175.trans (hb182.mono hB175.size)) (fun hB183 => ?_)
            clear hK KQ
            try simp only [Act.put, List.setIfInBounds_toArray, List.set_cons_zero, List.set_cons_succ, List.getElem_toArray, List.getElem_cons_zero, List.getElem_cons_succ]
            have t184 := there_below t178 hb182 l179
            have l185 := Nat.lt_of_lt_of_le l179 hb182.size
            have t186 := there_below t176 hb182 l177
            have l187 := Nat.lt_of_lt_of_le l177 hb182.size
            have hne : wa137.heap.size ≠ wa1.heap.size := by omega
            refine wpAnyH_ready (rs := [12]) (by kernel_rfl) (by simp) ?_
            refine AllReadyH.cons rfl (fun KQ hK => ?_) AllReadyH.nil
            rw [if_pos (by rfl)]
            refine wp_store_mid _ _ _ rfl wa137.heap.size 0 fx rfl rfl (by rw [S1.out]; exact t186) (by rw [S1.out]; exact infoSty) O1.out ?_
            have r190 := World.rangeAt_setCells_same wa181 wa137.heap.size 0 fx.toList (by rw [show fx.toList.length = 55 by simpa using S1.out]; exact t186)
            have b192 := (below_setCells (B := 0) (w := wa181) (b := wa137.heap.size) (Nat.zero_le _) fx.toList 0 wa181 (Below.refl _ _)).size
            have hB189 := below_setCells (b := wa137.heap.size) m180 fx.toList 0 wa181 hB183
            have t191 := World.there_setCells t184 wa137.heap.size 0 fx.toList
            generalize wa181.setCells wa137.heap.size 0 fx.toList = wa188 at *
            refine hK.out _ _ hB189 (fun hB193 => ?_)
            clear hK KQ
            try simp only [Act.put, List.getElem_toArray, List.getElem_cons_zero, List.getElem_cons_succ]
            have l194 := Nat.lt_of_lt_of_le l187 b192
            have l195 := Nat.lt_of_lt_of_le l185 b192
            refine wpAnyH_ready (rs := [13]) (by kernel_rfl) (by simp) ?_
            refine AllReadyH.cons rfl (fun KQ hK => ?_) AllReadyH.nil
            rw [if_pos (by rfl)]
            refine wp_store_mid _ _ _ rfl wa1.heap.size 0 fx rfl rfl (by rw [S1.out]; exact t191) (by rw [S1.out]; exact infoSty) O1.out ?_
            have r198 := World.rangeAt_setCells_same wa188 wa1.heap.size 0 fx.toList (by rw [show fx.toList.length = 55 by simpa using S1.out]; exact t191)
            have b200 := (below_setCells (B := 0) (w := wa188) (b := wa1.heap.size) (Nat.zero_le _) fx.toList 0 wa188 (Below.refl _ _)).size
            have hB197 := below_setCells (b := wa1.heap.size) m142 fx.toList 0 wa188 hB193
            have t199 := World.rangeAt_setCells_apart r190 wa1.heap.size 0 fx.toList (Or.inl hne)
            have t204 := World.there_setCells t191 wa1.heap.size 0 fx.toList
            generalize wa188.setCells wa1.heap.size 0 fx.toList = wa196 at *
            refine hK.out _ _ hB197 (fun hB201 => ?_)
            clear hK KQ
            try simp only [Act.put, List.getElem_toArray, List.getElem_cons_zero, List.getElem_cons_succ]
            have l202 := Nat.lt_of_lt_of_le l194 b200
            have l203 := Nat.lt_of_lt_of_le l195 b200
            refine wpAnyH_done (by kernel_rfl) ?_ _
            go_wp2_with fail
            go_meet
            exact ⟨_, _, rfl, rfl, hB201, t199, r198, l202, l203⟩
          exact AllReadyH.nil
        exact AllReadyH.nil
      exact AllReadyH.nil
    refine AllReadyH.cons rfl (fun KQ hK => ?_) ?_
    · go_simp
      have hb206 := w1_below wd0
      have t208 := w1_there wd0
      have l209 := show wd0.heap.size < (W1 wd0).heap.size by simp
      change KQ _ (W1 wd0)
      generalize W1 wd0 = wa205 at hb206 t208 l209 ⊢
      refine hK.out _ _ (hS0.trans (hb206.mono hS0.size)) (fun hB207 => ?_)
      clear hK KQ
      try simp only [Act.put, List.setIfInBounds_toArray, List.set_cons_zero, List.set_cons_succ, List.getElem_toArray, List.getElem_cons_zero, List.getElem_cons_succ]
      have m210 := hS0.size
      refine wpAnyH_ready (rs := [4, 11]) (by kernel_rfl) (by simp) ?_
      refine AllReadyH.cons rfl (fun KQ hK => ?_) ?_
      · go_simp
        refine (C1.out _ hB207).mono ?_
        rintro e wa211 ⟨rfl, hb212⟩
        go_wp2_with fail
        refine hK.out _ _ (hB207.trans (hb212.mono hB207.size)) (fun hB213 => ?_)
        clear hK KQ
        try simp only [Act.put, List.setIfInBounds_toArray, List.set_cons_zero, List.set_cons_succ, List.getElem_toArray, List.getElem_cons_zero, List.getElem_cons_succ]
        have t214 := there_below t208 hb212 l209
        have l215 := Nat.lt_of_lt_of_le l209 hb212.size
        refine wpAnyH_ready (rs := [9, 11]) (by kernel_rfl) (by simp) ?_
        refine AllReadyH.cons rfl (fun KQ hK => ?_) ?_
        · go_simp
          refine (C2.out _ hB213).mono ?_
          rintro e wa216 ⟨rfl, hb217⟩
          go_wp2_with fail
          refine hK.out _ _ (hB213.trans (hb217.mono hB213.size)) (fun hB218 => ?_)
          clear hK KQ
          try simp only [Act.put, List.setIfInBounds_toArray, List.set_cons_zero, List.set_cons_succ, List.getElem_toArray, List.getElem_cons_zero, List.getElem_cons_succ]
          have t219 := there_below t214 hb217 l215
          have l220 := Nat.lt_of_lt_of_le l215 hb217.size
          refine wpAnyH_ready (rs := [11]) (by kernel_rfl) (by simp) ?_
          refine AllReadyH.cons rfl (fun KQ hK => ?_) ?_
          · go_simp
            have hb222 := w1_below wa216
            have t224 := w1_there wa216
            have l225 := show wa216.heap.size < (W1 wa216).heap.size by simp
            change KQ _ (W1 wa216)
            generalize W1 wa216 = wa221 at hb222 t224 l225 ⊢
            refine hK.out _ _ (hB218.trans (hb222.mono hB218.size)) (fun hB223 => ?_)
            clear hK KQ
            try simp only [Act.put, List.setIfInBounds_toArray, List.set_cons_zero, List.set_cons_succ, List.getElem_toArray, List.getElem_cons_zero, List.getElem_cons_succ]
            have t226 := there_below t219 hb222 l220
            have l227 := Nat.lt_of_lt_of_le l220 hb222.size
            have m228 := hB218.size
            have hne : wd0.heap.size ≠ wa216.heap.size := by omega
            refine wpAnyH_ready (rs := [12]) (by kernel_rfl) (by simp) ?_
            refine AllReadyH.cons rfl (fun KQ hK => ?_) AllReadyH.nil
            rw [if_pos (by rfl)]
            refine wp_store_mid _ _ _ rfl wd0.heap.size 0 fx rfl rfl (by rw [S1.out]; exact t226) (by rw [S1.out]; exact infoSty) O1.out ?_
            have r231 := World.rangeAt_setCells_same wa221 wd0.heap.size 0 fx.toList (by rw [show fx.toList.length = 55 by simpa using S1.out]; exact t226)
            have b233 := (below_setCells (B := 0) (w := wa221) (b := wd0.heap.size) (Nat.zero_le _) fx.toList 0 wa221 (Below.refl _ _)).size
            have hB230 := below_setCells (b := wd0.heap.size) m210 fx.toList 0 wa221 hB223
            have t232 := World.there_setCells t224 wd0.heap.size 0 fx.toList
            generalize wa221.setCells wd0.heap.size 0 fx.toList = wa229 at *
            refine hK.out _ _ hB230 (fun hB234 => ?_)
            clear hK KQ
            try simp only [Act.put, List.getElem_toArray, List.getElem_cons_zero, List.getElem_cons_succ]
            have l235 := Nat.lt_of_lt_of_le l227 b233
            have l236 := Nat.lt_of_lt_of_le l225 b233
            refine wpAnyH_ready (rs := [13]) (by kernel_rfl) (by simp) ?_
            refine AllReadyH.cons rfl (fun KQ hK => ?_) AllReadyH.nil
            rw [if_pos (by rfl)]
            refine wp_store_mid _ _ _ rfl wa216.heap.size 0 fx rfl rfl (by rw [S1.out]; exact t232) (by rw [S1.out]; exact infoSty) O1.out ?_
            have r239 := World.rangeAt_setCells_same wa229 wa216.heap.size 0 fx.toList (by rw [show fx.toList.length = 55 by simpa using S1.out]; exact t232)
            have b241 := (below_setCells (B := 0) (w := wa229) (b := wa216.heap.size) (Nat.zero_le _) fx.toList 0 wa229 (Below.refl _ _)).size
            have hB238 := below_setCells (b := wa216.heap.size) m228 fx.toList 0 wa229 hB234
            have t240 := World.rangeAt_setCells_apart r231 wa216.heap.size 0 fx.toList (Or.inl hne)
            have t245 := World.there_setCells t232 wa216.heap.size 0 fx.toList
            generalize wa229.setCells wa216.heap.size 0 fx.toList = wa237 at *
            refine hK.out _ _ hB238 (fun hB242 => ?_)
            clear hK KQ
            try simp only [Act.put, List.getElem_toArray, List.getElem_cons_zero, List.getElem_cons_succ]
            have l243 := Nat.lt_of_lt_of_le l235 b241
            have l244 := Nat.lt_of_lt_of_le l236 b241
            refine wpAnyH_done (by kernel_rfl) ?_ _
            go_wp2_with fail
            go_meet
            exact ⟨_, _, rfl, rfl, hB242, t240, r239, l243, l244⟩
          exact AllReadyH.nil
        refine AllReadyH.cons rfl (fun KQ hK => ?_) ?_
        · go_simp
          have hb247 := w1_below wa211
          have t249 := w1_there wa211
          have l250 := show wa211.heap.size < (W1 wa211).heap.size by simp
          change KQ _ (W1 wa211)
          generalize W1 wa211 = wa246 at hb247 t249 l250 ⊢
          refine hK.out _ _ (hB213.trans (hb247.mono hB213.size)) (fun hB248 => ?_)
          clear hK KQ
          try simp only [Act.put, List.setIfInBounds_toArray, List.set_cons_zero, List.set_cons_succ, List.getElem_toArray, List.getElem_cons_zero, List.getElem_cons_succ]
          have t251 := there_below t214 hb247 l215
          have l252 := Nat.lt_of_lt_of_le l215 hb247.size
          have m253 := hB213.size
          refine wpAnyH_ready (rs := [9]) (by kernel_rfl) (by simp) ?_
          refine AllReadyH.cons rfl (fun KQ hK => ?_) ?_
          · go_simp
            refine (C2.out _ hB248).mono ?_
            rintro e wa254 ⟨rfl, hb255⟩
            go_wp2_with fail
            refine hK.out _ _ (hB248.trans (hb255.mono hB248.size)) (fun hB256 => ?_)
            clear hK KQ
            try simp only [Act.put, List.setIfInBounds_toArray, List.set_cons_zero, List.set_cons_succ, List.getElem_toArray, List.getElem_cons_zero, List.getElem_cons_succ]
            have t257 := there_below t251 hb255 l252
            have l258 := Nat.lt_of_lt_of_le l252 hb255.size
            have t259 := there_below t249 hb255 l250
            have l260 := Nat.lt_of_lt_of_le l250 hb255.size
            have hne : wd0.heap.size ≠ wa211.heap.size := by omega
            refine wpAnyH_ready (rs := [12]) (by kernel_rfl) (by simp) ?_
            refine AllReadyH.cons rfl (fun KQ hK => ?_) AllReadyH.nil
            rw [if_pos (by rfl)]
            refine wp_store_mid _ _ _ rfl wd0.heap.size 0 fx rfl rfl (by rw [S1.out]; exact t257) (by rw [S1.out]; exact infoSty) O1.out ?_
            have r263 := World.rangeAt_setCells_same wa254 wd0.heap.size 0 fx.toList (by rw [show fx.toList.length = 55 by simpa using S1.out]; exact t257)
            have b265 := (below_setCells (B := 0) (w := wa254) (b := wd0.heap.size) (Nat.zero_le _) fx.toList 0 wa254 (Below.refl _ _)).size
            have hB262 := below_setCells (b := wd0.heap.size) m210 fx.toList 0 wa254 hB256
            have t264 := World.there_setCells t259 wd0.heap.size 0 fx.toList
            generalize wa254.setCells wd0.heap.size 0 fx.toList = wa261 at *
            refine hK.out _ _ hB262 (fun hB266 => ?_)
            clear hK KQ
            try simp only [Act.put, List.getElem_toArray, List.getElem_cons_zero, List.getElem_cons_succ]
            have l267 := Nat.lt_of_lt_of_le l258 b265
            have l268 := Nat.lt_of_lt_of_le l260 b265
            refine wpAnyH_ready (rs := [13]) (by kernel_rfl) (by simp) ?_
            refine AllReadyH.cons rfl (fun KQ hK => ?_) AllReadyH.nil
            rw [if_pos (by rfl)]
            refine wp_store_mid _ _ _ rfl wa211.heap.size 0 fx rfl rfl (by rw [S1.out]; exact t264) (by rw [S1.out]; exact infoSty) O1.out ?_
            have r271 := World.rangeAt_setCells_same wa261 wa211.heap.size 0 fx.toList (by rw [show fx.toList.length = 55 by simpa using S1.out]; exact t264)
            have b273 := (below_setCells (B := 0) (w := wa261) (b := wa211.heap.size) (Nat.zero_le _) fx.toList 0 wa261 (Below.refl _ _)).size
            have hB270 := below_setCells (b := wa211.heap.size) m253 fx.toList 0 wa261 hB266
            have t272 := World.rangeAt_setCells_apart r263 wa211.heap.size 0 fx.toList (Or.inl hne)
            have t277 := World.there_setCells t264 wa211.heap.size 0 fx.toList
            generalize wa261.setCells wa211.heap.size 0 fx.toList = wa269 at *
            refine hK.out _ _ hB270 (fun hB274 => ?_)
            clear hK KQ
            try simp only [Act.put, List.getElem_toArray, List.getElem_cons_zero, List.getElem_cons_succ]
            have l275 := Nat.lt_of_lt_of_le l267 b273
            have l276 := Nat.lt_of_lt_of_le l268 b273
            refine wpAnyH_done (by kernel_rfl) ?_ _
            go_wp2_with fail
            go_meet
            exact ⟨_, _, rfl, rfl, hB274, t272, r271, l275, l276⟩
          exact AllReadyH.nil
        exact AllReadyH.nil
      refine AllReadyH.cons rfl (fun KQ hK => ?_) ?_
      · go_simp
        have hb279 := w1_below wa205
        have t281 := w1_there wa205
        have l282 := show wa205.heap.size < (W1 wa205).heap.size by simp
        change KQ _ (W1 wa205)
        generalize W1 wa205 = wa278 at hb279 t281 l282 ⊢
        refine hK.out _ _ (hB207.trans (hb279.mono hB207.size)) (fun hB280 => ?_)
        clear hK KQ
        try simp only [Act.put, List.setIfInBounds_toArray, List.set_cons_zero, List.set_cons_succ, List.getElem_toArray, List.getElem_cons_zero, List.getElem_cons_succ]
        have t283 := there_below t208 hb279 l209
        have l284 := Nat.lt_of_lt_of_le l209 hb279.size
        have m285 := hB207.size
        refine wpAnyH_ready (rs := [4]) (by kernel_rfl) (by simp) ?_
        refine AllReadyH.cons rfl (fun KQ hK => ?_) ?_
        · go_simp
          refine (C1.out _ hB280).mono ?_
          rintro e wa286 ⟨rfl, hb287⟩
          go_wp2_with fail
          refine hK.out _ _ (hB280.trans (hb287.mono hB280.size)) (fun hB288 => ?_)
          clear hK KQ
          try simp only [Act.put, List.setIfInBounds_toArray, List.set_cons_zero, List.set_cons_succ, List.getElem_toArray, List.getElem_cons_zero, List.getElem_cons_succ]
          have t289 := there_below t283 hb287 l284
          have l290 := Nat.lt_of_lt_of_le l284 hb287.size
          have t291 := there_below t281 hb287 l282
          have l292 := Nat.lt_of_lt_of_le l282 hb287.size
          refine wpAnyH_ready (rs := [9]) (by kernel_rfl) (by simp) ?_
          refine AllReadyH.cons rfl (fun KQ hK => ?_) ?_
          · go_simp
            refine (C2.out _ hB288).mono ?_
            rintro e wa293 ⟨rfl, hb294⟩
            go_wp2_with fail
            refine hK.out _ _ (hB288.trans (hb294.mono hB288.size)) (fun hB295 => ?_)
            clear hK KQ
            try simp only [Act.put, List.setIfInBounds_toArray, List.set_cons_zero, List.set_cons_succ, List.getElem_toArray, List.getElem_cons_zero, List.getElem_cons_succ]
            have t296 := there_below t289 hb294 l290
            have l297 := Nat.lt_of_lt_of_le l290 hb294.size
            have t298 := there_below t291 hb294 l292
            have l299 := Nat.lt_of_lt_of_le l292 hb294.size
            have hne : wd0.heap.size ≠ wa205.heap.size := by omega
            refine wpAnyH_ready (rs := [12]) (by kernel_rfl) (by simp) ?_
            refine AllReadyH.cons rfl (fun KQ hK => ?_) AllReadyH.nil
            rw [if_pos (by rfl)]
            refine wp_store_mid _ _ _ rfl wd0.heap.size 0 fx rfl rfl (by rw [S1.out]; exact t296) (by rw [S1.out]; exact infoSty) O1.out ?_
            have r302 := World.rangeAt_setCells_same wa293 wd0.heap.size 0 fx.toList (by rw [show fx.toList.length = 55 by simpa using S1.out]; exact t296)
            have b304 := (below_setCells (B := 0) (w := wa293) (b := wd0.heap.size) (Nat.zero_le _) fx.toList 0 wa293 (Below.refl _ _)).size
            have hB301 := below_setCells (b := wd0.heap.size) m210 fx.toList 0 wa293 hB295
            have t303 := World.there_setCells t298 wd0.heap.size 0 fx.toList
            generalize wa293.setCells wd0.heap.size 0 fx.toList = wa300 at *
            refine hK.out _ _ hB301 (fun hB305 => ?_)
            clear hK KQ
            try simp only [Act.put, List.getElem_toArray, List.getElem_cons_zero, List.getElem_cons_succ]
            have l306 := Nat.lt_of_lt_of_le l297 b304
            have l307 := Nat.lt_of_lt_of_le l299 b304
            refine wpAnyH_ready (rs := [13]) (by kernel_rfl) (by simp) ?_
            refine AllReadyH.cons rfl (fun KQ hK => ?_) AllReadyH.nil
            rw [if_pos (by rfl)]
            refine wp_store_mid _ _ _ rfl wa205.heap.size 0 fx rfl rfl (by rw [S1.out]; exact t303) (by rw [S1.out]; exact infoSty) O1.out ?_
            have r310 := World.rangeAt_setCells_same wa300 wa205.heap.size 0 fx.toList (by rw [show fx.toList.length = 55 by simpa using S1.out]; exact t303)
            have b312 := (below_setCells (B := 0) (w := wa300) (b := wa205.heap.size) (Nat.zero_le _) fx.toList 0 wa300 (Below.refl _ _)).size
            have hB309 := below_setCells (b := wa205.heap.size) m285 fx.toList 0 wa300 hB305
            have t311 := World.rangeAt_setCells_apart r302 wa205.heap.size 0 fx.toList (Or.inl hne)
            have t316 := World.there_setCells t303 wa205.heap.size 0 fx.toList
            generalize wa300.setCells wa205.heap.size 0 fx.toList = wa308 at *
            refine hK.out _ _ hB309 (fun hB313 => ?_)
            clear hK KQ
            try simp only [Act.put, List.getElem_toArray, List.getElem_cons_zero, List.getElem_cons_succ]
            have l314 := Nat.lt_of_lt_of_le l306 b312
            have l315 := Nat.lt_of_lt_of_le l307 b312
            refine wpAnyH_done (by kernel_rfl) ?_ _
            go_wp2_with fail
            go_meet
            exact ⟨_, _, rfl, rfl, hB313, t311, r310, l314, l315⟩
          exact AllReadyH.nil
        exact AllReadyH.nil
      exact AllReadyH.nil
    refine AllReadyH.cons rfl (fun KQ hK => ?_) ?_
    · go_simp
      have hb318 := w1_below wd0
      have t320 := w1_there wd0
      have l321 := show wd0.heap.size < (W1 wd0).heap.size by simp
      change KQ _ (W1 wd0)
      generalize W1 wd0 = wa317 at hb318 t320 l321 ⊢
      refine hK.out _ _ (hS0.trans (hb318.mono hS0.size)) (fun hB319 => ?_)
      clear hK KQ
      try simp only [Act.put, List.setIfInBounds_toArray, List.set_cons_zero, List.set_cons_succ, List.getElem_toArray, List.getElem_cons_zero, List.getElem_cons_succ]
      have m322 := hS0.size
      refine wpAnyH_ready (rs := [4, 10]) (by kernel_rfl) (by simp) ?_
      refine AllReadyH.cons rfl (fun KQ hK => ?_) ?_
      · go_simp
        refine (C1.out _ hB319).mono ?_
        rintro e wa323 ⟨rfl, hb324⟩
        go_wp2_with fail
        refine hK.out _ _ (hB319.trans (hb324.mono hB319.size)) (fun hB325 => ?_)
        clear hK KQ
        try simp only [Act.put, List.setIfInBounds_toArray, List.set_cons_zero, List.set_cons_succ, List.getElem_toArray, List.getElem_cons_zero, List.getElem_cons_succ]
        have t326 := there_below t320 hb324 l321
        have l327 := Nat.lt_of_lt_of_le l321 hb324.size
        refine wpAnyH_ready (rs := [9, 10]) (by kernel_rfl) (by simp) ?_
        refine AllReadyH.cons rfl (fun KQ hK => ?_) ?_
        · go_simp
          refine (C2.out _ hB325).mono ?_
          rintro e wa328 ⟨rfl, hb329⟩
          go_wp2_with fail
          refine hK.out _ _ (hB325.trans (hb329.mono hB325.size)) (fun hB330 => ?_)
          clear hK KQ
          try simp only [Act.put, List.setIfInBounds_toArray, List.set_cons_zero, List.set_cons_succ, List.getElem_toArray, List.getElem_cons_zero, List.getElem_cons_succ]
          have t331 := there_below t326 hb329 l327
          have l332 := Nat.lt_of_lt_of_le l327 hb329.size
          refine wpAnyH_ready (rs := [10]) (by kernel_rfl) (by simp) ?_
          refine AllReadyH.cons rfl (fun KQ hK => ?_) ?_
          · go_simp
            have hb334 := w1_below wa328
            have t336 := w1_there wa328
            have l337 := show wa328.heap.size < (W1 wa328).heap.size by simp
            change KQ _ (W1 wa328)
            generalize W1 wa328 = wa333 at hb334 t336 l337 ⊢
            refine hK.out _ _ (hB330.trans (hb334.mono hB330.size)) (fun hB335 => ?_)
            clear hK KQ
            try simp only [Act.put, List.setIfInBounds_toArray, List.set_cons_zero, List.set_cons_succ, List.getElem_toArray, List.getElem_cons_zero, List.getElem_cons_succ]
            have t338 := there_below t331 hb334 l332
            have l339 := Nat.lt_of_lt_of_le l332 hb334.size
            have m340 := hB330.size
            have hne : wa328.heap.size ≠ wd0.heap.size := by omega
            refine wpAnyH_ready (rs := [12]) (by kernel_rfl) (by simp) ?_
            refine AllReadyH.cons rfl (fun KQ hK => ?_) AllReadyH.nil
            rw [if_pos (by rfl)]
            refine wp_store_mid _ _ _ rfl wa328.heap.size 0 fx rfl rfl (by rw [S1.out]; exact t336) (by rw [S1.out]; exact infoSty) O1.out ?_
            have r343 := World.rangeAt_setCells_same wa333 wa328.heap.size 0 fx.toList (by rw [show fx.toList.length = 55 by simpa using S1.out]; exact t336)
            have b345 := (below_setCells (B := 0) (w := wa333) (b := wa328.heap.size) (Nat.zero_le _) fx.toList 0 wa333 (Below.refl _ _)).size
            have hB342 := below_setCells (b := wa328.heap.size) m340 fx.toList 0 wa333 hB335
            have t344 := World.there_setCells t338 wa328.heap.size 0 fx.toList
            generalize wa333.setCells wa328.heap.size 0 fx.toList = wa341 at *
            refine hK.out _ _ hB342 (fun hB346 => ?_)
            clear hK KQ
            try simp only [Act.put, List.getElem_toArray, List.getElem_cons_zero, List.getElem_cons_succ]
            have l347 := Nat.lt_of_lt_of_le l337 b345
            have l348 := Nat.lt_of_lt_of_le l339 b345
            refine wpAnyH_ready (rs := [13]) (by kernel_rfl) (by simp) ?_
            refine AllReadyH.cons rfl (fun KQ hK => ?_) AllReadyH.nil
            rw [if_pos (by rfl)]
            refine wp_store_mid _ _ _ rfl wd0.heap.size 0 fx rfl rfl (by rw [S1.out]; exact t344) (by rw [S1.out]; exact infoSty) O1.out ?_
            have r351 := World.rangeAt_setCells_same wa341 wd0.heap.size 0 fx.toList (by rw [show fx.toList.length = 55 by simpa using S1.out]; exact t344)
            have b353 := (below_setCells (B := 0) (w := wa341) (b := wd0.heap.size) (Nat.zero_le _) fx.toList 0 wa341 (Below.refl _ _)).size
            have hB350 := below_setCells (b := wd0.heap.size) m322 fx.toList 0 wa341 hB346
            have t352 := World.rangeAt_setCells_apart r343 wd0.heap.size 0 fx.toList (Or.inl hne)
            have t357 := World.there_setCells t344 wd0.heap.size 0 fx.toList
            generalize wa341.setCells wd0.heap.size 0 fx.toList = wa349 at *
            refine hK.out _ _ hB350 (fun hB354 => ?_)
            clear hK KQ
            try simp only [Act.put, List.getElem_toArray, List.getElem_cons_zero, List.getElem_cons_succ]
            have l355 := Nat.lt_of_lt_of_le l347 b353
            have l356 := Nat.lt_of_lt_of_le l348 b353
            refine wpAnyH_done (by kernel_rfl) ?_ _
            go_wp2_with fail
            go_meet
            exact ⟨_, _, rfl, rfl, hB354, t352, r351, l355, l356⟩
          exact AllReadyH.nil
        refine AllReadyH.cons rfl (fun KQ hK => ?_) ?_
        · go_simp
          have hb359 := w1_below wa323
          have t361 := w1_there wa323
          have l362 := show wa323.heap.size < (W1 wa323).heap.size by simp
          change KQ _ (W1 wa323)
          generalize W1 wa323 = wa358 at hb359 t361 l362 ⊢
          refine hK.out _ _ (hB325.trans (hb359.mono hB325.size)) (fun hB360 => ?_)
          clear hK KQ
          try simp only [Act.put, List.setIfInBounds_toArray, List.set_cons_zero, List.set_cons_succ, List.getElem_toArray, List.getElem_cons_zero, List.getElem_cons_succ]
          have t363 := there_below t326 hb359 l327
          have l364 := Nat.lt_of_lt_of_le l327 hb359.size
          have m365 := hB325.size
          refine wpAnyH_ready (rs := [9]) (by kernel_rfl) (by simp) ?_
          refine AllReadyH.cons rfl (fun KQ hK => ?_) ?_
          · go_simp
            refine (C2.out _ hB360).mono ?_
            rintro e wa366 ⟨rfl, hb367⟩
            go_wp2_with fail
            refine hK.out _ _ (hB360.trans (hb367.mono hB360.size)) (fun hB368 => ?_)
            clear hK KQ
            try simp only [Act.put, List.setIfInBounds_toArray, List.set_cons_zero, List.set_cons_succ, List.getElem_toArray, List.getElem_cons_zero, List.getElem_cons_succ]
            have t369 := there_below t363 hb367 l364
            have l370 := Nat.lt_of_lt_of_le l364 hb367.size
            have t371 := there_below t361 hb367 l362
            have l372 := Nat.lt_of_lt_of_le l362 hb367.size
            have hne : wa323.heap.size ≠ wd0.heap.size := by omega
            refine wpAnyH_ready (rs := [12]) (by kernel_rfl) (by simp) ?_
            refine AllReadyH.cons rfl (fun KQ hK => ?_) AllReadyH.nil
            rw [if_pos (by rfl)]
            refine wp_store_mid _ _ _ rfl wa323.heap.size 0 fx rfl rfl (by rw [S1.out]; exact t371) (by rw [S1.out]; exact infoSty) O1.out ?_
            have r375 := World.rangeAt_setCells_same wa366 wa323.heap.size 0 fx.toList (by rw [show fx.toList.length = 55 by simpa using S1.out]; exact t371)
            have b377 := (below_setCells (B := 0) (w := wa366) (b := wa323.heap.size) (Nat.zero_le _) fx.toList 0 wa366 (Below.refl _ _)).size
            have hB374 := below_setCells (b := wa323.heap.size) m365 fx.toList 0 wa366 hB368
            have t376 := World.there_setCells t369 wa323.heap.size 0 fx.toList
            generalize wa366.setCells wa323.heap.size 0 fx.toList = wa373 at *
            refine hK.out _ _ hB374 (fun hB378 => ?_)
            clear hK KQ
            try simp only [Act.put, List.getElem_toArray, List.getElem_cons_zero, List.getElem_cons_succ]
            have l379 := Nat.lt_of_lt_of_le l372 b377
            have l380 := Nat.lt_of_lt_of_le l370 b377
            refine wpAnyH_ready (rs := [13]) (by kernel_rfl) (by simp) ?_
            refine AllReadyH.cons rfl (fun KQ hK => ?_) AllReadyH.nil
            rw [if_pos (by rfl)]
            refine wp_store_mid _ _ _ rfl wd0.heap.size 0 fx rfl rfl (by rw [S1.out]; exact t376) (by rw [S1.out]; exact infoSty) O1.out ?_
            have r383 := World.rangeAt_setCells_same wa373 wd0.heap.size 0 fx.toList (by rw [show fx.toList.length = 55 by simpa using S1.out]; exact t376)
            have b385 := (below_setCells (B := 0) (w := wa373) (b := wd0.heap.size) (Nat.zero_le _) fx.toList 0 wa373 (Below.refl _ _)).size
            have hB382 := below_setCells (b := wd0.heap.size) m322 fx.toList 0 wa373 hB378
            have t384 := World.rangeAt_setCells_apart r375 wd0.heap.size 0 fx.toList (Or.inl hne)
            have t389 := World.there_setCells t376 wd0.heap.size 0 fx.toList
            generalize wa373.setCells wd0.heap.size 0 fx.toList = wa381 at *
            refine hK.out _ _ hB382 (fun hB386 => ?_)
            clear hK KQ
            try simp only [Act.put, List.getElem_toArray, List.getElem_cons_zero, List.getElem_cons_succ]
            have l387 := Nat.lt_of_lt_of_le l379 b385
            have l388 := Nat.lt_of_lt_of_le l380 b385
            refine wpAnyH_done (by kernel_rfl) ?_ _
            go_wp2_with fail
            go_meet
            exact ⟨_, _, rfl, rfl, hB386, t384, r383, l387, l388⟩
          exact AllReadyH.nil
        exact AllReadyH.nil
      refine AllReadyH.cons rfl (fun KQ hK => ?_) ?_
      · go_simp
        have hb391 := w1_below wa317
        have t393 := w1_there wa317
        have l394 := show wa317.heap.size < (W1 wa317).heap.size by simp
        change KQ _ (W1 wa317)
        generalize W1 wa317 = wa390 at hb391 t393 l394 ⊢
        refine hK.out _ _ (hB319.trans (hb391.mono hB319.size)) (fun hB392 => ?_)
        clear hK KQ
        try simp only [Act.put, List.setIfInBounds_toArray, List.set_cons_zero, List.set_cons_succ, List.getElem_toArray, List.getElem_cons_zero, List.getElem_cons_succ]
        have t395 := there_below t320 hb391 l321
        have l396 := Nat.lt_of_lt_of_le l321 hb391.size
        have m397 := hB319.size
        refine wpAnyH_ready (rs := [4]) (by kernel_rfl) (by simp) ?_
        refine AllReadyH.cons rfl (fun KQ hK => ?_) ?_
        · go_simp
          refine (C1.out _ hB392).mono ?_
          rintro e wa398 ⟨rfl, hb399⟩
          go_wp2_with fail
          refine hK.out _ _ (hB392.trans (hb399.mono hB392.size)) (fun hB400 => ?_)
          clear hK KQ
          try simp only [Act.put, List.setIfInBounds_toArray, List.set_cons_zero, List.set_cons_succ, List.getElem_toArray, List.getElem_cons_zero, List.getElem_cons_succ]
          have t401 := there_below t395 hb399 l396
          have l402 := Nat.lt_of_lt_of_le l396 hb399.size
          have t403 := there_below t393 hb399 l394
          have l404 := Nat.lt_of_lt_of_le l394 hb399.size
          refine wpAnyH_ready (rs := [9]) (by kernel_rfl) (by simp) ?_
          refine AllReadyH.cons rfl (fun KQ hK => ?_) ?_
          · go_simp
            refine (C2.out _ hB400).mono ?_
            rintro e wa405 ⟨rfl, hb406⟩
            go_wp2_with fail
            refine hK.out _ _ (hB400.trans (hb406.mono hB400.size)) (fun hB407 => ?_)
            clear hK KQ
            try simp only [Act.put, List.setIfInBounds_toArray, List.set_cons_zero, List.set_cons_succ, List.getElem_toArray, List.getElem_cons_zero, List.getElem_cons_succ]
            have t408 := there_below t401 hb406 l402
            have l409 := Nat.lt_of_lt_of_le l402 hb406.size
            have t410 := there_below t403 hb406 l404
            have l411 := Nat.lt_of_lt_of_le l404 hb406.size
            have hne : wa317.heap.size ≠ wd0.heap.size := by omega
            refine wpAnyH_ready (rs := [12]) (by kernel_rfl) (by simp) ?_
            refine AllReadyH.cons rfl (fun KQ hK => ?_) AllReadyH.nil
            rw [if_pos (by rfl)]
            refine wp_store_mid _ _ _ rfl wa317.heap.size 0 fx rfl rfl (by rw [S1.out]; exact t410) (by rw [S1.out]; exact infoSty) O1.out ?_
            have r414 := World.rangeAt_setCells_same wa405 wa317.heap.size 0 fx.toList (by rw [show fx.toList.length = 55 by simpa using S1.out]; exact t410)
            have b416 := (below_setCells (B := 0) (w := wa405) (b := wa317.heap.size) (Nat.zero_le _) fx.toList 0 wa405 (Below.refl _ _)).size
            have hB413 := below_setCells (b := wa317.heap.size) m397 fx.toList 0 wa405 hB407
            have t415 := World.there_setCells t408 wa317.heap.size 0 fx.toList
            generalize wa405.setCells wa317.heap.size 0 fx.toList = wa412 at *
            refine hK.out _ _ hB413 (fun hB417 => ?_)
            clear hK KQ
            try simp only [Act.put, List.getElem_toArray, List.getElem_cons_zero, List.getElem_cons_succ]
            have l418 := Nat.lt_of_lt_of_le l411 b416
            have l419 := Nat.lt_of_lt_of_le l409 b416
            refine wpAnyH_ready (rs := [13]) (by kernel_rfl) (by simp) ?_
            refine AllReadyH.cons rfl (fun KQ hK => ?_) AllReadyH.nil
            rw [if_pos (by rfl)]
            refine wp_store_mid _ _ _ rfl wd0.heap.size 0 fx rfl rfl (by rw [S1.out]; exact t415) (by rw [S1.out]; exact infoSty) O1.out ?_
            have r422 := World.rangeAt_setCells_same wa412 wd0.heap.size 0 fx.toList (by rw [show fx.toList.length = 55 by simpa using S1.out]; exact t415)
            have b424 := (below_setCells (B := 0) (w := wa412) (b := wd0.heap.size) (Nat.zero_le _) fx.toList 0 wa412 (Below.refl _ _)).size
            have hB421 := below_setCells (b := wd0.heap.size) m322 fx.toList 0 wa412 hB417
            have t423 := World.rangeAt_setCells_apart r414 wd0.heap.size 0 fx.toList (Or.inl hne)
            have t428 := World.there_setCells t415 wd0.heap.size 0 fx.toList
            generalize wa412.setCells wd0.heap.size 0 fx.toList = wa420 at *
            refine hK.out _ _ hB421 (fun hB425 => ?_)
            clear hK KQ
            try simp only [Act.put, List.getElem_toArray, List.getElem_cons_zero, List.getElem_cons_succ]
            have l426 := Nat.lt_of_lt_of_le l418 b424
            have l427 := Nat.lt_of_lt_of_le l419 b424
            refine wpAnyH_done (by kernel_rfl) ?_ _
            go_wp2_with fail
            go_meet
            exact ⟨_, _, rfl, rfl, hB425, t423, r422, l426, l427⟩
          exact AllReadyH.nil
        exact AllReadyH.nil
      exact AllReadyH.nil
    exact AllReadyH.nil
  case rest =>
    obtain ⟨h1, h2, rfl, rfl, hBc, r1, r2, l1, l2⟩ := hcut
    have C3 := Lib.hid (fun ww (hb : Below wc.heap.size wc ww) => C3.out ww (hBc.trans (hb.mono hBc.size)))
    have C4 := Lib.hid (fun ww (hb : Below wc.heap.size wc ww) => C4.out ww (hBc.trans (hb.mono hBc.size)))
    have ST := Lib.hid (fun ww (hb : Below wc.heap.size wc ww) => ST.out ww (hBc.trans (hb.mono hBc.size)))
    have K := Lib.hid (fun ww (hb : Below wc.heap.size wc ww) => K.out ww (hBc.trans (hb.mono hBc.size)))
    have HW := Lib.hid (fun ww (hb : Below wc.heap.size wc ww) => HW.out ww (hBc.trans (hb.mono hBc.size)))
    have RA := Lib.hid (fun ww (hb : Below wc.heap.size wc ww) => rangeAt_below r1 hb l1)
    have RB := Lib.hid (fun ww (hb : Below wc.heap.size wc ww) => rangeAt_below r2 hb l2)
    clear C1 C2 r1 r2 hBc
    generalize hwx : wc = wx at *
    clear hwx wc
    go_upto_region 13 with fail
    go_cut [17, 18] (fun s17 s18 wy => ∃ h3 h4, s17 = .pointer (some ⟨h3, 0, none⟩) ∧ s18 = .pointer (some ⟨h4, 0, none⟩) ∧ Below wx.heap.size wx wy ∧ wy.rangeAt h3 0 fu.toList ∧ wy.rangeAt h4 0 fv.toList ∧ h3 < wy.heap.size ∧ h4 < wy.heap.size)
    case first =>
      have eq1 : st.toList.toArray = st := by simp
      refine wp_region_held_drew (S := Below wx.heap.size wx) (by kernel_rfl) (Below.refl _ _).drew (fun hS0 => ?_)
      generalize wx.drew = wd0 at *
      refine wpAnyH_take (i := 0) (v := .slice (some ⟨g3, 0, none⟩) l.length c3) rfl (by kernel_rfl) (by kernel_rfl) (by kernel_rfl) (fun _ _ _ h => h) (Or.inl ⟨by rfl, fun _ _ => by rfl⟩) (by assumption) ?_
      try simp only [Act.put, List.setIfInBounds_toArray, List.set_cons_zero, List.set_cons_succ, List.getElem_toArray, List.getElem_cons_zero]
      refine wpAnyH_take (i := 2) (v := .int .i64 wd) rfl (by kernel_rfl) (by kernel_rfl) (by kernel_rfl) (fun _ _ _ h => h) (Or.inl ⟨by rfl, fun _ _ => by rfl⟩) (by assumption) ?_
      try simp only [Act.put, List.setIfInBounds_toArray, List.set_cons_zero, List.set_cons_succ, List.getElem_toArray, List.getElem_cons_zero, List.getElem_cons_succ]
      refine wpAnyH_take (i := 3) (v := .int .i64 ht) rfl (by kernel_rfl) (by kernel_rfl) (by kernel_rfl) (fun _ _ _ h => h) (Or.inl ⟨by rfl, fun _ _ => by rfl⟩) (by assumption) ?_
      try simp only [Act.put, List.setIfInBounds_toArray, List.set_cons_zero, List.set_cons_succ, List.getElem_toArray, List.getElem_cons_zero, List.getElem_cons_succ]
      refine wpAnyH_take (i := 5) (v := .slice (some ⟨g4, 0, none⟩) l.length c4) rfl (by kernel_rfl) (by kernel_rfl) (by kernel_rfl) (fun _ _ _ h => h) (Or.inl ⟨by rfl, fun _ _ => by rfl⟩) (by assumption) ?_
      try simp only [Act.put, List.setIfInBounds_toArray, List.set_cons_zero, List.set_cons_succ, List.getElem_toArray, List.getElem_cons_zero, List.getElem_cons_succ]
      refine wpAnyH_take (i := 7) (v := .int .i64 wd) rfl (by kernel_rfl) (by kernel_rfl) (by kernel_rfl) (fun _ _ _ h => h) (Or.inl ⟨by rfl, fun _ _ => by rfl⟩) (by assumption) ?_
      try simp only [Act.put, List.setIfInBounds_toArray, List.set_cons_zero, List.set_cons_succ, List.getElem_toArray, List.getElem_cons_zero, List.getElem_cons_succ]
      refine wpAnyH_take (i := 8) (v := .int .i64 ht) rfl (by kernel_rfl) (by kernel_rfl) (by kernel_rfl) (fun _ _ _ h => h) (Or.inl ⟨by rfl, fun _ _ => by rfl⟩) (by assumption) ?_
      try simp only [Act.put, List.setIfInBounds_toArray, List.set_cons_zero, List.set_cons_succ, List.getElem_toArray, List.getElem_cons_zero, List.getElem_cons_succ]
      refine wpAnyH_take (i := 1) rfl (by kernel_rfl) (by kernel_rfl) (by kernel_rfl) (fun _ _ _ h => h) (yieldsIf_load_mid (by rfl) 27 _ rfl w.heap.size 0 rfl st.toList _ (fun _ h => ST.out _ h) Tryd.underlying27 rfl hi1.out) (by assumption) ?_
      rw [eq1]
      try simp only [Act.put, List.setIfInBounds_toArray, List.set_cons_zero, List.set_cons_succ, List.getElem_toArray, List.getElem_cons_zero, List.getElem_cons_succ]
      refine wpAnyH_take (i := 6) rfl (by kernel_rfl) (by kernel_rfl) (by kernel_rfl) (fun _ _ _ h => h) (yieldsIf_load_mid (by rfl) 27 _ rfl w.heap.size 0 rfl st.toList _ (fun _ h => ST.out _ h) Tryd.underlying27 rfl hi1.out) (by assumption) ?_
      rw [eq1]
      try simp only [Act.put, List.setIfInBounds_toArray, List.set_cons_zero, List.set_cons_succ, List.getElem_toArray, List.getElem_cons_zero, List.getElem_cons_succ]
      refine wpAnyH_ready (rs := [4, 10, 11]) (by kernel_rfl) (by simp) ?_
      refine AllReadyH.cons rfl (fun KQ hK => ?_) ?_
      · go_simp
        refine (C3.out _ hS0).mono ?_
        rintro e wa1 ⟨rfl, hb2⟩
        go_wp2_with fail
        refine hK.out _ _ (hS0.trans (hb2.mono hS0.size)) (fun hB3 => ?_)
        clear hK KQ
        try simp only [Act.put, List.setIfInBounds_toArray, List.set_cons_zero, List.set_cons_succ, List.getElem_toArray, List.getElem_cons_zero, List.getElem_cons_succ]
        refine wpAnyH_ready (rs := [9, 10, 11]) (by kernel_rfl) (by simp) ?_
        refine AllReadyH.cons rfl (fun KQ hK => ?_) ?_
        · go_simp
          refine (C4.out _ hB3).mono ?_
          rintro e wa4 ⟨rfl, hb5⟩
          go_wp2_with fail
          refine hK.out _ _ (hB3.trans (hb5.mono hB3.size)) (fun hB6 => ?_)
          clear hK KQ
          try simp only [Act.put, List.setIfInBounds_toArray, List.set_cons_zero, List.set_cons_succ, List.getElem_toArray, List.getElem_cons_zero, List.getElem_cons_succ]
          refine wpAnyH_ready (rs := [10, 11]) (by kernel_rfl) (by simp) ?_
          refine AllReadyH.cons rfl (fun KQ hK => ?_) ?_
          · go_simp
            have hb8 := w1_below wa4
            have t10 := w1_there wa4
            have l11 := show wa4.heap.size < (W1 wa4).heap.size by simp
            change KQ _ (W1 wa4)
            generalize W1 wa4 = wa7 at hb8 t10 l11 ⊢
            refine hK.out _ _ (hB6.trans (hb8.mono hB6.size)) (fun hB9 => ?_)
            clear hK KQ
            try simp only [Act.put, List.setIfInBounds_toArray, List.set_cons_zero, List.set_cons_succ, List.getElem_toArray, List.getElem_cons_zero, List.getElem_cons_succ]
            have m12 := hB6.size
            refine wpAnyH_ready (rs := [11]) (by kernel_rfl) (by simp) ?_
            refine AllReadyH.cons rfl (fun KQ hK => ?_) ?_
            · go_simp
              have hb14 := w1_below wa7
              have t16 := w1_there wa7
              have l17 := show wa7.heap.size < (W1 wa7).heap.size by simp
              change KQ _ (W1 wa7)
              generalize W1 wa7 = wa13 at hb14 t16 l17 ⊢
              refine hK.out _ _ (hB9.trans (hb14.mono hB9.size)) (fun hB15 => ?_)
              clear hK KQ
              try simp only [Act.put, List.setIfInBounds_toArray, List.set_cons_zero, List.set_cons_succ, List.getElem_toArray, List.getElem_cons_zero, List.getElem_cons_succ]
              have t18 := there_below t10 hb14 l11
              have l19 := Nat.lt_of_lt_of_le l11 hb14.size
              have m20 := hB9.size
              have hne : wa4.heap.size ≠ wa7.heap.size := by omega
              refine wpAnyH_ready (rs := [12]) (by kernel_rfl) (by simp) ?_
              refine AllReadyH.cons rfl (fun KQ hK => ?_) AllReadyH.nil
              rw [if_pos (by rfl)]
              refine wp_store_mid _ _ _ rfl wa4.heap.size 0 fu rfl rfl (by rw [S3.out]; exact t18) (by rw [S3.out]; exact infoSty) O3.out ?_
              have r23 := World.rangeAt_setCells_same wa13 wa4.heap.size 0 fu.toList (by rw [show fu.toList.length = 55 by simpa using S3.out]; exact t18)
              have b25 := (below_setCells (B := 0) (w := wa13) (b := wa4.heap.size) (Nat.zero_le _) fu.toList 0 wa13 (Below.refl _ _)).size
              have hB22 := below_setCells (b := wa4.heap.size) m12 fu.toList 0 wa13 hB15
              have t24 := World.there_setCells t16 wa4.heap.size 0 fu.toList
              generalize wa13.setCells wa4.heap.size 0 fu.toList = wa21 at *
              refine hK.out _ _ hB22 (fun hB26 => ?_)
              clear hK KQ
              try simp only [Act.put, List.getElem_toArray, List.getElem_cons_zero, List.getElem_cons_succ]
              have l27 := Nat.lt_of_lt_of_le l19 b25
              have l28 := Nat.lt_of_lt_of_le l17 b25
              refine wpAnyH_ready (rs := [13]) (by kernel_rfl) (by simp) ?_
              refine AllReadyH.cons rfl (fun KQ hK => ?_) AllReadyH.nil
              rw [if_pos (by rfl)]
              refine wp_store_mid _ _ _ rfl wa7.heap.size 0 fv rfl rfl (by rw [S4.out]; exact t24) (by rw [S4.out]; exact infoSty) O4.out ?_
              have r31 := World.rangeAt_setCells_same wa21 wa7.heap.size 0 fv.toList (by rw [show fv.toList.length = 55 by simpa using S4.out]; exact t24)
              have b33 := (below_setCells (B := 0) (w := wa21) (b := wa7.heap.size) (Nat.zero_le _) fv.toList 0 wa21 (Below.refl _ _)).size
              have hB30 := below_setCells (b := wa7.heap.size) m20 fv.toList 0 wa21 hB26
              have t32 := World.rangeAt_setCells_apart r23 wa7.heap.size 0 fv.toList (Or.inl hne)
              have t37 := World.there_setCells t24 wa7.heap.size 0 fv.toList
              generalize wa21.setCells wa7.heap.size 0 fv.toList = wa29 at *
              refine hK.out _ _ hB30 (fun hB34 => ?_)
              clear hK KQ
              try simp only [Act.put, List.getElem_toArray, List.getElem_cons_zero, List.getElem_cons_succ]
              have l35 := Nat.lt_of_lt_of_le l27 b33
              have l36 := Nat.lt_of_lt_of_le l28 b33
              refine wpAnyH_done (by kernel_rfl) ?_ _
              go_wp2_with fail
              go_meet
              exact ⟨_, _, rfl, rfl, hB34, t32, r31, l35, l36⟩
            exact AllReadyH.nil
          refine AllReadyH.cons rfl (fun KQ hK => ?_) ?_
          · go_simp
            have hb39 := w1_below wa4
            have t41 := w1_there wa4
            have l42 := show wa4.heap.size < (W1 wa4).heap.size by simp
            change KQ _ (W1 wa4)
            generalize W1 wa4 = wa38 at hb39 t41 l42 ⊢
            refine hK.out _ _ (hB6.trans (hb39.mono hB6.size)) (fun hB40 => ?_)
            clear hK KQ
            try simp only [Act.put, List.setIfInBounds_toArray, List.set_cons_zero, List.set_cons_succ, List.getElem_toArray, List.getElem_cons_zero, List.getElem_cons_succ]
            have m43 := hB6.size
            refine wpAnyH_ready (rs := [10]) (by kernel_rfl) (by simp) ?_
            refine AllReadyH.cons rfl (fun KQ hK => ?_) ?_
            · go_simp
              have hb45 := w1_below wa38
              have t47 := w1_there wa38
              have l48 := show wa38.heap.size < (W1 wa38).heap.size by simp
              change KQ _ (W1 wa38)
              generalize W1 wa38 = wa44 at hb45 t47 l48 ⊢
              refine hK.out _ _ (hB40.trans (hb45.mono hB40.size)) (fun hB46 => ?_)
              clear hK KQ
              try simp only [Act.put, List.setIfInBounds_toArray, List.set_cons_zero, List.set_cons_succ, List.getElem_toArray, List.getElem_cons_zero, List.getElem_cons_succ]
              have t49 := there_below t41 hb45 l42
              have l50 := Nat.lt_of_lt_of_le l42 hb45.size
              have m51 := hB40.size
              have hne : wa38.heap.size ≠ wa4.heap.size := by omega
              refine wpAnyH_ready (rs := [12]) (by kernel_rfl) (by simp) ?_
              refine AllReadyH.cons rfl (fun KQ hK => ?_) AllReadyH.nil
              rw [if_pos (by rfl)]
              refine wp_store_mid _ _ _ rfl wa38.heap.size 0 fu rfl rfl (by rw [S3.out]; exact t47) (by rw [S3.out]; exact infoSty) O3.out ?_
              have r54 := World.rangeAt_setCells_same wa44 wa38.heap.size 0 fu.toList (by rw [show fu.toList.length = 55 by simpa using S3.out]; exact t47)
              have b56 := (below_setCells (B := 0) (w := wa44) (b := wa38.heap.size) (Nat.zero_le _) fu.toList 0 wa44 (Below.refl _ _)).size
              have hB53 := below_setCells (b := wa38.heap.size) m51 fu.toList 0 wa44 hB46
              have t55 := World.there_setCells t49 wa38.heap.size 0 fu.toList
              generalize wa44.setCells wa38.heap.size 0 fu.toList = wa52 at *
              refine hK.out _ _ hB53 (fun hB57 => ?_)
              clear hK KQ
              try simp only [Act.put, List.getElem_toArray, List.getElem_cons_zero, List.getElem_cons_succ]
              have l58 := Nat.lt_of_lt_of_le l48 b56
              have l59 := Nat.lt_of_lt_of_le l50 b56
              refine wpAnyH_ready (rs := [13]) (by kernel_rfl) (by simp) ?_
              refine AllReadyH.cons rfl (fun KQ hK => ?_) AllReadyH.nil
              rw [if_pos (by rfl)]
              refine wp_store_mid _ _ _ rfl wa4.heap.size 0 fv rfl rfl (by rw [S4.out]; exact t55) (by rw [S4.out]; exact infoSty) O4.out ?_
              have r62 := World.rangeAt_setCells_same wa52 wa4.heap.size 0 fv.toList (by rw [show fv.toList.length = 55 by simpa using S4.out]; exact t55)
              have b64 := (below_setCells (B := 0) (w := wa52) (b := wa4.heap.size) (Nat.zero_le _) fv.toList 0 wa52 (Below.refl _ _)).size
              have hB61 := below_setCells (b := wa4.heap.size) m43 fv.toList 0 wa52 hB57
              have t63 := World.rangeAt_setCells_apart r54 wa4.heap.size 0 fv.toList (Or.inl hne)
              have t68 := World.there_setCells t55 wa4.heap.size 0 fv.toList
              generalize wa52.setCells wa4.heap.size 0 fv.toList = wa60 at *
              refine hK.out _ _ hB61 (fun hB65 => ?_)
              clear hK KQ
              try simp only [Act.put, List.getElem_toArray, List.getElem_cons_zero, List.getElem_cons_succ]
              have l66 := Nat.lt_of_lt_of_le l58 b64
              have l67 := Nat.lt_of_lt_of_le l59 b64
              refine wpAnyH_done (by kernel_rfl) ?_ _
              go_wp2_with fail
              go_meet
              exact ⟨_, _, rfl, rfl, hB65, t63, r62, l66, l67⟩
            exact AllReadyH.nil
          exact AllReadyH.nil
        refine AllReadyH.cons rfl (fun KQ hK => ?_) ?_
        · go_simp
          have hb70 := w1_below wa1
          have t72 := w1_there wa1
          have l73 := show wa1.heap.size < (W1 wa1).heap.size by simp
          change KQ _ (W1 wa1)
          generalize W1 wa1 = wa69 at hb70 t72 l73 ⊢
          refine hK.out _ _ (hB3.trans (hb70.mono hB3.size)) (fun hB71 => ?_)
          clear hK KQ
          try simp only [Act.put, List.setIfInBounds_toArray, List.set_cons_zero, List.set_cons_succ, List.getElem_toArray, List.getElem_cons_zero, List.getElem_cons_succ]
          have m74 := hB3.size
          refine wpAnyH_ready (rs := [9, 11]) (by kernel_rfl) (by simp) ?_
          refine AllReadyH.cons rfl (fun KQ hK => ?_) ?_
          · go_simp
            refine (C4.out _ hB71).mono ?_
            rintro e wa75 ⟨rfl, hb76⟩
            go_wp2_with fail
            refine hK.out _ _ (hB71.trans (hb76.mono hB71.size)) (fun hB77 => ?_)
            clear hK KQ
            try simp only [Act.put, List.setIfInBounds_toArray, List.set_cons_zero, List.set_cons_succ, List.getElem_toArray, List.getElem_cons_zero, List.getElem_cons_succ]
            have t78 := there_below t72 hb76 l73
            have l79 := Nat.lt_of_lt_of_le l73 hb76.size
            refine wpAnyH_ready (rs := [11]) (by kernel_rfl) (by simp) ?_
            refine AllReadyH.cons rfl (fun KQ hK => ?_) ?_
            · go_simp
              have hb81 := w1_below wa75
              have t83 := w1_there wa75
              have l84 := show wa75.heap.size < (W1 wa75).heap.size by simp
              change KQ _ (W1 wa75)
              generalize W1 wa75 = wa80 at hb81 t83 l84 ⊢
              refine hK.out _ _ (hB77.trans (hb81.mono hB77.size)) (fun hB82 => ?_)
              clear hK KQ
              try simp only [Act.put, List.setIfInBounds_toArray, List.set_cons_zero, List.set_cons_succ, List.getElem_toArray, List.getElem_cons_zero, List.getElem_cons_succ]
              have t85 := there_below t78 hb81 l79
              have l86 := Nat.lt_of_lt_of_le l79 hb81.size
              have m87 := hB77.size
              have hne : wa1.heap.size ≠ wa75.heap.size := by omega
              refine wpAnyH_ready (rs := [12]) (by kernel_rfl) (by simp) ?_
              refine AllReadyH.cons rfl (fun KQ hK => ?_) AllReadyH.nil
              rw [if_pos (by rfl)]
              refine wp_store_mid _ _ _ rfl wa1.heap.size 0 fu rfl rfl (by rw [S3.out]; exact t85) (by rw [S3.out]; exact infoSty) O3.out ?_
              have r90 := World.rangeAt_setCells_same wa80 wa1.heap.size 0 fu.toList (by rw [show fu.toList.length = 55 by simpa using S3.out]; exact t85)
              have b92 := (below_setCells (B := 0) (w := wa80) (b := wa1.heap.size) (Nat.zero_le _) fu.toList 0 wa80 (Below.refl _ _)).size
              have hB89 := below_setCells (b := wa1.heap.size) m74 fu.toList 0 wa80 hB82
              have t91 := World.there_setCells t83 wa1.heap.size 0 fu.toList
              generalize wa80.setCells wa1.heap.size 0 fu.toList = wa88 at *
              refine hK.out _ _ hB89 (fun hB93 => ?_)
              clear hK KQ
              try simp only [Act.put, List.getElem_toArray, List.getElem_cons_zero, List.getElem_cons_succ]
              have l94 := Nat.lt_of_lt_of_le l86 b92
              have l95 := Nat.lt_of_lt_of_le l84 b92
              refine wpAnyH_ready (rs := [13]) (by kernel_rfl) (by simp) ?_
              refine AllReadyH.cons rfl (fun KQ hK => ?_) AllReadyH.nil
              rw [if_pos (by rfl)]
              refine wp_store_mid _ _ _ rfl wa75.heap.size 0 fv rfl rfl (by rw [S4.out]; exact t91) (by rw [S4.out]; exact infoSty) O4.out ?_
              have r98 := World.rangeAt_setCells_same wa88 wa75.heap.size 0 fv.toList (by rw [show fv.toList.length = 55 by simpa using S4.out]; exact t91)
              have b100 := (below_setCells (B := 0) (w := wa88) (b := wa75.heap.size) (Nat.zero_le _) fv.toList 0 wa88 (Below.refl _ _)).size
              have hB97 := below_setCells (b := wa75.heap.size) m87 fv.toList 0 wa88 hB93
              have t99 := World.rangeAt_setCells_apart r90 wa75.heap.size 0 fv.toList (Or.inl hne)
              have t104 := World.there_setCells t91 wa75.heap.size 0 fv.toList
              generalize wa88.setCells wa75.heap.size 0 fv.toList = wa96 at *
              refine hK.out _ _ hB97 (fun hB101 => ?_)
              clear hK KQ
              try simp only [Act.put, List.getElem_toArray, List.getElem_cons_zero, List.getElem_cons_succ]
              have l102 := Nat.lt_of_lt_of_le l94 b100
              have l103 := Nat.lt_of_lt_of_le l95 b100
              refine wpAnyH_done (by kernel_rfl) ?_ _
              go_wp2_with fail
              go_meet
              exact ⟨_, _, rfl, rfl, hB101, t99, r98, l102, l103⟩
            exact AllReadyH.nil
          refine AllReadyH.cons rfl (fun KQ hK => ?_) ?_
          · go_simp
            have hb106 := w1_below wa69
            have t108 := w1_there wa69
            have l109 := show wa69.heap.size < (W1 wa69).heap.size by simp
            change KQ _ (W1 wa69)
            generalize W1 wa69 = wa105 at hb106 t108 l109 ⊢
            refine hK.out _ _ (hB71.trans (hb106.mono hB71.size)) (fun hB107 => ?_)
            clear hK KQ
            try simp only [Act.put, List.setIfInBounds_toArray, List.set_cons_zero, List.set_cons_succ, List.getElem_toArray, List.getElem_cons_zero, List.getElem_cons_succ]
            have t110 := there_below t72 hb106 l73
            have l111 := Nat.lt_of_lt_of_le l73 hb106.size
            have m112 := hB71.size
            refine wpAnyH_ready (rs := [9]) (by kernel_rfl) (by simp) ?_
            refine AllReadyH.cons rfl (fun KQ hK => ?_) ?_
            · go_simp
              refine (C4.out _ hB107).mono ?_
              rintro e wa113 ⟨rfl, hb114⟩
              go_wp2_with fail
              refine hK.out _ _ (hB107.trans (hb114.mono hB107.size)) (fun hB115 => ?_)
              clear hK KQ
              try simp only [Act.put, List.setIfInBounds_toArray, List.set_cons_zero, List.set_cons_succ, List.getElem_toArray, List.getElem_cons_zero, List.getElem_cons_succ]
              have t116 := there_below t110 hb114 l111
              have l117 := Nat.lt_of_lt_of_le l111 hb114.size
              have t118 := there_below t108 hb114 l109
              have l119 := Nat.lt_of_lt_of_le l109 hb114.size
              have hne : wa1.heap.size ≠ wa69.heap.size := by omega
              refine wpAnyH_ready (rs := [12]) (by kernel_rfl) (by simp) ?_
              refine AllReadyH.cons rfl (fun KQ hK => ?_) AllReadyH.nil
              rw [if_pos (by rfl)]
              refine wp_store_mid _ _ _ rfl wa1.heap.size 0 fu rfl rfl (by rw [S3.out]; exact t116) (by rw [S3.out]; exact infoSty) O3.out ?_
              have r122 := World.rangeAt_setCells_same wa113 wa1.heap.size 0 fu.toList (by rw [show fu.toList.length = 55 by simpa using S3.out]; exact t116)
              have b124 := (below_setCells (B := 0) (w := wa113) (b := wa1.heap.size) (Nat.zero_le _) fu.toList 0 wa113 (Below.refl _ _)).size
              have hB121 := below_setCells (b := wa1.heap.size) m74 fu.toList 0 wa113 hB115
              have t123 := World.there_setCells t118 wa1.heap.size 0 fu.toList
              generalize wa113.setCells wa1.heap.size 0 fu.toList = wa120 at *
              refine hK.out _ _ hB121 (fun hB125 => ?_)
              clear hK KQ
              try simp only [Act.put, List.getElem_toArray, List.getElem_cons_zero, List.getElem_cons_succ]
              have l126 := Nat.lt_of_lt_of_le l117 b124
              have l127 := Nat.lt_of_lt_of_le l119 b124
              refine wpAnyH_ready (rs := [13]) (by kernel_rfl) (by simp) ?_
              refine AllReadyH.cons rfl (fun KQ hK => ?_) AllReadyH.nil
              rw [if_pos (by rfl)]
              refine wp_store_mid _ _ _ rfl wa69.heap.size 0 fv rfl rfl (by rw [S4.out]; exact t123) (by rw [S4.out]; exact infoSty) O4.out ?_
              have r130 := World.rangeAt_setCells_same wa120 wa69.heap.size 0 fv.toList (by rw [show fv.toList.length = 55 by simpa using S4.out]; exact t123)
              have b132 := (below_setCells (B := 0) (w := wa120) (b := wa69.heap.size) (Nat.zero_le _) fv.toList 0 wa120 (Below.refl _ _)).size
              have hB129 := below_setCells (b := wa69.heap.size) m112 fv.toList 0 wa120 hB125
              have t131 := World.rangeAt_setCells_apart r122 wa69.heap.size 0 fv.toList (Or.inl hne)
              have t136 := World.there_setCells t123 wa69.heap.size 0 fv.toList
              generalize wa120.setCells wa69.heap.size 0 fv.toList = wa128 at *
              refine hK.out _ _ hB129 (fun hB133 => ?_)
              clear hK KQ
              try simp only [Act.put, List.getElem_toArray, List.getElem_cons_zero, List.getElem_cons_succ]
              have l134 := Nat.lt_of_lt_of_le l126 b132
              have l135 := Nat.lt_of_lt_of_le l127 b132
              refine wpAnyH_done (by kernel_rfl) ?_ _
              go_wp2_with fail
              go_meet
              exact ⟨_, _, rfl, rfl, hB133, t131, r130, l134, l135⟩
            exact AllReadyH.nil
          exact AllReadyH.nil
        refine AllReadyH.cons rfl (fun KQ hK => ?_) ?_
        · go_simp
          have hb138 := w1_below wa1
          have t140 := w1_there wa1
          have l141 := show wa1.heap.size < (W1 wa1).heap.size by simp
          change KQ _ (W1 wa1)
          generalize W1 wa1 = wa137 at hb138 t140 l141 ⊢
          refine hK.out _ _ (hB3.trans (hb138.mono hB3.size)) (fun hB139 => ?_)
          clear hK KQ
          try simp only [Act.put, List.setIfInBounds_toArray, List.set_cons_zero, List.set_cons_succ, List.getElem_toArray, List.getElem_cons_zero, List.getElem_cons_succ]
          have m142 := hB3.size
          refine wpAnyH_ready (rs := [9, 10]) (by kernel_rfl) (by simp) ?_
          refine AllReadyH.cons rfl (fun KQ hK => ?_) ?_
          · go_simp
            refine (C4.out _ hB139).mono ?_
            rintro e wa143 ⟨rfl, hb144⟩
            go_wp2_with fail
            refine hK.out _ _ (hB139.trans (hb144.mono hB139.size)) (fun hB145 => ?_)
            clear hK KQ
            try simp only [Act.put, List.setIfInBounds_toArray, List.set_cons_zero, List.set_cons_succ, List.getElem_toArray, List.getElem_cons_zero, List.getElem_cons_succ]
            have t146 := there_below t140 hb144 l141
            have l147 := Nat.lt_of_lt_of_le l141 hb144.size
            refine wpAnyH_ready (rs := [10]) (by kernel_rfl) (by simp) ?_
            refine AllReadyH.cons rfl (fun KQ hK => ?_) ?_
            · go_simp
              have hb149 := w1_below wa143
              have t151 := w1_there wa143
              have l152 := show wa143.heap.size < (W1 wa143).heap.size by simp
              change KQ _ (W1 wa143)
              generalize W1 wa143 = wa148 at hb149 t151 l152 ⊢
              refine hK.out _ _ (hB145.trans (hb149.mono hB145.size)) (fun hB150 => ?_)
              clear hK KQ
              try simp only [Act.put, List.setIfInBounds_toArray, List.set_cons_zero, List.set_cons_succ, List.getElem_toArray, List.getElem_cons_zero, List.getElem_cons_succ]
              have t153 := there_below t146 hb149 l147
              have l154 := Nat.lt_of_lt_of_le l147 hb149.size
              have m155 := hB145.size
              have hne : wa143.heap.size ≠ wa1.heap.size := by omega
              refine wpAnyH_ready (rs := [12]) (by kernel_rfl) (by simp) ?_
              refine AllReadyH.cons rfl (fun KQ hK => ?_) AllReadyH.nil
              rw [if_pos (by rfl)]
              refine wp_store_mid _ _ _ rfl wa143.heap.size 0 fu rfl rfl (by rw [S3.out]; exact t151) (by rw [S3.out]; exact infoSty) O3.out ?_
              have r158 := World.rangeAt_setCells_same wa148 wa143.heap.size 0 fu.toList (by rw [show fu.toList.length = 55 by simpa using S3.out]; exact t151)
              have b160 := (below_setCells (B := 0) (w := wa148) (b := wa143.heap.size) (Nat.zero_le _) fu.toList 0 wa148 (Below.refl _ _)).size
              have hB157 := below_setCells (b := wa143.heap.size) m155 fu.toList 0 wa148 hB150
              have t159 := World.there_setCells t153 wa143.heap.size 0 fu.toList
              generalize wa148.setCells wa143.heap.size 0 fu.toList = wa156 at *
              refine hK.out _ _ hB157 (fun hB161 => ?_)
              clear hK KQ
              try simp only [Act.put, List.getElem_toArray, List.getElem_cons_zero, List.getElem_cons_succ]
              have l162 := Nat.lt_of_lt_of_le l152 b160
              have l163 := Nat.lt_of_lt_of_le l154 b160
              refine wpAnyH_ready (rs := [13]) (by kernel_rfl) (by simp) ?_
              refine AllReadyH.cons rfl (fun KQ hK => ?_) AllReadyH.nil
              rw [if_pos (by rfl)]
              refine wp_store_mid _ _ _ rfl wa1.heap.size 0 fv rfl rfl (by rw [S4.out]; exact t159) (by rw [S4.out]; exact infoSty) O4.out ?_
              have r166 := World.rangeAt_setCells_same wa156 wa1.heap.size 0 fv.toList (by rw [show fv.toList.length = 55 by simpa using S4.out]; exact t159)
              have b168 := (below_setCells (B := 0) (w := wa156) (b := wa1.heap.size) (Nat.zero_le _) fv.toList 0 wa156 (Below.refl _ _)).size
              have hB165 := below_setCells (b := wa1.heap.size) m142 fv.toList 0 wa156 hB161
              have t167 := World.rangeAt_setCells_apart r158 wa1.heap.size 0 fv.toList (Or.inl hne)
              have t172 := World.there_setCells t159 wa1.heap.size 0 fv.toList
              generalize wa156.setCells wa1.heap.size 0 fv.toList = wa164 at *
              refine hK.out _ _ hB165 (fun hB169 => ?_)
              clear hK KQ
              try simp only [Act.put, List.getElem_toArray, List.getElem_cons_zero, List.getElem_cons_succ]
              have l170 := Nat.lt_of_lt_of_le l162 b168
              have l171 := Nat.lt_of_lt_of_le l163 b168
              refine wpAnyH_done (by kernel_rfl) ?_ _
              go_wp2_with fail
              go_meet
              exact ⟨_, _, rfl, rfl, hB169, t167, r166, l170, l171⟩
            exact AllReadyH.nil
          refine AllReadyH.cons rfl (fun KQ hK => ?_) ?_
          · go_simp
            have hb174 := w1_below wa137
            have t176 := w1_there wa137
            have l177 := show wa137.heap.size < (W1 wa137).heap.size by simp
            change KQ _ (W1 wa137)
            generalize W1 wa137 = wa173 at hb174 t176 l177 ⊢
            refine hK.out _ _ (hB139.trans (hb174.mono hB139.size)) (fun hB175 => ?_)
            clear hK KQ
            try simp only [Act.put, List.setIfInBounds_toArray, List.set_cons_zero, List.set_cons_succ, List.getElem_toArray, List.getElem_cons_zero, List.getElem_cons_succ]
            have t178 := there_below t140 hb174 l141
            have l179 := Nat.lt_of_lt_of_le l141 hb174.size
            have m180 := hB139.size
            refine wpAnyH_ready (rs := [9]) (by kernel_rfl) (by simp) ?_
            refine AllReadyH.cons rfl (fun KQ hK => ?_) ?_
            · go_simp
              refine (C4.out _ hB175).mono ?_
              rintro e wa181 ⟨rfl, hb182⟩
              go_wp2_with fail
              refine hK.out _ _ (hB175.trans (hb182.mono hB175.size)) (fun hB183 => ?_)
              clear hK KQ
              try simp only [Act.put, List.setIfInBounds_toArray, List.set_cons_zero, List.set_cons_succ, List.getElem_toArray, List.getElem_cons_zero, List.getElem_cons_succ]
              have t184 := there_below t178 hb182 l179
              have l185 := Nat.lt_of_lt_of_le l179 hb182.size
              have t186 := there_below t176 hb182 l177
              have l187 := Nat.lt_of_lt_of_le l177 hb182.size
              have hne : wa137.heap.size ≠ wa1.heap.size := by omega
              refine wpAnyH_ready (rs := [12]) (by kernel_rfl) (by simp) ?_
              refine AllReadyH.cons rfl (fun KQ hK => ?_) AllReadyH.nil
              rw [if_pos (by rfl)]
              refine wp_store_mid _ _ _ rfl wa137.heap.size 0 fu rfl rfl (by rw [S3.out]; exact t186) (by rw [S3.out]; exact infoSty) O3.out ?_
              have r190 := World.rangeAt_setCells_same wa181 wa137.heap.size 0 fu.toList (by rw [show fu.toList.length = 55 by simpa using S3.out]; exact t186)
              have b192 := (below_setCells (B := 0) (w := wa181) (b := wa137.heap.size) (Nat.zero_le _) fu.toList 0 wa181 (Below.refl _ _)).size
              have hB189 := below_setCells (b := wa137.heap.size) m180 fu.toList 0 wa181 hB183
              have t191 := World.there_setCells t184 wa137.heap.size 0 fu.toList
              generalize wa181.setCells wa137.heap.size 0 fu.toList = wa188 at *
              refine hK.out _ _ hB189 (fun hB193 => ?_)
              clear hK KQ
              try simp only [Act.put, List.getElem_toArray, List.getElem_cons_zero, List.getElem_cons_succ]
              have l194 := Nat.lt_of_lt_of_le l187 b192
              have l195 := Nat.lt_of_lt_of_le l185 b192
              refine wpAnyH_ready (rs := [13]) (by kernel_rfl) (by simp) ?_
              refine AllReadyH.cons rfl (fun KQ hK => ?_) AllReadyH.nil
              rw [if_pos (by rfl)]
              refine wp_store_mid _ _ _ rfl wa1.heap.size 0 fv rfl rfl (by rw [S4.out]; exact t191) (by rw [S4.out]; exact infoSty) O4.out ?_
              have r198 := World.rangeAt_setCells_same wa188 wa1.heap.size 0 fv.toList (by rw [show fv.toList.length = 55 by simpa using S4.out]; exact t191)
              have b200 := (below_setCells (B := 0) (w := wa188) (b := wa1.heap.size) (Nat.zero_le _) fv.toList 0 wa188 (Below.refl _ _)).size
              have hB197 := below_setCells (b := wa1.heap.size) m142 fv.toList 0 wa188 hB193
              have t199 := World.rangeAt_setCells_apart r190 wa1.heap.size 0 fv.toList (Or.inl hne)
              have t204 := World.there_setCells t191 wa1.heap.size 0 fv.toList
              generalize wa188.setCells wa1.heap.size 0 fv.toList = wa196 at *
              refine hK.out _ _ hB197 (fun hB201 => ?_)
              clear hK KQ
              try simp only [Act.put, List.getElem_toArray, List.getElem_cons_zero, List.getElem_cons_succ]
              have l202 := Nat.lt_of_lt_of_le l194 b200
              have l203 := Nat.lt_of_lt_of_le l195 b200
              refine wpAnyH_done (by kernel_rfl) ?_ _
              go_wp2_with fail
              go_meet
              exact ⟨_, _, rfl, rfl, hB201, t199, r198, l202, l203⟩
            exact AllReadyH.nil
          exact AllReadyH.nil
        exact AllReadyH.nil
      refine AllReadyH.cons rfl (fun KQ hK => ?_) ?_
      · go_simp
        have hb206 := w1_below wd0
        have t208 := w1_there wd0
        have l209 := show wd0.heap.size < (W1 wd0).heap.size by simp
        change KQ _ (W1 wd0)
        generalize W1 wd0 = wa205 at hb206 t208 l209 ⊢
        refine hK.out _ _ (hS0.trans (hb206.mono hS0.size)) (fun hB207 => ?_)
        clear hK KQ
        try simp only [Act.put, List.setIfInBounds_toArray, List.set_cons_zero, List.set_cons_succ, List.getElem_toArray, List.getElem_cons_zero, List.getElem_cons_succ]
        have m210 := hS0.size
        refine wpAnyH_ready (rs := [4, 11]) (by kernel_rfl) (by simp) ?_
        refine AllReadyH.cons rfl (fun KQ hK => ?_) ?_
        · go_simp
          refine (C3.out _ hB207).mono ?_
          rintro e wa211 ⟨rfl, hb212⟩
          go_wp2_with fail
          refine hK.out _ _ (hB207.trans (hb212.mono hB207.size)) (fun hB213 => ?_)
          clear hK KQ
          try simp only [Act.put, List.setIfInBounds_toArray, List.set_cons_zero, List.set_cons_succ, List.getElem_toArray, List.getElem_cons_zero, List.getElem_cons_succ]
          have t214 := there_below t208 hb212 l209
          have l215 := Nat.lt_of_lt_of_le l209 hb212.size
          refine wpAnyH_ready (rs := [9, 11]) (by kernel_rfl) (by simp) ?_
          refine AllReadyH.cons rfl (fun KQ hK => ?_) ?_
          · go_simp
            refine (C4.out _ hB213).mono ?_
            rintro e wa216 ⟨rfl, hb217⟩
            go_wp2_with fail
            refine hK.out _ _ (hB213.trans (hb217.mono hB213.size)) (fun hB218 => ?_)
            clear hK KQ
            try simp only [Act.put, List.setIfInBounds_toArray, List.set_cons_zero, List.set_cons_succ, List.getElem_toArray, List.getElem_cons_zero, List.getElem_cons_succ]
            have t219 := there_below t214 hb217 l215
            have l220 := Nat.lt_of_lt_of_le l215 hb217.size
            refine wpAnyH_ready (rs := [11]) (by kernel_rfl) (by simp) ?_
            refine AllReadyH.cons rfl (fun KQ hK => ?_) ?_
            · go_simp
              have hb222 := w1_below wa216
              have t224 := w1_there wa216
              have l225 := show wa216.heap.size < (W1 wa216).heap.size by simp
              change KQ _ (W1 wa216)
              generalize W1 wa216 = wa221 at hb222 t224 l225 ⊢
              refine hK.out _ _ (hB218.trans (hb222.mono hB218.size)) (fun hB223 => ?_)
              clear hK KQ
              try simp only [Act.put, List.setIfInBounds_toArray, List.set_cons_zero, List.set_cons_succ, List.getElem_toArray, List.getElem_cons_zero, List.getElem_cons_succ]
              have t226 := there_below t219 hb222 l220
              have l227 := Nat.lt_of_lt_of_le l220 hb222.size
              have m228 := hB218.size
              have hne : wd0.heap.size ≠ wa216.heap.size := by omega
              refine wpAnyH_ready (rs := [12]) (by kernel_rfl) (by simp) ?_
              refine AllReadyH.cons rfl (fun KQ hK => ?_) AllReadyH.nil
              rw [if_pos (by rfl)]
              refine wp_store_mid _ _ _ rfl wd0.heap.size 0 fu rfl rfl (by rw [S3.out]; exact t226) (by rw [S3.out]; exact infoSty) O3.out ?_
              have r231 := World.rangeAt_setCells_same wa221 wd0.heap.size 0 fu.toList (by rw [show fu.toList.length = 55 by simpa using S3.out]; exact t226)
              have b233 := (below_setCells (B := 0) (w := wa221) (b := wd0.heap.size) (Nat.zero_le _) fu.toList 0 wa221 (Below.refl _ _)).size
              have hB230 := below_setCells (b := wd0.heap.size) m210 fu.toList 0 wa221 hB223
              have t232 := World.there_setCells t224 wd0.heap.size 0 fu.toList
              generalize wa221.setCells wd0.heap.size 0 fu.toList = wa229 at *
              refine hK.out _ _ hB230 (fun hB234 => ?_)
              clear hK KQ
              try simp only [Act.put, List.getElem_toArray, List.getElem_cons_zero, List.getElem_cons_succ]
              have l235 := Nat.lt_of_lt_of_le l227 b233
              have l236 := Nat.lt_of_lt_of_le l225 b233
              refine wpAnyH_ready (rs := [13]) (by kernel_rfl) (by simp) ?_
              refine AllReadyH.cons rfl (fun KQ hK => ?_) AllReadyH.nil
              rw [if_pos (by rfl)]
              refine wp_store_mid _ _ _ rfl wa216.heap.size 0 fv rfl rfl (by rw [S4.out]; exact t232) (by rw [S4.out]; exact infoSty) O4.out ?_
              have r239 := World.rangeAt_setCells_same wa229 wa216.heap.size 0 fv.toList (by rw [show fv.toList.length = 55 by simpa using S4.out]; exact t232)
              have b241 := (below_setCells (B := 0) (w := wa229) (b := wa216.heap.size) (Nat.zero_le _) fv.toList 0 wa229 (Below.refl _ _)).size
              have hB238 := below_setCells (b := wa216.heap.size) m228 fv.toList 0 wa229 hB234
              have t240 := World.rangeAt_setCells_apart r231 wa216.heap.size 0 fv.toList (Or.inl hne)
              have t245 := World.there_setCells t232 wa216.heap.size 0 fv.toList
              generalize wa229.setCells wa216.heap.size 0 fv.toList = wa237 at *
              refine hK.out _ _ hB238 (fun hB242 => ?_)
              clear hK KQ
              try simp only [Act.put, List.getElem_toArray, List.getElem_cons_zero, List.getElem_cons_succ]
              have l243 := Nat.lt_of_lt_of_le l235 b241
              have l244 := Nat.lt_of_lt_of_le l236 b241
              refine wpAnyH_done (by kernel_rfl) ?_ _
              go_wp2_with fail
              go_meet
              exact ⟨_, _, rfl, rfl, hB242, t240, r239, l243, l244⟩
            exact AllReadyH.nil
          refine AllReadyH.cons rfl (fun KQ hK => ?_) ?_
          · go_simp
            have hb247 := w1_below wa211
            have t249 := w1_there wa211
            have l250 := show wa211.heap.size < (W1 wa211).heap.size by simp
            change KQ _ (W1 wa211)
            generalize W1 wa211 = wa246 at hb247 t249 l250 ⊢
            refine hK.out _ _ (hB213.trans (hb247.mono hB213.size)) (fun hB248 => ?_)
            clear hK KQ
            try simp only [Act.put, List.setIfInBounds_toArray, List.set_cons_zero, List.set_cons_succ, List.getElem_toArray, List.getElem_cons_zero, List.getElem_cons_succ]
            have t251 := there_below t214 hb247 l215
            have l252 := Nat.lt_of_lt_of_le l215 hb247.size
            have m253 := hB213.size
            refine wpAnyH_ready (rs := [9]) (by kernel_rfl) (by simp) ?_
            refine AllReadyH.cons rfl (fun KQ hK => ?_) ?_
            · go_simp
              refine (C4.out _ hB248).mono ?_
              rintro e wa254 ⟨rfl, hb255⟩
              go_wp2_with fail
              refine hK.out _ _ (hB248.trans (hb255.mono hB248.size)) (fun hB256 => ?_)
              clear hK KQ
              try simp only [Act.put, List.setIfInBounds_toArray, List.set_cons_zero, List.set_cons_succ, List.getElem_toArray, List.getElem_cons_zero, List.getElem_cons_succ]
              have t257 := there_below t251 hb255 l252
              have l258 := Nat.lt_of_lt_of_le l252 hb255.size
              have t259 := there_below t249 hb255 l250
              have l260 := Nat.lt_of_lt_of_le l250 hb255.size
              have hne : wd0.heap.size ≠ wa211.heap.size := by omega
              refine wpAnyH_ready (rs := [12]) (by kernel_rfl) (by simp) ?_
              refine AllReadyH.cons rfl (fun KQ hK => ?_) AllReadyH.nil
              rw [if_pos (by rfl)]
              refine wp_store_mid _ _ _ rfl wd0.heap.size 0 fu rfl rfl (by rw [S3.out]; exact t257) (by rw [S3.out]; exact infoSty) O3.out ?_
              have r263 := World.rangeAt_setCells_same wa254 wd0.heap.size 0 fu.toList (by rw [show fu.toList.length = 55 by simpa using S3.out]; exact t257)
              have b265 := (below_setCells (B := 0) (w := wa254) (b := wd0.heap.size) (Nat.zero_le _) fu.toList 0 wa254 (Below.refl _ _)).size
              have hB262 := below_setCells (b := wd0.heap.size) m210 fu.toList 0 wa254 hB256
              have t264 := World.there_setCells t259 wd0.heap.size 0 fu.toList
              generalize wa254.setCells wd0.heap.size 0 fu.toList = wa261 at *
              refine hK.out _ _ hB262 (fun hB266 => ?_)
              clear hK KQ
              try simp only [Act.put, List.getElem_toArray, List.getElem_cons_zero, List.getElem_cons_succ]
              have l267 := Nat.lt_of_lt_of_le l258 b265
              have l268 := Nat.lt_of_lt_of_le l260 b265
              refine wpAnyH_ready (rs := [13]) (by kernel_rfl) (by simp) ?_
              refine AllReadyH.cons rfl (fun KQ hK => ?_) AllReadyH.nil
              rw [if_pos (by rfl)]
              refine wp_store_mid _ _ _ rfl wa211.heap.size 0 fv rfl rfl (by rw [S4.out]; exact t264) (by rw [S4.out]; exact infoSty) O4.out ?_
              have r271 := World.rangeAt_setCells_same wa261 wa211.heap.size 0 fv.toList (by rw [show fv.toList.length = 55 by simpa using S4.out]; exact t264)
              have b273 := (below_setCells (B := 0) (w := wa261) (b := wa211.heap.size) (Nat.zero_le _) fv.toList 0 wa261 (Below.refl _ _)).size
              have hB270 := below_setCells (b := wa211.heap.size) m253 fv.toList 0 wa261 hB266
              have t272 := World.rangeAt_setCells_apart r263 wa211.heap.size 0 fv.toList (Or.inl hne)
              have t277 := World.there_setCells t264 wa211.heap.size 0 fv.toList
              generalize wa261.setCells wa211.heap.size 0 fv.toList = wa269 at *
              refine hK.out _ _ hB270 (fun hB274 => ?_)
              clear hK KQ
              try simp only [Act.put, List.getElem_toArray, List.getElem_cons_zero, List.getElem_cons_succ]
              have l275 := Nat.lt_of_lt_of_le l267 b273
              have l276 := Nat.lt_of_lt_of_le l268 b273
              refine wpAnyH_done (by kernel_rfl) ?_ _
              go_wp2_with fail
              go_meet
              exact ⟨_, _, rfl, rfl, hB274, t272, r271, l275, l276⟩
            exact AllReadyH.nil
          exact AllReadyH.nil
        refine AllReadyH.cons rfl (fun KQ hK => ?_) ?_
        · go_simp
          have hb279 := w1_below wa205
          have t281 := w1_there wa205
          have l282 := show wa205.heap.size < (W1 wa205).heap.size by simp
          change KQ _ (W1 wa205)
          generalize W1 wa205 = wa278 at hb279 t281 l282 ⊢
          refine hK.out _ _ (hB207.trans (hb279.mono hB207.size)) (fun hB280 => ?_)
          clear hK KQ
          try simp only [Act.put, List.setIfInBounds_toArray, List.set_cons_zero, List.set_cons_succ, List.getElem_toArray, List.getElem_cons_zero, List.getElem_cons_succ]
          have t283 := there_below t208 hb279 l209
          have l284 := Nat.lt_of_lt_of_le l209 hb279.size
          have m285 := hB207.size
          refine wpAnyH_ready (rs := [4]) (by kernel_rfl) (by simp) ?_
          refine AllReadyH.cons rfl (fun KQ hK => ?_) ?_
          · go_simp
            refine (C3.out _ hB280).mono ?_
            rintro e wa286 ⟨rfl, hb287⟩
            go_wp2_with fail
            refine hK.out _ _ (hB280.trans (hb287.mono hB280.size)) (fun hB288 => ?_)
            clear hK KQ
            try simp only [Act.put, List.setIfInBounds_toArray, List.set_cons_zero, List.set_cons_succ, List.getElem_toArray, List.getElem_cons_zero, List.getElem_cons_succ]
            have t289 := there_below t283 hb287 l284
            have l290 := Nat.lt_of_lt_of_le l284 hb287.size
            have t291 := there_below t281 hb287 l282
            have l292 := Nat.lt_of_lt_of_le l282 hb287.size
            refine wpAnyH_ready (rs := [9]) (by kernel_rfl) (by simp) ?_
            refine AllReadyH.cons rfl (fun KQ hK => ?_) ?_
            · go_simp
              refine (C4.out _ hB288).mono ?_
              rintro e wa293 ⟨rfl, hb294⟩
              go_wp2_with fail
              refine hK.out _ _ (hB288.trans (hb294.mono hB288.size)) (fun hB295 => ?_)
              clear hK KQ
              try simp only [Act.put, List.setIfInBounds_toArray, List.set_cons_zero, List.set_cons_succ, List.getElem_toArray, List.getElem_cons_zero, List.getElem_cons_succ]
              have t296 := there_below t289 hb294 l290
              have l297 := Nat.lt_of_lt_of_le l290 hb294.size
              have t298 := there_below t291 hb294 l292
              have l299 := Nat.lt_of_lt_of_le l292 hb294.size
              have hne : wd0.heap.size ≠ wa205.heap.size := by omega
              refine wpAnyH_ready (rs := [12]) (by kernel_rfl) (by simp) ?_
              refine AllReadyH.cons rfl (fun KQ hK => ?_) AllReadyH.nil
              rw [if_pos (by rfl)]
              refine wp_store_mid _ _ _ rfl wd0.heap.size 0 fu rfl rfl (by rw [S3.out]; exact t296) (by rw [S3.out]; exact infoSty) O3.out ?_
              have r302 := World.rangeAt_setCells_same wa293 wd0.heap.size 0 fu.toList (by rw [show fu.toList.length = 55 by simpa using S3.out]; exact t296)
              have b304 := (below_setCells (B := 0) (w := wa293) (b := wd0.heap.size) (Nat.zero_le _) fu.toList 0 wa293 (Below.refl _ _)).size
              have hB301 := below_setCells (b := wd0.heap.size) m210 fu.toList 0 wa293 hB295
              have t303 := World.there_setCells t298 wd0.heap.size 0 fu.toList
              generalize wa293.setCells wd0.heap.size 0 fu.toList = wa300 at *
              refine hK.out _ _ hB301 (fun hB305 => ?_)
              clear hK KQ
              try simp only [Act.put, List.getElem_toArray, List.getElem_cons_zero, List.getElem_cons_succ]
              have l306 := Nat.lt_of_lt_of_le l297 b304
              have l307 := Nat.lt_of_lt_of_le l299 b304
              refine wpAnyH_ready (rs := [13]) (by kernel_rfl) (by simp) ?_
              refine AllReadyH.cons rfl (fun KQ hK => ?_) AllReadyH.nil
              rw [if_pos (by rfl)]
              refine wp_store_mid _ _ _ rfl wa205.heap.size 0 fv rfl rfl (by rw [S4.out]; exact t303) (by rw [S4.out]; exact infoSty) O4.out ?_
              have r310 := World.rangeAt_setCells_same wa300 wa205.heap.size 0 fv.toList (by rw [show fv.toList.length = 55 by simpa using S4.out]; exact t303)
              have b312 := (below_setCells (B := 0) (w := wa300) (b := wa205.heap.size) (Nat.zero_le _) fv.toList 0 wa300 (Below.refl _ _)).size
              have hB309 := below_setCells (b := wa205.heap.size) m285 fv.toList 0 wa300 hB305
              have t311 := World.rangeAt_setCells_apart r302 wa205.heap.size 0 fv.toList (Or.inl hne)
              have t316 := World.there_setCells t303 wa205.heap.size 0 fv.toList
              generalize wa300.setCells wa205.heap.size 0 fv.toList = wa308 at *
              refine hK.out _ _ hB309 (fun hB313 => ?_)
              clear hK KQ
              try simp only [Act.put, List.getElem_toArray, List.getElem_cons_zero, List.getElem_cons_succ]
              have l314 := Nat.lt_of_lt_of_le l306 b312
              have l315 := Nat.lt_of_lt_of_le l307 b312
              refine wpAnyH_done (by kernel_rfl) ?_ _
              go_wp2_with fail
              go_meet
              exact ⟨_, _, rfl, rfl, hB313, t311, r310, l314, l315⟩
            exact AllReadyH.nil
          exact AllReadyH.nil
        exact AllReadyH.nil
      refine AllReadyH.cons rfl (fun KQ hK => ?_) ?_
      · go_simp
        have hb318 := w1_below wd0
        have t320 := w1_there wd0
        have l321 := show wd0.heap.size < (W1 wd0).heap.size by simp
        change KQ _ (W1 wd0)
        generalize W1 wd0 = wa317 at hb318 t320 l321 ⊢
        refine hK.out _ _ (hS0.trans (hb318.mono hS0.size)) (fun hB319 => ?_)
        clear hK KQ
        try simp only [Act.put, List.setIfInBounds_toArray, List.set_cons_zero, List.set_cons_succ, List.getElem_toArray, List.getElem_cons_zero, List.getElem_cons_succ]
        have m322 := hS0.size
        refine wpAnyH_ready (rs := [4, 10]) (by kernel_rfl) (by simp) ?_
        refine AllReadyH.cons rfl (fun KQ hK => ?_) ?_
        · go_simp
          refine (C3.out _ hB319).mono ?_
          rintro e wa323 ⟨rfl, hb324⟩
          go_wp2_with fail
          refine hK.out _ _ (hB319.trans (hb324.mono hB319.size)) (fun hB325 => ?_)
          clear hK KQ
          try simp only [Act.put, List.setIfInBounds_toArray, List.set_cons_zero, List.set_cons_succ, List.getElem_toArray, List.getElem_cons_zero, List.getElem_cons_succ]
          have t326 := there_below t320 hb324 l321
          have l327 := Nat.lt_of_lt_of_le l321 hb324.size
          refine wpAnyH_ready (rs := [9, 10]) (by kernel_rfl) (by simp) ?_
          refine AllReadyH.cons rfl (fun KQ hK => ?_) ?_
          · go_simp
            refine (C4.out _ hB325).mono ?_
            rintro e wa328 ⟨rfl, hb329⟩
            go_wp2_with fail
            refine hK.out _ _ (hB325.trans (hb329.mono hB325.size)) (fun hB330 => ?_)
            clear hK KQ
            try simp only [Act.put, List.setIfInBounds_toArray, List.set_cons_zero, List.set_cons_succ, List.getElem_toArray, List.getElem_cons_zero, List.getElem_cons_succ]
            have t331 := there_below t326 hb329 l327
            have l332 := Nat.lt_of_lt_of_le l327 hb329.size
            refine wpAnyH_ready (rs := [10]) (by kernel_rfl) (by simp) ?_
            refine AllReadyH.cons rfl (fun KQ hK => ?_) ?_
            · go_simp
              have hb334 := w1_below wa328
              have t336 := w1_there wa328
              have l337 := show wa328.heap.size < (W1 wa328).heap.size by simp
              change KQ _ (W1 wa328)
              generalize W1 wa328 = wa333 at hb334 t336 l337 ⊢
              refine hK.out _ _ (hB330.trans (hb334.mono hB330.size)) (fun hB335 => ?_)
              clear hK KQ
              try simp only [Act.put, List.setIfInBounds_toArray, List.set_cons_zero, List.set_cons_succ, List.getElem_toArray, List.getElem_cons_zero, List.getElem_cons_succ]
              have t338 := there_below t331 hb334 l332
              have l339 := Nat.lt_of_lt_of_le l332 hb334.size
              have m340 := hB330.size
              have hne : wa328.heap.size ≠ wd0.heap.size := by omega
              refine wpAnyH_ready (rs := [12]) (by kernel_rfl) (by simp) ?_
              refine AllReadyH.cons rfl (fun KQ hK => ?_) AllReadyH.nil
              rw [if_pos (by rfl)]
              refine wp_store_mid _ _ _ rfl wa328.heap.size 0 fu rfl rfl (by rw [S3.out]; exact t336) (by rw [S3.out]; exact infoSty) O3.out ?_
              have r343 := World.rangeAt_setCells_same wa333 wa328.heap.size 0 fu.toList (by rw [show fu.toList.length = 55 by simpa using S3.out]; exact t336)
              have b345 := (below_setCells (B := 0) (w := wa333) (b := wa328.heap.size) (Nat.zero_le _) fu.toList 0 wa333 (Below.refl _ _)).size
              have hB342 := below_setCells (b := wa328.heap.size) m340 fu.toList 0 wa333 hB335
              have t344 := World.there_setCells t338 wa328.heap.size 0 fu.toList
              generalize wa333.setCells wa328.heap.size 0 fu.toList = wa341 at *
              refine hK.out _ _ hB342 (fun hB346 => ?_)
              clear hK KQ
              try simp only [Act.put, List.getElem_toArray, List.getElem_cons_zero, List.getElem_cons_succ]
              have l347 := Nat.lt_of_lt_of_le l337 b345
              have l348 := Nat.lt_of_lt_of_le l339 b345
              refine wpAnyH_ready (rs := [13]) (by kernel_rfl) (by simp) ?_
              refine AllReadyH.cons rfl (fun KQ hK => ?_) AllReadyH.nil
              rw [if_pos (by rfl)]
              refine wp_store_mid _ _ _ rfl wd0.heap.size 0 fv rfl rfl (by rw [S4.out]; exact t344) (by rw [S4.out]; exact infoSty) O4.out ?_
              have r351 := World.rangeAt_setCells_same wa341 wd0.heap.size 0 fv.toList (by rw [show fv.toList.length = 55 by simpa using S4.out]; exact t344)
              have b353 := (below_setCells (B := 0) (w := wa341) (b := wd0.heap.size) (Nat.zero_le _) fv.toList 0 wa341 (Below.refl _ _)).size
              have hB350 := below_setCells (b := wd0.heap.size) m322 fv.toList 0 wa341 hB346
              have t352 := World.rangeAt_setCells_apart r343 wd0.heap.size 0 fv.toList (Or.inl hne)
              have t357 := World.there_setCells t344 wd0.heap.size 0 fv.toList
              generalize wa341.setCells wd0.heap.size 0 fv.toList = wa349 at *
              refine hK.out _ _ hB350 (fun hB354 => ?_)
              clear hK KQ
              try simp only [Act.put, List.getElem_toArray, List.getElem_cons_zero, List.getElem_cons_succ]
              have l355 := Nat.lt_of_lt_of_le l347 b353
              have l356 := Nat.lt_of_lt_of_le l348 b353
              refine wpAnyH_done (by kernel_rfl) ?_ _
              go_wp2_with fail
              go_meet
              exact ⟨_, _, rfl, rfl, hB354, t352, r351, l355, l356⟩
            exact AllReadyH.nil
          refine AllReadyH.cons rfl (fun KQ hK => ?_) ?_
          · go_simp
            have hb359 := w1_below wa323
            have t361 := w1_there wa323
            have l362 := show wa323.heap.size < (W1 wa323).heap.size by simp
            change KQ _ (W1 wa323)
            generalize W1 wa323 = wa358 at hb359 t361 l362 ⊢
            refine hK.out _ _ (hB325.trans (hb359.mono hB325.size)) (fun hB360 => ?_)
            clear hK KQ
            try simp only [Act.put, List.setIfInBounds_toArray, List.set_cons_zero, List.set_cons_succ, List.getElem_toArray, List.getElem_cons_zero, List.getElem_cons_succ]
            have t363 := there_below t326 hb359 l327
            have l364 := Nat.lt_of_lt_of_le l327 hb359.size
            have m365 := hB325.size
            refine wpAnyH_ready (rs := [9]) (by kernel_rfl) (by simp) ?_
            refine AllReadyH.cons rfl (fun KQ hK => ?_) ?_
            · go_simp
              refine (C4.out _ hB360).mono ?_
              rintro e wa366 ⟨rfl, hb367⟩
              go_wp2_with fail
              refine hK.out _ _ (hB360.trans (hb367.mono hB360.size)) (fun hB368 => ?_)
              clear hK KQ
              try simp only [Act.put, List.setIfInBounds_toArray, List.set_cons_zero, List.set_cons_succ, List.getElem_toArray, List.getElem_cons_zero, List.getElem_cons_succ]
              have t369 := there_below t363 hb367 l364
              have l370 := Nat.lt_of_lt_of_le l364 hb367.size
              have t371 := there_below t361 hb367 l362
              have l372 := Nat.lt_of_lt_of_le l362 hb367.size
              have hne : wa323.heap.size ≠ wd0.heap.size := by omega
              refine wpAnyH_ready (rs := [12]) (by kernel_rfl) (by simp) ?_
              refine AllReadyH.cons rfl (fun KQ hK => ?_) AllReadyH.nil
              rw [if_pos (by rfl)]
              refine wp_store_mid _ _ _ rfl wa323.heap.size 0 fu rfl rfl (by rw [S3.out]; exact t371) (by rw [S3.out]; exact infoSty) O3.out ?_
              have r375 := World.rangeAt_setCells_same wa366 wa323.heap.size 0 fu.toList (by rw [show fu.toList.length = 55 by simpa using S3.out]; exact t371)
              have b377 := (below_setCells (B := 0) (w := wa366) (b := wa323.heap.size) (Nat.zero_le _) fu.toList 0 wa366 (Below.refl _ _)).size
              have hB374 := below_setCells (b := wa323.heap.size) m365 fu.toList 0 wa366 hB368
              have t376 := World.there_setCells t369 wa323.heap.size 0 fu.toList
              generalize wa366.setCells wa323.heap.size 0 fu.toList = wa373 at *
              refine hK.out _ _ hB374 (fun hB378 => ?_)
              clear hK KQ
              try simp only [Act.put, List.getElem_toArray, List.getElem_cons_zero, List.getElem_cons_succ]
              have l379 := Nat.lt_of_lt_of_le l372 b377
              have l380 := Nat.lt_of_lt_of_le l370 b377
              refine wpAnyH_ready (rs := [13]) (by kernel_rfl) (by simp) ?_
              refine AllReadyH.cons rfl (fun KQ hK => ?_) AllReadyH.nil
              rw [if_pos (by rfl)]
              refine wp_store_mid _ _ _ rfl wd0.heap.size 0 fv rfl rfl (by rw [S4.out]; exact t376) (by rw [S4.out]; exact infoSty) O4.out ?_
              have r383 := World.rangeAt_setCells_same wa373 wd0.heap.size 0 fv.toList (by rw [show fv.toList.length = 55 by simpa using S4.out]; exact t376)
              have b385 := (below_setCells (B := 0) (w := wa373) (b := wd0.heap.size) (Nat.zero_le _) fv.toList 0 wa373 (Below.refl _ _)).size
              have hB382 := below_setCells (b := wd0.heap.size) m322 fv.toList 0 wa373 hB378
              have t384 := World.rangeAt_setCells_apart r375 wd0.heap.size 0 fv.toList (Or.inl hne)
              have t389 := World.there_setCells t376 wd0.heap.size 0 fv.toList
              generalize wa373.setCells wd0.heap.size 0 fv.toList = wa381 at *
              refine hK.out _ _ hB382 (fun hB386 => ?_)
              clear hK KQ
              try simp only [Act.put, List.getElem_toArray, List.getElem_cons_zero, List.getElem_cons_succ]
              have l387 := Nat.lt_of_lt_of_le l379 b385
              have l388 := Nat.lt_of_lt_of_le l380 b385
              refine wpAnyH_done (by kernel_rfl) ?_ _
              go_wp2_with fail
              go_meet
              exact ⟨_, _, rfl, rfl, hB386, t384, r383, l387, l388⟩
            exact AllReadyH.nil
          exact AllReadyH.nil
        refine AllReadyH.cons rfl (fun KQ hK => ?_) ?_
        · go_simp
          have hb391 := w1_below wa317
          have t393 := w1_there wa317
          have l394 := show wa317.heap.size < (W1 wa317).heap.size by simp
          change KQ _ (W1 wa317)
          generalize W1 wa317 = wa390 at hb391 t393 l394 ⊢
          refine hK.out _ _ (hB319.trans (hb391.mono hB319.size)) (fun hB392 => ?_)
          clear hK KQ
          try simp only [Act.put, List.setIfInBounds_toArray, List.set_cons_zero, List.set_cons_succ, List.getElem_toArray, List.getElem_cons_zero, List.getElem_cons_succ]
          have t395 := there_below t320 hb391 l321
          have l396 := Nat.lt_of_lt_of_le l321 hb391.size
          have m397 := hB319.size
          refine wpAnyH_ready (rs := [4]) (by kernel_rfl) (by simp) ?_
          refine AllReadyH.cons rfl (fun KQ hK => ?_) ?_
          · go_simp
            refine (C3.out _ hB392).mono ?_
            rintro e wa398 ⟨rfl, hb399⟩
            go_wp2_with fail
            refine hK.out _ _ (hB392.trans (hb399.mono hB392.size)) (fun hB400 => ?_)
            clear hK KQ
            try simp only [Act.put, List.setIfInBounds_toArray, List.set_cons_zero, List.set_cons_succ, List.getElem_toArray, List.getElem_cons_zero, List.getElem_cons_succ]
            have t401 := there_below t395 hb399 l396
            have l402 := Nat.lt_of_lt_of_le l396 hb399.size
            have t403 := there_below t393 hb399 l394
            have l404 := Nat.lt_of_lt_of_le l394 hb399.size
            refine wpAnyH_ready (rs := [9]) (by kernel_rfl) (by simp) ?_
            refine AllReadyH.cons rfl (fun KQ hK => ?_) ?_
            · go_simp
              refine (C4.out _ hB400).mono ?_
              rintro e wa405 ⟨rfl, hb406⟩
              go_wp2_with fail
              refine hK.out _ _ (hB400.trans (hb406.mono hB400.size)) (fun hB407 => ?_)
              clear hK KQ
              try simp only [Act.put, List.setIfInBounds_toArray, List.set_cons_zero, List.set_cons_succ, List.getElem_toArray, List.getElem_cons_zero, List.getElem_cons_succ]
              have t408 := there_below t401 hb406 l402
              have l409 := Nat.lt_of_lt_of_le l402 hb406.size
              have t410 := there_below t403 hb406 l404
              have l411 := Nat.lt_of_lt_of_le l404 hb406.size
              have hne : wa317.heap.size ≠ wd0.heap.size := by omega
              refine wpAnyH_ready (rs := [12]) (by kernel_rfl) (by simp) ?_
              refine AllReadyH.cons rfl (fun KQ hK => ?_) AllReadyH.nil
              rw [if_pos (by rfl)]
              refine wp_store_mid _ _ _ rfl wa317.heap.size 0 fu rfl rfl (by rw [S3.out]; exact t410) (by rw [S3.out]; exact infoSty) O3.out ?_
              have r414 := World.rangeAt_setCells_same wa405 wa317.heap.size 0 fu.toList (by rw [show fu.toList.length = 55 by simpa using S3.out]; exact t410)
              have b416 := (below_setCells (B := 0) (w := wa405) (b := wa317.heap.size) (Nat.zero_le _) fu.toList 0 wa405 (Below.refl _ _)).size
              have hB413 := below_setCells (b := wa317.heap.size) m397 fu.toList 0 wa405 hB407
              have t415 := World.there_setCells t408 wa317.heap.size 0 fu.toList
              generalize wa405.setCells wa317.heap.size 0 fu.toList = wa412 at *
              refine hK.out _ _ hB413 (fun hB417 => ?_)
              clear hK KQ
              try simp only [Act.put, List.getElem_toArray, List.getElem_cons_zero, List.getElem_cons_succ]
              have l418 := Nat.lt_of_lt_of_le l411 b416
              have l419 := Nat.lt_of_lt_of_le l409 b416
              refine wpAnyH_ready (rs := [13]) (by kernel_rfl) (by simp) ?_
              refine AllReadyH.cons rfl (fun KQ hK => ?_) AllReadyH.nil
              rw [if_pos (by rfl)]
              refine wp_store_mid _ _ _ rfl wd0.heap.size 0 fv rfl rfl (by rw [S4.out]; exact t415) (by rw [S4.out]; exact infoSty) O4.out ?_
              have r422 := World.rangeAt_setCells_same wa412 wd0.heap.size 0 fv.toList (by rw [show fv.toList.length = 55 by simpa using S4.out]; exact t415)
              have b424 := (below_setCells (B := 0) (w := wa412) (b := wd0.heap.size) (Nat.zero_le _) fv.toList 0 wa412 (Below.refl _ _)).size
              have hB421 := below_setCells (b := wd0.heap.size) m322 fv.toList 0 wa412 hB417
              have t423 := World.rangeAt_setCells_apart r414 wd0.heap.size 0 fv.toList (Or.inl hne)
              have t428 := World.there_setCells t415 wd0.heap.size 0 fv.toList
              generalize wa412.setCells wd0.heap.size 0 fv.toList = wa420 at *
              refine hK.out _ _ hB421 (fun hB425 => ?_)
              clear hK KQ
              try simp only [Act.put, List.getElem_toArray, List.getElem_cons_zero, List.getElem_cons_succ]
              have l426 := Nat.lt_of_lt_of_le l418 b424
              have l427 := Nat.lt_of_lt_of_le l419 b424
              refine wpAnyH_done (by kernel_rfl) ?_ _
              go_wp2_with fail
              go_meet
              exact ⟨_, _, rfl, rfl, hB425, t423, r422, l426, l427⟩
            exact AllReadyH.nil
          exact AllReadyH.nil
        exact AllReadyH.nil
      exact AllReadyH.nil
    case rest =>
      obtain ⟨h3, h4, rfl, rfl, hBc, r3, r4, l3, l4⟩ := hcut
      have ra := Lib.hid (RA.out _ hBc)
      have rb := Lib.hid (RB.out _ hBc)
      have r3 := Lib.hid r3
      have r4 := Lib.hid r4
      have KN := Lib.hid (K.out _ hBc)
      have hw := Lib.hid (HW.out _ hBc)
      have ix := Lib.hid (show (Tryd.prog.info? 27).map (·.size) = some fx.toList.length by rw [show fx.toList.length = 55 by simpa using S1.out]; exact infoSty)
      have iu := Lib.hid (show (Tryd.prog.info? 27).map (·.size) = some fu.toList.length by rw [show fu.toList.length = 55 by simpa using S3.out]; exact infoSty)
      have iv := Lib.hid (show (Tryd.prog.info? 27).map (·.size) = some fv.toList.length by rw [show fv.toList.length = 55 by simpa using S4.out]; exact infoSty)
      clear RA RB C3 C4 ST K HW hBc l1 l2 l3 l4
      have hp := hpk.out
      by_cases h35 : 35 ≤ k
      · obtain rfl := X28.out h35
        have hge36 : decide (36 ≤ p) = true := by simp; omega
        clear X28 X29 hp
        go_wp2_with (first
          | refine wpList_load_mid rfl 27 (.tmp 15) rfl h1 0 rfl fx.toList _ ra.out Tryd.underlying27 rfl ix.out ?_
          | refine wpList_load_mid rfl 27 (.tmp 16) rfl h2 0 rfl fx.toList _ rb.out Tryd.underlying27 rfl ix.out ?_
          | refine wpList_load_mid rfl 27 (.tmp 17) rfl h3 0 rfl fx.toList _ r3.out Tryd.underlying27 rfl ix.out ?_
          | (go_at_call 10; refine KN.out.mono ?_; rintro e wz ⟨rfl, hbz⟩))
        go_ret
        exact ⟨rfl, hw.out.trans (hbz.mono hw.out.size)⟩
      · obtain rfl := X29.out (by omega)
        have hge36 : decide (36 ≤ p) = false := by simp; omega
        clear X28 X29 hp
        go_wp2_with (first
          | refine wpList_load_mid rfl 27 (.tmp 15) rfl h1 0 rfl fx.toList _ ra.out Tryd.underlying27 rfl ix.out ?_
          | refine wpList_load_mid rfl 27 (.tmp 16) rfl h2 0 rfl fx.toList _ rb.out Tryd.underlying27 rfl ix.out ?_
          | refine wpList_load_mid rfl 27 (.tmp 18) rfl h4 0 rfl fx.toList _ r4.out Tryd.underlying27 rfl ix.out ?_
          | (go_at_call 10; refine KN.out.mono ?_; rintro e wz ⟨rfl, hbz⟩))
        go_ret
        exact ⟨rfl, hw.out.trans (hbz.mono hw.out.size)⟩
theorem styleWords_walk (a : Option Addr) (cp : Nat) (l : List Val) (p : Int) (P : Sty) (wd ht : Int) (w : World) (hg : Gl w) (hs : SlAt w (.slice a l.length cp) l.length (vals l)) (_ : ∀ t ∈ l, t.name.length ≤ maxLen) (hz : l.length * 40 ≤ 140737488351232) :
    Calls Tryd.prog 7 #[.slice a l.length cp, .int .i64 p, .agg (styA P), .int .i64 wd, .int .i64 ht] w fun e w' => e = .returned (.bool true) ∧ Below w.heap.size w w' := by
  by_cases h : (l.length : Int) < 37 ∨ p < 1 ∨ 37 < p
  · exact words_out a cp l p P wd ht w hg h
  · exact words_in a cp l (p - 1).toNat p (by omega) (by omega) P wd ht w hg hs hz (by omega)
end Go.Proofs.YtfiidocojooghaaDoor
