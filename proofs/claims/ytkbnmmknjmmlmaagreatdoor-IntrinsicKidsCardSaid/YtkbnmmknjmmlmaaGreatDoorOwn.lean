/-
  The walks of layer 23: how wide an element's content is.
-/
import Derived.Test.YtkbnmmknjmmlmaaGreatDoorGatA
namespace Go.Proofs.YtkbnmmknjmmlmaaGreatDoor
open Go.RowKit Wsc
/-- a block for a style. -/
abbrev szW (w : World) : World := w.alloc (.cells #[.int .i64 0, .bool false, .int .i64 0, .int .i64 0, .int .i64 0, .int .i64 0, .int .i64 0, .int .i64 0, .int .i64 0, .int .i64 0, .int .i64 0, .int .i64 0, .int .i64 0, .int .i64 0, .int .i64 0, .int .i64 0, .int .i64 0, .int .i64 0, .int .i64 0, .int .i64 0, .int .i64 0, .int .i64 0, .int .i64 0, .int .i64 0, .int .i64 0, .int .i64 0, .int .i64 0, .int .i64 0, .int .i64 0, .int .i64 0, .int .i64 0, .int .i64 0, .int .i64 0, .int .i64 0, .int .i64 0, .int .i64 0, .int .i64 0, .int .i64 0, .int .i64 0, .int .i64 0, .int .i64 0, .int .i64 0, .int .i64 0, .int .i64 0, .int .i64 0, .int .i64 0, .int .i64 0, .int .i64 0, .int .i64 0, .int .i64 0, .int .i64 0, .int .i64 0, .string ⟨#[]⟩, .int .i64 0, .int .i64 0] 34)
theorem szW_store (w : World) (s : Sty) : FnAt ((szW w).setCells w.heap.size 0 (styA s).toList) w.heap.size 55 (Sty.cell s) ∧ Below w.heap.size w ((szW w).setCells w.heap.size 0 (styA s).toList) ∧ (szW w).there w.heap.size 0 (styA s).size := by
  have h := FnAt.new w 34 55 (Sty.cell zeroSty) #[.int .i64 0, .bool false, .int .i64 0, .int .i64 0, .int .i64 0, .int .i64 0, .int .i64 0, .int .i64 0, .int .i64 0, .int .i64 0, .int .i64 0, .int .i64 0, .int .i64 0, .int .i64 0, .int .i64 0, .int .i64 0, .int .i64 0, .int .i64 0, .int .i64 0, .int .i64 0, .int .i64 0, .int .i64 0, .int .i64 0, .int .i64 0, .int .i64 0, .int .i64 0, .int .i64 0, .int .i64 0, .int .i64 0, .int .i64 0, .int .i64 0, .int .i64 0, .int .i64 0, .int .i64 0, .int .i64 0, .int .i64 0, .int .i64 0, .int .i64 0, .int .i64 0, .int .i64 0, .int .i64 0, .int .i64 0, .int .i64 0, .int .i64 0, .int .i64 0, .int .i64 0, .int .i64 0, .int .i64 0, .int .i64 0, .int .i64 0, .int .i64 0, .int .i64 0, .string ⟨#[]⟩, .int .i64 0, .int .i64 0] rfl
  have hb := below_setCells (b := w.heap.size) (Nat.le_refl _) (styA s).toList 0 _ ((Below.refl w.heap.size w).alloc (Nat.le_refl _) (.cells #[.int .i64 0, .bool false, .int .i64 0, .int .i64 0, .int .i64 0, .int .i64 0, .int .i64 0, .int .i64 0, .int .i64 0, .int .i64 0, .int .i64 0, .int .i64 0, .int .i64 0, .int .i64 0, .int .i64 0, .int .i64 0, .int .i64 0, .int .i64 0, .int .i64 0, .int .i64 0, .int .i64 0, .int .i64 0, .int .i64 0, .int .i64 0, .int .i64 0, .int .i64 0, .int .i64 0, .int .i64 0, .int .i64 0, .int .i64 0, .int .i64 0, .int .i64 0, .int .i64 0, .int .i64 0, .int .i64 0, .int .i64 0, .int .i64 0, .int .i64 0, .int .i64 0, .int .i64 0, .int .i64 0, .int .i64 0, .int .i64 0, .int .i64 0, .int .i64 0, .int .i64 0, .int .i64 0, .int .i64 0, .int .i64 0, .int .i64 0, .int .i64 0, .int .i64 0, .string ⟨#[]⟩, .int .i64 0, .int .i64 0] 34))
  have hs := (below_setCells (B := 0) (w := szW w) (b := w.heap.size) (Nat.zero_le _) (styA s).toList 0 (szW w) (Below.refl _ _)).size
  rw [show (szW w).heap.size = w.heap.size + 1 by simp [szW]] at hs
  exact ⟨h.store (styA s) (Sty.cell s) (styA_row s) (Nat.lt_of_succ_le hs), hb, h.there⟩
theorem idx0 (a b : Int) (w : World) : (Instr.index 51 (.agg #[.int .i64 a, .int .i64 b]) (.int .i64 0)).run Tryz.prog w = .ok (.int .i64 a) w := by kernel_rfl
section
variable (la : Option Addr) (lc : Nat) (l : List NodeM) (sa : Option Addr) (sc : Nat) (s : List Sty) (w : World) (h : PgAt w la lc l sa sc s) (i : Int) (hO : ∀ k ∈ kidsP l s i, OutOk la lc l sa sc s k)
include h hO
set_option maxRecDepth 100000 in
theorem pwidest_any :
    Calls Tryz.prog 32 #[.agg #[.slice la l.length lc, .slice sa s.length sc], .int .i64 i] w fun e w' => e = .returned (.agg #[.int .i64 (widF ((kidsP l s i).map (outP l s))).1, .int .i64 (widF ((kidsP l s i).map (outP l s))).2]) ∧ Below w.heap.size w w' := by
  have HN := Lib.hid (PpS.new w la l.length lc sa s.length sc)
  have GA := Lib.hid (gather_wid la lc l sa sc s _ (h.below HN.out.bel) i hO)
  generalize (widF ((kidsP l s i).map (outP l s))).1 = a1 at *
  generalize (widF ((kidsP l s i).map (outP l s))).2 = a2 at *
  generalize l.length = n at *
  generalize s.length = sn at *
  clear h hO
  go_enter Tryz.func32, Tryz.ntmps32
  go_wp2_with fail
  refine GA.out.mono ?_
  rintro e w1 ⟨rfl, hb⟩
  have H1 := HN.out.next hb
  obtain ⟨u0, u1, z0, z1, f0, f1⟩ := H1.st
  have HR := Lib.hid (H1.res a1 a2)
  have HB := Lib.hid (H1.put (.int .i64 a1) (.int .i64 a2)).bel
  clear hb H1
  go_wp2
  exact ret_row rfl rfl HR.out Tryz.underlying51 rfl infoPr rfl ⟨rfl, HB.out⟩
set_option maxRecDepth 100000 in
set_option maxHeartbeats 1000000 in
theorem prow_any :
    Calls Tryz.prog 31 #[.agg #[.slice la l.length lc, .slice sa s.length sc], .int .i64 i] w fun e w' => e = .returned (.agg #[.int .i64 (if (styAt s i).f 37 ≠ 0 then ((widF ((kidsP l s i).map (outP l s))).1, (rowF (gapP (styAt s i)) ((kidsP l s i).map (outP l s))).2) else rowF (gapP (styAt s i)) ((kidsP l s i).map (outP l s))).1, .int .i64 (rowF (gapP (styAt s i)) ((kidsP l s i).map (outP l s))).2]) ∧ Below w.heap.size w w' := by
  have HN := Lib.hid (PpS.new w la l.length lc sa s.length sc)
  have PS := Lib.hid (fun ww (hb : Below w.heap.size w ww) => pstyle_any la l.length lc sa sc s i ww (h.below hb).st)
  have GP := Lib.hid (fun ww => gap_any (styAt s i) ww)
  have GA := Lib.hid (fun ww (hb : Below w.heap.size w ww) (c : Nat) (hc : ww.cell? ⟨c, 0, none⟩ = some (.int .i64 (gapP (styAt s i)))) (hlt : c < ww.heap.size) => gather_row la lc l sa sc s ww (h.below hb) i hO c (gapP (styAt s i)) hc hlt)
  have WI := Lib.hid (fun ww (hb : Below w.heap.size w ww) => pwidest_any la lc l sa sc s ww (h.below hb) i hO)
  have FD := fun ww => fld_wrap (styAt s i) ww
  generalize (rowF (gapP (styAt s i)) ((kidsP l s i).map (outP l s))) = rw_ at *
  generalize (widF ((kidsP l s i).map (outP l s))) = wd at *
  generalize gapP (styAt s i) = gp at *
  generalize styAt s i = t at *
  generalize l.length = n at *
  generalize s.length = sn at *
  clear h hO
  by_cases hw : t.f 37 = 0
  · rw [if_neg (by simpa using hw)]
    generalize styA t = ta at *
    generalize t.f 37 = wr at *
    subst hw
    go_enter Tryz.func31, Tryz.ntmps31
    go_wp2_with fail
    refine (PS.out _ HN.out.bel).mono ?_
    rintro e w1 ⟨rfl, hb⟩
    have H1 := HN.out.next hb
    clear hb
    go_wp2_with fail
    refine (GP.out _).mono ?_
    rintro e w2 ⟨rfl, hb⟩
    have H2 := H1.next hb
    have H3 := H2.next ((Below.refl _ _).alloc (Nat.le_refl _) (.cells #[.int .i64 gp] 3))
    have p0 := H3.p0
    have p1 := H3.p1
    clear hb H1
    go_wp2_with fail
    refine (GA.out _ H3.bel w2.heap.size (by rw [World.cell?_alloc_at _ _ _ _ rfl]; rfl) (by simp)).mono ?_
    rintro e w3 ⟨rfl, hb⟩
    have H4 := H3.next hb
    clear p0 p1
    have H5 := H4.next ((Below.refl _ _).alloc (Nat.le_refl _) (.cells #[.int .i64 rw_.1, .int .i64 rw_.2] 51))
    have N5 := FnAt.new w3 51 2 (prC rw_.1 rw_.2) #[.int .i64 rw_.1, .int .i64 rw_.2] rfl
    have p0 := H5.p0
    have p1 := H5.p1
    clear hb H2 H3
    go_wp2_with fail
    refine (PS.out _ H5.bel).mono ?_
    rintro e w4 ⟨rfl, hb⟩
    have H6 := H5.next hb
    have N6 := N5.next hb
    have y0 : w4.cell? ⟨w3.heap.size, 0, none⟩ = some (.int .i64 rw_.1) := N6.c 0 (by decide)
    have y1 : w4.cell? ⟨w3.heap.size, 1, none⟩ = some (.int .i64 rw_.2) := N6.c 1 (by decide)
    obtain ⟨u0, u1, z0, z1, f0, f1⟩ := H6.st
    have HR := Lib.hid (H6.res rw_.1 rw_.2)
    have HB := Lib.hid (H6.put (.int .i64 rw_.1) (.int .i64 rw_.2)).bel
    clear hb H4 H5 N5 p0 p1
    go_wp2
    exact ret_row rfl rfl HR.out Tryz.underlying51 rfl infoPr rfl ⟨rfl, HB.out⟩
  · rw [if_pos hw]
    have hw2 : (t.f 37 != 0) = true := by simpa using hw
    generalize styA t = ta at *
    generalize t.f 37 = wr at *
    go_enter Tryz.func31, Tryz.ntmps31
    go_wp2_with fail
    refine (PS.out _ HN.out.bel).mono ?_
    rintro e w1 ⟨rfl, hb⟩
    have H1 := HN.out.next hb
    clear hb
    go_wp2_with fail
    refine (GP.out _).mono ?_
    rintro e w2 ⟨rfl, hb⟩
    have H2 := H1.next hb
    have H3 := H2.next ((Below.refl _ _).alloc (Nat.le_refl _) (.cells #[.int .i64 gp] 3))
    have p0 := H3.p0
    have p1 := H3.p1
    clear hb H1
    go_wp2_with fail
    refine (GA.out _ H3.bel w2.heap.size (by rw [World.cell?_alloc_at _ _ _ _ rfl]; rfl) (by simp)).mono ?_
    rintro e w3 ⟨rfl, hb⟩
    have H4 := H3.next hb
    clear p0 p1
    have H5 := H4.next ((Below.refl _ _).alloc (Nat.le_refl _) (.cells #[.int .i64 rw_.1, .int .i64 rw_.2] 51))
    have N5 := FnAt.new w3 51 2 (prC rw_.1 rw_.2) #[.int .i64 rw_.1, .int .i64 rw_.2] rfl
    have p0 := H5.p0
    have p1 := H5.p1
    clear hb H2 H3
    go_wp2_with fail
    refine (PS.out _ H5.bel).mono ?_
    rintro e w4 ⟨rfl, hb⟩
    have H6 := H5.next hb
    have N6 := N5.next hb
    clear p0 p1
    have p0 := H6.p0
    have p1 := H6.p1
    clear hb H5 N5
    go_wp2_with fail
    refine (WI.out _ H6.bel).mono ?_
    rintro e w5 ⟨rfl, hb⟩
    have H7 := H6.next hb
    have N7 := N6.next hb
    have g3 := H4.bel.size
    have hne : w3.heap.size ≠ w.heap.size + 1 := by have := H4.rs.lt; omega
    have hne0 : w3.heap.size ≠ w.heap.size := by have := H4.pg.lt; omega
    have N8 := N7.set 0 (by decide) (.int .i64 wd.1)
    have H8 : PpS w la n lc sa sn sc (w5.setCell ⟨w3.heap.size, 0, none⟩ (.int .i64 wd.1)) := ⟨H7.pg.other _ _ hne0 _, ⟨_, H7.rs.other _ _ hne _⟩, H7.bel.setCell (p := ⟨w3.heap.size, 0, none⟩) g3 _⟩
    have y0 : w5.cell? ⟨w3.heap.size, 0, none⟩ = some (.int .i64 rw_.1) := N7.c 0 (by decide)
    have y1 : w5.cell? ⟨w3.heap.size, 1, none⟩ = some (.int .i64 rw_.2) := N7.c 1 (by decide)
    have yf : w5.frozen? ⟨w3.heap.size, 0, none⟩ = false := N7.f 0 (by decide)
    obtain ⟨u0, u1, z0, z1, f0, f1⟩ := H7.st
    have HR := Lib.hid (H8.res wd.1 rw_.2)
    have HB := Lib.hid (H8.put (.int .i64 wd.1) (.int .i64 rw_.2)).bel
    have IX := fun ww => idx0 wd.1 wd.2 ww
    clear hb H4 H6 N6 p0 p1 N8 H8 H7 N7
    go_wp2
    exact ret_row rfl rfl HR.out Tryz.underlying51 rfl infoPr rfl ⟨rfl, HB.out⟩
omit h hO in
theorem own_hold (hh : holderB (styAt s i) = true) : ownP l s i = (0, 0) := by unfold ownP ownG; simp only; rw [if_pos hh]
omit h hO in
theorem own_row (hh : holderB (styAt s i) = false) (hr : rowB (styAt s i) = true) : ownP l s i = if (styAt s i).f 37 ≠ 0 then ((widF ((kidsP l s i).map (outP l s))).1, (rowF (gapP (styAt s i)) ((kidsP l s i).map (outP l s))).2) else rowF (gapP (styAt s i)) ((kidsP l s i).map (outP l s)) := by unfold ownP ownG; simp only; rw [if_neg (by rw [hh]; simp), if_pos hr]
omit h hO in
theorem own_wid (hh : holderB (styAt s i) = false) (hr : rowB (styAt s i) = false) : ownP l s i = widF ((kidsP l s i).map (outP l s)) := by unfold ownP ownG; simp only; rw [if_neg (by rw [hh]; simp), if_neg (by rw [hr]; simp)]
theorem pown_row (hh : holderB (styAt s i) = false) (hr : rowB (styAt s i) = true) :
    Calls Tryz.prog 31 #[.agg #[.slice la l.length lc, .slice sa s.length sc], .int .i64 i] w fun e w' => e = .returned (.agg #[.int .i64 (ownP l s i).1, .int .i64 (ownP l s i).2]) ∧ Below w.heap.size w w' := by
  refine (prow_any la lc l sa sc s w h i hO).mono ?_
  rintro e w' ⟨rfl, hb⟩
  refine ⟨?_, hb⟩
  rw [own_row l s i hh hr]
  split <;> rfl
set_option maxRecDepth 100000 in
set_option maxHeartbeats 1000000 in
theorem pown_any :
    Calls Tryz.prog 21 #[.agg #[.slice la l.length lc, .slice sa s.length sc], .int .i64 i] w fun e w' => e = .returned (.agg #[.int .i64 (ownP l s i).1, .int .i64 (ownP l s i).2]) ∧ Below w.heap.size w w' := by
  have HN := Lib.hid (PpS.new w la l.length lc sa s.length sc)
  have PS := Lib.hid (fun ww (hb : Below w.heap.size w ww) => pstyle_any la l.length lc sa sc s i ww (h.below hb).st)
  have RW := Lib.hid (fun hh hr ww (hb : Below w.heap.size w ww) => pown_row la lc l sa sc s ww (h.below hb) i hO hh hr)
  have WI := fun (hh : holderB (styAt s i) = false) (hr : rowB (styAt s i) = false) ww (hb : Below w.heap.size w ww) => pwidest_any la lc l sa sc s ww (h.below hb) i hO
  have WI2 := Lib.hid (show ∀ (hh : holderB (styAt s i) = false) (hr : rowB (styAt s i) = false) ww (hb : Below w.heap.size w ww), Calls Tryz.prog 32 #[.agg #[.slice la l.length lc, .slice sa s.length sc], .int .i64 i] ww fun e w' => e = .returned (.agg #[.int .i64 (ownP l s i).1, .int .i64 (ownP l s i).2]) ∧ Below ww.heap.size ww w' from fun hh hr ww hb => by
    rw [own_wid l s i hh hr]; exact WI hh hr ww hb)
  have HH := Lib.hid (own_hold l s i)
  have SZ := Lib.hid (fun ww => szW_store ww (styAt s i))
  have HI := Lib.hid (show (Tryz.prog.info? 34).map (·.size) = some (styA (styAt s i)).size from infoSty)
  have H1o := Lib.hid (styA_one (styAt s i))
  have hb1 : holderB (styAt s i) = (decide ((styAt s i).f 51 = 1) || decide ((styAt s i).f 51 = 2)) := rfl
  have hb2 : rowB (styAt s i) = (decide ((styAt s i).f 0 = 1) && (decide (0 ≤ (styAt s i).f 36) && decide ((styAt s i).f 36 ≤ 1))) := rfl
  rw [hb1] at RW WI2 HH
  rw [hb2] at RW WI2
  generalize ownP l s i = ow at *
  generalize l.length = n at *
  generalize s.length = sn at *
  clear h hO WI hb1 hb2
  have SC := Lib.hid (show ∀ (ww : World) (g : Nat), FnAt ww g 55 (Sty.cell (styAt s i)) → ww.cell? ⟨g, 51, none⟩ = some (.int .i64 ((styAt s i).f 51)) ∧ ww.cell? ⟨g, 0, none⟩ = some (.int .i64 ((styAt s i).f 0)) ∧ ww.cell? ⟨g, 36, none⟩ = some (.int .i64 ((styAt s i).f 36)) from fun ww g hg => ⟨hg.c 51 (by decide), hg.c 0 (by decide), hg.c 36 (by decide)⟩)
  generalize (styAt s i).f 51 = x51 at *
  generalize (styAt s i).f 0 = x0 at *
  generalize (styAt s i).f 36 = x36 at *
  generalize Sty.cell (styAt s i) = sc_ at *
  generalize styA (styAt s i) = ta at *
  have cs : x51 = 1 ∨ x51 = 2 ∨ (x51 ≠ 1 ∧ x51 ≠ 2 ∧ x0 = 1 ∧ 0 ≤ x36 ∧ x36 ≤ 1) ∨ (x51 ≠ 1 ∧ x51 ≠ 2 ∧ x0 = 1 ∧ x36 < 0) ∨ (x51 ≠ 1 ∧ x51 ≠ 2 ∧ x0 = 1 ∧ 0 ≤ x36 ∧ 1 < x36) ∨ (x51 ≠ 1 ∧ x51 ≠ 2 ∧ x0 ≠ 1) := by omega
  rcases cs with rfl | rfl | ⟨h1, h2, rfl, h3, h4⟩ | ⟨h1, h2, rfl, h3⟩ | ⟨h1, h2, rfl, h3, h4⟩ | ⟨h1, h2, h3⟩
  · have e0 : ow = (0, 0) := HH.out (by simp)
    subst e0
    clear RW WI2 HH
    go_enter Tryz.func21, Tryz.ntmps21
    go_wp2_with fail
    refine (PS.out _ HN.out.bel).mono ?_
    rintro e w1 ⟨rfl, hb⟩
    have H1 := HN.out.next hb
    obtain ⟨FA, FB, TH0⟩ := SZ.out w1
    have TH := Lib.hid TH0
    have H2 := H1.next FB
    obtain ⟨q51, q0, q36⟩ := SC.out _ _ FA
    obtain ⟨u0, u1, z0, z1, f0, f1⟩ := H2.st
    have p0 := H2.p0
    have p1 := H2.p1
    have HX := Lib.hid H2
    clear hb H1 FA FB TH0 H2
    go_wp2_with (refine wpList_store_mid rfl _ _ _ rfl w1.heap.size 0 ta rfl rfl TH.out HI.out H1o.out ?_; generalize (szW w1).setCells w1.heap.size 0 ta.toList = W at *)
    have HR := Lib.hid (HX.out.res 0 0)
    have HB := Lib.hid (HX.out.put (.int .i64 0) (.int .i64 0)).bel
    exact ret_row rfl rfl HR.out Tryz.underlying51 rfl infoPr rfl ⟨rfl, HB.out⟩
  · have e0 : ow = (0, 0) := HH.out (by simp)
    subst e0
    clear RW WI2 HH
    go_enter Tryz.func21, Tryz.ntmps21
    go_wp2_with fail
    refine (PS.out _ HN.out.bel).mono ?_
    rintro e w1 ⟨rfl, hb⟩
    have H1 := HN.out.next hb
    obtain ⟨FA, FB, TH0⟩ := SZ.out w1
    have TH := Lib.hid TH0
    have H2 := H1.next FB
    obtain ⟨q51, q0, q36⟩ := SC.out _ _ FA
    obtain ⟨u0, u1, z0, z1, f0, f1⟩ := H2.st
    have p0 := H2.p0
    have p1 := H2.p1
    have HX := Lib.hid H2
    clear hb H1 FA FB TH0 H2
    go_wp2_with (refine wpList_store_mid rfl _ _ _ rfl w1.heap.size 0 ta rfl rfl TH.out HI.out H1o.out ?_; generalize (szW w1).setCells w1.heap.size 0 ta.toList = W at *)
    have HR := Lib.hid (HX.out.res 0 0)
    have HB := Lib.hid (HX.out.put (.int .i64 0) (.int .i64 0)).bel
    exact ret_row rfl rfl HR.out Tryz.underlying51 rfl infoPr rfl ⟨rfl, HB.out⟩
  · skip
    have q1 : (x51 == 1) = false := by simpa using h1
    have q2 : (x51 == 2) = false := by simpa using h2
    have CC := Lib.hid (RW.out (by simp [h1, h2]) (by simp; omega))
    clear RW WI2 HH h1 h2
    go_enter Tryz.func21, Tryz.ntmps21
    go_wp2_with fail
    refine (PS.out _ HN.out.bel).mono ?_
    rintro e w1 ⟨rfl, hb⟩
    have H1 := HN.out.next hb
    obtain ⟨FA, FB, TH0⟩ := SZ.out w1
    have TH := Lib.hid TH0
    have H2 := H1.next FB
    obtain ⟨q51, q0, q36⟩ := SC.out _ _ FA
    obtain ⟨u0, u1, z0, z1, f0, f1⟩ := H2.st
    have p0 := H2.p0
    have p1 := H2.p1
    have HX := Lib.hid H2
    clear hb H1 FA FB TH0 H2
    go_wp2_with (refine wpList_store_mid rfl _ _ _ rfl w1.heap.size 0 ta rfl rfl TH.out HI.out H1o.out ?_; generalize (szW w1).setCells w1.heap.size 0 ta.toList = W at *)
    refine (CC.out _ HX.out.bel).mono ?_
    rintro e w2 ⟨rfl, hb⟩
    clear z0 z1 f0 f1 p0 p1 q51 q0 q36
    have H3 := HX.out.next hb
    obtain ⟨v0, v1, z0, z1, f0, f1⟩ := H3.st
    have HR := Lib.hid (H3.res ow.1 ow.2)
    have HB := Lib.hid (H3.put (.int .i64 ow.1) (.int .i64 ow.2)).bel
    clear hb H3
    go_wp2
    exact ret_row rfl rfl HR.out Tryz.underlying51 rfl infoPr rfl ⟨rfl, HB.out⟩
  · skip
    have q1 : (x51 == 1) = false := by simpa using h1
    have q2 : (x51 == 2) = false := by simpa using h2
    have CC := Lib.hid (WI2.out (by simp [h1, h2]) (by simp; omega))
    clear RW WI2 HH h1 h2
    go_enter Tryz.func21, Tryz.ntmps21
    go_wp2_with fail
    refine (PS.out _ HN.out.bel).mono ?_
    rintro e w1 ⟨rfl, hb⟩
    have H1 := HN.out.next hb
    obtain ⟨FA, FB, TH0⟩ := SZ.out w1
    have TH := Lib.hid TH0
    have H2 := H1.next FB
    obtain ⟨q51, q0, q36⟩ := SC.out _ _ FA
    obtain ⟨u0, u1, z0, z1, f0, f1⟩ := H2.st
    have p0 := H2.p0
    have p1 := H2.p1
    have HX := Lib.hid H2
    clear hb H1 FA FB TH0 H2
    go_wp2_with (refine wpList_store_mid rfl _ _ _ rfl w1.heap.size 0 ta rfl rfl TH.out HI.out H1o.out ?_; generalize (szW w1).setCells w1.heap.size 0 ta.toList = W at *)
    refine (CC.out _ HX.out.bel).mono ?_
    rintro e w2 ⟨rfl, hb⟩
    clear z0 z1 f0 f1 p0 p1 q51 q0 q36
    have H3 := HX.out.next hb
    obtain ⟨v0, v1, z0, z1, f0, f1⟩ := H3.st
    have HR := Lib.hid (H3.res ow.1 ow.2)
    have HB := Lib.hid (H3.put (.int .i64 ow.1) (.int .i64 ow.2)).bel
    clear hb H3
    go_wp2
    exact ret_row rfl rfl HR.out Tryz.underlying51 rfl infoPr rfl ⟨rfl, HB.out⟩
  · skip
    have q1 : (x51 == 1) = false := by simpa using h1
    have q2 : (x51 == 2) = false := by simpa using h2
    have CC := Lib.hid (WI2.out (by simp [h1, h2]) (by simp; omega))
    clear RW WI2 HH h1 h2
    go_enter Tryz.func21, Tryz.ntmps21
    go_wp2_with fail
    refine (PS.out _ HN.out.bel).mono ?_
    rintro e w1 ⟨rfl, hb⟩
    have H1 := HN.out.next hb
    obtain ⟨FA, FB, TH0⟩ := SZ.out w1
    have TH := Lib.hid TH0
    have H2 := H1.next FB
    obtain ⟨q51, q0, q36⟩ := SC.out _ _ FA
    obtain ⟨u0, u1, z0, z1, f0, f1⟩ := H2.st
    have p0 := H2.p0
    have p1 := H2.p1
    have HX := Lib.hid H2
    clear hb H1 FA FB TH0 H2
    go_wp2_with (refine wpList_store_mid rfl _ _ _ rfl w1.heap.size 0 ta rfl rfl TH.out HI.out H1o.out ?_; generalize (szW w1).setCells w1.heap.size 0 ta.toList = W at *)
    refine (CC.out _ HX.out.bel).mono ?_
    rintro e w2 ⟨rfl, hb⟩
    clear z0 z1 f0 f1 p0 p1 q51 q0 q36
    have H3 := HX.out.next hb
    obtain ⟨v0, v1, z0, z1, f0, f1⟩ := H3.st
    have HR := Lib.hid (H3.res ow.1 ow.2)
    have HB := Lib.hid (H3.put (.int .i64 ow.1) (.int .i64 ow.2)).bel
    clear hb H3
    go_wp2
    exact ret_row rfl rfl HR.out Tryz.underlying51 rfl infoPr rfl ⟨rfl, HB.out⟩
  · skip
    have q1 : (x51 == 1) = false := by simpa using h1
    have q2 : (x51 == 2) = false := by simpa using h2
    have q3 : (x0 == 1) = false := by simpa using h3
    have CC := Lib.hid (WI2.out (by simp [h1, h2]) (by simp [h3]))
    clear RW WI2 HH h1 h2 h3
    go_enter Tryz.func21, Tryz.ntmps21
    go_wp2_with fail
    refine (PS.out _ HN.out.bel).mono ?_
    rintro e w1 ⟨rfl, hb⟩
    have H1 := HN.out.next hb
    obtain ⟨FA, FB, TH0⟩ := SZ.out w1
    have TH := Lib.hid TH0
    have H2 := H1.next FB
    obtain ⟨q51, q0, q36⟩ := SC.out _ _ FA
    obtain ⟨u0, u1, z0, z1, f0, f1⟩ := H2.st
    have p0 := H2.p0
    have p1 := H2.p1
    have HX := Lib.hid H2
    clear hb H1 FA FB TH0 H2
    go_wp2_with (refine wpList_store_mid rfl _ _ _ rfl w1.heap.size 0 ta rfl rfl TH.out HI.out H1o.out ?_; generalize (szW w1).setCells w1.heap.size 0 ta.toList = W at *)
    refine (CC.out _ HX.out.bel).mono ?_
    rintro e w2 ⟨rfl, hb⟩
    clear z0 z1 f0 f1 p0 p1 q51 q0 q36
    have H3 := HX.out.next hb
    obtain ⟨v0, v1, z0, z1, f0, f1⟩ := H3.st
    have HR := Lib.hid (H3.res ow.1 ow.2)
    have HB := Lib.hid (H3.put (.int .i64 ow.1) (.int .i64 ow.2)).bel
    clear hb H3
    go_wp2
    exact ret_row rfl rfl HR.out Tryz.underlying51 rfl infoPr rfl ⟨rfl, HB.out⟩
end
end Go.Proofs.YtkbnmmknjmmlmaaGreatDoor
