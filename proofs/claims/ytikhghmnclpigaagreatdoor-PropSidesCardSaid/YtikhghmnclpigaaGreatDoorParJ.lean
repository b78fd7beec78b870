/-
  The walks of law10.raw and law10.known.
-/
import Derived.Test.YtikhghmnclpigaaGreatDoorParH
import Derived.Test.YtikhghmnclpigaaGreatDoorCutPlain
namespace Go.Proofs.YtikhghmnclpigaaGreatDoor
open Go.RowKit Wsc
theorem slNew_setCell {B : Nat} {w : World} {v : Value} {n : Nat} {fl : List Value} (h : SlNew B w v n fl) (g o : Nat) (hg : g < B) (u : Value) : SlNew B (w.setCell ⟨g, o, none⟩ u) v n fl := by
  obtain ⟨a, c, h1, h2, h3, h4⟩ := h
  refine ⟨a, c, h1, h2, h3, h4.imp id fun ⟨b, o1, x, y, z, r⟩ => ⟨b, o1, x, y, by simpa using z, fun i t ht => ?_⟩⟩
  have hne : ¬ g = b := by omega
  have := r i t ht
  simp [World.cell?_setCell_other, this]
theorem load_raw {w : World} {g : Nat} {v0 v1 v2 : Value} (h : Blk3 w g v0 v1 v2) : (loadVar 38 ⟨g, 0, none⟩).run Tryz.prog w = .ok (.agg #[v0, v1, v2]) w := by
  obtain ⟨c0, c1, c2, _, _, _⟩ := h
  simp [go_sem, c0, c1, c2]
theorem ret_raw {fn : Func} {p : Tmp} {R : Ending → World → Prop} {a : Act} {w : World} {g : Nat} {v0 v1 v2 : Value} (h : fn.results = #[.cell p 38])
    (hp : a.tmps.getD p undef = .pointer (some ⟨g, 0, none⟩)) (hQ : Blk3 w g v0 v1 v2) (hd : a.defers = []) (hR : R (.returned (.agg #[v0, v1, v2])) w) : bodyPost Tryz.prog fn R .ret a w := by
  refine bodyPost_ret (v := .agg #[v0, v1, v2]) ?_ hd hR
  have hp2 : a.tmps[p]?.getD undef = .pointer (some ⟨g, 0, none⟩) := by simpa using hp
  simp [results, h, asAddr, hp2, load_raw hQ]
theorem raw_any (nm s : List UInt8) (w : World) (hs : s.length ≤ 68719476735) :
    Calls Tryz.prog 38 #[.string (bs nm), .string (bs s)] w fun e w' => (∃ a c, e = .returned (.agg #[.string (bs nm), .slice a (cutL s).length c, .bool false]) ∧ TokSl w' a c (cutL s)) ∧ Below w.heap.size w w' := by
  have hA := (Below.refl w.heap.size w).alloc (Nat.le_refl _) (.cells #[.string ⟨#[]⟩, .slice none 0 0, .bool false] 38)
  have hB := Blk3.new w 38 (.string ⟨#[]⟩) (.slice none 0 0) (.bool false)
  have hsz : (w.alloc (.cells #[.string ⟨#[]⟩, .slice none 0 0, .bool false] 38)).heap.size = w.heap.size + 1 := by simp
  generalize hW : w.alloc (.cells #[.string ⟨#[]⟩, .slice none 0 0, .bool false] 38) = W at *
  have C := cut_own (bs s) W (by rw [bs_size]; exact hs)
  rw [bs_data] at C
  have C := Lib.hid C
  have HA := Lib.hid hA
  have HB := Lib.hid hB
  have HW := Lib.hid hW
  clear hA hB hW hs
  go_enter Tryz.func38, Tryz.ntmps38
  go_wp2_with fail
  rw [HW.out]
  refine C.out.mono ?_
  rintro e w1 ⟨⟨v, rfl, hs1⟩, hb1⟩
  obtain ⟨r0, r1, r2, f0, f1, f2⟩ := HB.out.below hb1 (by omega)
  have HB1 := Lib.hid (HA.out.trans (hb1.mono (by omega)))
  have hs2 := SlNew.owns hs1
  obtain ⟨a1, c1, rfl, _⟩ := id hs2
  have HS1 := Lib.hid hs2
  have Q := (Blk3.mk r0 r1 r2 f0 f1 f2).put (.string (bs nm)) (.slice a1 (cutL s).length c1) (.bool false)
  have HQ := Lib.hid Q
  have hw1 := hb1.size
  clear hb1 hs1 hs2 Q
  have HX := Lib.hid (((HB1.out.setCell (p := ⟨w.heap.size, 0, none⟩) (Nat.le_refl _) (.string (bs nm))).setCell (p := ⟨w.heap.size, 1, none⟩) (Nat.le_refl _) (.slice a1 (cutL s).length c1)).setCell (p := ⟨w.heap.size, 2, none⟩) (Nat.le_refl _) (.bool false))
  have HT : Hid (SlAt (((w1.setCell ⟨w.heap.size, 0, none⟩ (.string (bs nm))).setCell ⟨w.heap.size, 1, none⟩ (.slice a1 (cutL s).length c1)).setCell ⟨w.heap.size, 2, none⟩ (.bool false)) (.slice a1 (cutL s).length c1) (cutL s).length (toks (cutL s))) := Lib.hid (SlNew.sl (slNew_setCell (slNew_setCell (slNew_setCell HS1.out w.heap.size 0 (by omega) _) w.heap.size 1 (by omega) _) w.heap.size 2 (by omega) _))
  go_wp2_with fail
  exact ret_raw rfl rfl HQ.out rfl ⟨⟨a1, c1, rfl, ⟨HT.out⟩⟩, HX.out⟩
def ds1 : List Dec := sidesW 9 [⟨2, 1000, 1, []⟩, ⟨1, 1, 0, []⟩] 4
def ds2 : List Dec := [⟨24, ⟨4, 2000, 0, []⟩, false⟩, ⟨25, numV 1000, false⟩, ⟨26, pxV 0, false⟩]
def tx1 : List UInt8 := [49, 112, 120, 32, 97, 117, 116, 111]
theorem tx1_parse : parseL (cutL tx1) = some [⟨2, 1000, 1, []⟩, ⟨1, 1, 0, []⟩] := by decide +kernel
theorem tx2_parse : parseL (cutL [50]) = some [⟨4, 2000, 0, []⟩] := by decide +kernel
theorem tx1_len : (cutL tx1).length = 3 := by decide +kernel
theorem tx2_len : (cutL [50]).length = 1 := by decide +kernel
theorem parse_k1 (a : Option Addr) (c : Nat) (w : World) (hg : Gl w) (hv : TokSl w a c (cutL tx1)) :
    Calls Tryz.prog 14 #[.agg #[.string (bs (sideN 0)), .slice a (cutL tx1).length c, .bool false]] w fun e w' => (∃ v, e = .returned (.tuple #[v, .int .i64 0]) ∧ SlAt w' v 4 (decs (setImp false ds1))) ∧ Below w.heap.size w w' := by
  refine (parse_spread (sideN 0) a c (cutL tx1) false 9 4 true ds1 w hg hv (by decide +kernel) (fun ww => parts_margin ww) (by decide) (by decide) (by decide) ?_).mono ?_
  · intro b pl po pc ww h1 h2 h3 h4 h5 h6 h7 h8 h9 h10
    have ok1 : oksW (9 + 4 * ((0 : Nat) : Int)) [⟨2, 1000, 1, []⟩, ⟨1, 1, 0, []⟩] 4 = true := by decide +kernel
    refine spread_short b (sideN 0) a c (cutL tx1) false _ [⟨2, 1000, 1, []⟩, ⟨1, 1, 0, []⟩] true ds1 ww h1 h2 h5 (by rw [tx1_len]; decide) tx1_parse (by decide) (by decide +kernel) (by rw [text_eq]; decide) ?_
    intro bl o c2 w2 k1 k2 k3 k4 k5 k6
    have S := short_around 0 b 2 bl o c2 [⟨2, 1000, 1, []⟩, ⟨1, 1, 0, []⟩] w2 (by omega) (h1.below k1) (Nat.lt_of_lt_of_le h2 k1.size) h3 (h4.below h2 k1) rfl (by decide) k5 k6 k2 k3 k4
    rw [ok1] at S
    exact S
  · rintro e w' ⟨h1, h2⟩
    unfold ParRes at h1
    rw [if_pos rfl] at h1
    exact ⟨h1, h2⟩
theorem parse_k2 (a : Option Addr) (c : Nat) (w : World) (hg : Gl w) (hv : TokSl w a c (cutL [50])) :
    Calls Tryz.prog 14 #[.agg #[.string (bs flexN), .slice a (cutL [50]).length c, .bool false]] w fun e w' => (∃ v, e = .returned (.tuple #[v, .int .i64 0]) ∧ SlAt w' v 3 (decs (setImp false ds2))) ∧ Below w.heap.size w w' := by
  refine (parse_spread flexN a c (cutL [50]) false 24 3 true ds2 w hg hv (by decide +kernel) (fun ww => parts_flex ww) (by decide) (by decide) (by decide) ?_).mono ?_
  · intro b pl po pc ww h1 h2 h3 h4 h5 h6 h7 h8 h9 h10
    refine spread_short b flexN a c (cutL [50]) false _ [⟨4, 2000, 0, []⟩] true ds2 ww h1 h2 h5 (by rw [tx2_len]; decide) tx2_parse (by decide) (by decide +kernel) (by rw [text_eq]; decide) ?_
    intro bl o c2 w2 k1 k2 k3 k4 k5 k6
    exact short_flex b bl o c2 ⟨4, 2000, 0, []⟩ w2 (h1.below k1) (Nat.lt_of_lt_of_le h2 k1.size) h3 (h4.below h2 k1) rfl (by decide +kernel) k5 k6 k2 k4
  · rintro e w' ⟨h1, h2⟩
    unfold ParRes at h1
    rw [if_pos rfl] at h1
    exact ⟨h1, h2⟩
/-- what Parse gives back for margin: 1px auto. -/
structure K1 (w : World) (b o : Nat) : Prop where
  c0 : w.cell? ⟨b, o + 6 + 1, none⟩ = some (.int .i64 1)
  c1 : w.cell? ⟨b, o + 6 + 2, none⟩ = some (.int .i64 1)
  c2 : w.cell? ⟨b, o + 6 + 3, none⟩ = some (.int .i64 0)
  c3 : w.cell? ⟨b, o + 6 + 4, none⟩ = some (.string ⟨#[]⟩)
structure K2 (w : World) (b o : Nat) : Prop where
  c0 : w.cell? ⟨b, o + 1, none⟩ = some (.int .i64 4)
  c1 : w.cell? ⟨b, o + 2, none⟩ = some (.int .i64 2000)
  c2 : w.cell? ⟨b, o + 3, none⟩ = some (.int .i64 0)
  c3 : w.cell? ⟨b, o + 4, none⟩ = some (.string ⟨#[]⟩)
  d0 : w.cell? ⟨b, o + 12 + 1, none⟩ = some (.int .i64 2)
  d1 : w.cell? ⟨b, o + 12 + 2, none⟩ = some (.int .i64 0)
  d2 : w.cell? ⟨b, o + 12 + 3, none⟩ = some (.int .i64 1)
  d3 : w.cell? ⟨b, o + 12 + 4, none⟩ = some (.string ⟨#[]⟩)
theorem k1_of {w : World} {b o : Nat} (h : CellsAt w b o (decs (setImp false ds1))) : K1 w b o :=
  ⟨h 7 _ rfl, h 8 _ rfl, h 9 _ rfl, h 10 _ rfl⟩
theorem k2_of {w : World} {b o : Nat} (h : CellsAt w b o (decs (setImp false ds2))) : K2 w b o :=
  ⟨h 1 _ rfl, h 2 _ rfl, h 3 _ rfl, h 4 _ rfl, h 13 _ rfl, h 14 _ rfl, h 15 _ rfl, h 16 _ rfl⟩
theorem K1.below {B : Nat} {w w' : World} {b o : Nat} (h : K1 w b o) (hb : Below B w w') (hB : b < B) : K1 w' b o :=
  ⟨(hb.cell (p := ⟨b, _, none⟩) hB).trans h.c0, (hb.cell (p := ⟨b, _, none⟩) hB).trans h.c1, (hb.cell (p := ⟨b, _, none⟩) hB).trans h.c2, (hb.cell (p := ⟨b, _, none⟩) hB).trans h.c3⟩
set_option maxHeartbeats 2000000 in
set_option maxRecDepth 100000 in
theorem known10_any (w : World) (hg : Gl w) : Calls Tryz.prog 10 #[] w fun e w' => e = .returned (.bool true) ∧ Below w.heap.size w w' := by
  have R1 : Hid (Calls Tryz.prog 38 #[.string ⟨#[109, 97, 114, 103, 105, 110]⟩, .string ⟨#[49, 112, 120, 32, 97, 117, 116, 111]⟩] w fun e w' => (∃ a c, e = .returned (.agg #[.string (bs (sideN 0)), .slice a (cutL tx1).length c, .bool false]) ∧ TokSl w' a c (cutL tx1)) ∧ Below w.heap.size w w') := raw_any (sideN 0) tx1 w (by decide)
  have R2 : Hid (∀ ww, Calls Tryz.prog 38 #[.string ⟨#[102, 108, 101, 120]⟩, .string ⟨#[50]⟩] ww fun e w' => (∃ a c, e = .returned (.agg #[.string (bs flexN), .slice a (cutL [50]).length c, .bool false]) ∧ TokSl w' a c (cutL [50])) ∧ Below ww.heap.size ww w') := fun ww => raw_any flexN [50] ww (by decide)
  go_enter Tryz.func10, Tryz.ntmps10
  go_wp2_with fail
  refine R1.out.mono ?_
  rintro e w1 ⟨⟨a1, c1, rfl, hv1⟩, hb1⟩
  have P1 := Lib.hid (parse_k1 a1 c1 w1 (hg.below hb1) hv1)
  have HB1 := Lib.hid hb1
  clear hb1 hv1 R1
  go_wp2_with fail
  refine P1.out.mono ?_
  rintro e w2 ⟨⟨v2, rfl, hs2⟩, hb2⟩
  have HB2 := Lib.hid (HB1.out.trans (hb2.mono HB1.out.size))
  obtain ⟨a2, c2, rfl, hn2, hm2, hcs2⟩ := hs2
  rcases hcs2 with ⟨h, _⟩ | ⟨b2, o2, rfl, hB2, hC2⟩
  · omega
  have HK1 := Lib.hid (k1_of hC2)
  unfold maxLen at hm2
  clear hb2 hC2
  go_wp2_with fail
  refine (R2.out w2).mono ?_
  rintro e w3 ⟨⟨a3, c3, rfl, hv3⟩, hb3⟩
  have HB3 := Lib.hid (HB2.out.trans (hb3.mono HB2.out.size))
  have P3 := Lib.hid (parse_k2 a3 c3 w3 (hg.below HB3.out) hv3)
  have HB23 := Lib.hid hb3
  have hw3 := hb3.size
  clear hb3 hv3 R2
  go_wp2_with fail
  refine P3.out.mono ?_
  rintro e w4 ⟨⟨v4, rfl, hs4⟩, hb4⟩
  have HB4 := Lib.hid (HB3.out.trans (hb4.mono HB3.out.size))
  obtain ⟨a4, c4, rfl, hn4, hm4, hcs4⟩ := hs4
  rcases hcs4 with ⟨h, _⟩ | ⟨b4, o4, rfl, hB4, hC4⟩
  · omega
  obtain ⟨x0, x1, x2, x3⟩ := HK1.out.below (HB23.out.trans (hb4.mono hw3)) hB2
  obtain ⟨y0, y1, y2, y3, z0, z1, z2, z3⟩ := k2_of hC4
  unfold maxLen at hm4
  clear hb4 hC4
  have E1 := fun ww => eqlV ⟨1, 1, 0, []⟩ ⟨1, 1, 0, []⟩ ww
  have E2 := fun ww => eqlV ⟨4, 2000, 0, []⟩ ⟨4, 2000, 0, []⟩ ww
  have E3 := fun ww => eqlV ⟨2, 0, 1, []⟩ ⟨2, 0, 1, []⟩ ww
  rw [show valEq ⟨1, 1, 0, []⟩ ⟨1, 1, 0, []⟩ = true by decide] at E1
  rw [show valEq ⟨4, 2000, 0, []⟩ ⟨4, 2000, 0, []⟩ = true by decide] at E2
  rw [show valEq ⟨2, 0, 1, []⟩ ⟨2, 0, 1, []⟩ = true by decide] at E3
  unfold bs at E1 E2 E3
  go_wp2
  go_ret
  exact ⟨rfl, HB4.out⟩
end Go.Proofs.YtikhghmnclpigaaGreatDoor
