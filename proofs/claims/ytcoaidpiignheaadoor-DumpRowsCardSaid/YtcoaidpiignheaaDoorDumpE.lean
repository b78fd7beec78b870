/-
  The walk of dump.Print.
-/
import Derived.Test.YtcoaidpiignheaaDoorDumpD
import Derived.Test.YtcoaidpiignheaaDoorBuild
namespace Go.Proofs.YtcoaidpiignheaaDoor
open Go.RowKit Wsc
/-- the cells of a row at a place. -/
structure RowAt (w : World) (b o : Nat) (r : RowP) : Prop where
  c0 : w.cell? ⟨b, o, none⟩ = some (.int .i64 r.depth)
  c1 : w.cell? ⟨b, o + 1, none⟩ = some (.string (bs r.tag))
  c2 : w.cell? ⟨b, o + 2, none⟩ = some (.bool r.box.shown)
  c3 : w.cell? ⟨b, o + 3, none⟩ = some (.int .i64 r.box.x)
  c4 : w.cell? ⟨b, o + 4, none⟩ = some (.int .i64 r.box.y)
  c5 : w.cell? ⟨b, o + 5, none⟩ = some (.int .i64 r.box.w)
  c6 : w.cell? ⟨b, o + 6, none⟩ = some (.int .i64 r.box.h)
  c7 : w.cell? ⟨b, o + 7, none⟩ = some (.int .i64 r.box.lines)
theorem rowAt {w : World} {b o : Nat} {l : List RowP} (h : CellsAt w b o (rowsC l)) (i : Nat) (hi : i < l.length) : RowAt w b (o + i * 8) l[i] := by
  have g := fun j hj u hu => h.get rowc_len i j hi hj (u := u) hu
  exact ⟨g 0 (by decide) _ rfl, by have := g 1 (by decide) _ rfl; rwa [← Nat.add_assoc] at this, by have := g 2 (by decide) _ rfl; rwa [← Nat.add_assoc] at this, by have := g 3 (by decide) _ rfl; rwa [← Nat.add_assoc] at this, by have := g 4 (by decide) _ rfl; rwa [← Nat.add_assoc] at this, by have := g 5 (by decide) _ rfl; rwa [← Nat.add_assoc] at this, by have := g 6 (by decide) _ rfl; rwa [← Nat.add_assoc] at this, by have := g 7 (by decide) _ rfl; rwa [← Nat.add_assoc] at this⟩
theorem RowAt.below {B : Nat} {w w' : World} {b o : Nat} {r : RowP} (h : RowAt w b o r) (hb : Below B w w') (hB : b < B) : RowAt w' b o r :=
  ⟨(hb.cell (p := ⟨b, o, none⟩) hB).trans h.c0, (hb.cell (p := ⟨b, o + 1, none⟩) hB).trans h.c1, (hb.cell (p := ⟨b, o + 2, none⟩) hB).trans h.c2, (hb.cell (p := ⟨b, o + 3, none⟩) hB).trans h.c3, (hb.cell (p := ⟨b, o + 4, none⟩) hB).trans h.c4, (hb.cell (p := ⟨b, o + 5, none⟩) hB).trans h.c5, (hb.cell (p := ⟨b, o + 6, none⟩) hB).trans h.c6, (hb.cell (p := ⟨b, o + 7, none⟩) hB).trans h.c7⟩
def printP (l : List RowP) : List UInt8 × Int := if 1024 < l.length then ([], 40) else if (l.all rightR) = true then (linesR l, 0) else ([], 40)
theorem lines_snoc (l : List RowP) (r : RowP) : linesR (l ++ [r]) = linesR l ++ lineR r := by simp [linesR]
theorem cells_snoc (x y : List UInt8) : Lib.byteCells x ++ Lib.strCells (bs y) = Lib.byteCells (x ++ y) := by
  simp [Lib.byteCells, Lib.strCells, bs_data]
set_option maxRecDepth 100000 in
set_option maxHeartbeats 1000000 in
theorem print_any (v : Value) (l : List RowP) (w : World) (hv : SlAt w v l.length (rowsC l)) :
    Calls Tryd.prog 8 #[v] w fun e w' => e = .returned (.tuple #[.string (bs (printP l).1), .int .i64 (printP l).2]) ∧ Below w.heap.size w w' := by
  obtain ⟨a, c, rfl, hnc, hcm, hcase⟩ := hv
  unfold maxLen at hcm
  obtain ⟨n, hn⟩ : ∃ n, n = l.length := ⟨_, rfl⟩
  have HN := Lib.hid hn
  rw [← hn] at hnc hcase ⊢
  by_cases h1 : 1024 < n
  · have HP := Lib.hid (show printP l = ([], 40) by unfold printP; rw [if_pos (by rw [← hn]; exact h1)])
    have hz : (1024 : Int) < (n : Int) := by omega
    clear hcase hn
    go_enter Tryd.func8, Tryd.ntmps8
    go_wp2
    go_ret2
    rw [HP.out]
    exact ⟨rfl, Below.refl _ _⟩
  · have HPB := Lib.hid (fun (x : RowP) (hx : x ∈ l) (hr : rightR x = false) => show printP l = ([], 40) by
      unfold printP
      rw [if_neg (by rw [← hn]; exact h1), if_neg]
      intro h; rw [List.all_eq_true] at h
      have := h x hx; rw [hr] at this; cases this)
    have HPG := Lib.hid (fun (h : ∀ r ∈ l, rightR r = true) => show printP l = (linesR l, 0) by
      unfold printP
      rw [if_neg (by rw [← hn]; exact h1), if_pos (List.all_eq_true.2 h)])
    have hz : ¬ ((1024 : Int) < (n : Int)) := by omega
    have hn1 : n ≤ 1024 := by omega
    have B0 := Lib.fresh_isBuilder 53 5 w
    have HB0 := Lib.hid B0
    have HA := Lib.hid ((Below.refl w.heap.size w).alloc (Nat.le_refl _) (.cells #[.pointer none, .slice none 0 0] 53))
    have HC := Lib.hid hcase
    clear hn B0 h1 hcase
    go_enter Tryd.func8, Tryd.ntmps8
    go_wp2_with fail
    go_loopw [12] (fun i wr => ∃ k : Nat, i = .int .i64 k ∧ k ≤ n ∧ Lib.IsBuilder 53 5 w.heap.size w.heap.size (Lib.byteCells (linesR (l.take k))) wr ∧ Hid (∀ r ∈ l.take k, rightR r = true) ∧ Below w.heap.size w wr) (fun i _ => n - (intOf i).toNat)
    case atStart => exact ⟨0, rfl, by omega, HB0.out, Lib.hid (fun r hr => by simp at hr), HA.out⟩
    case round =>
      obtain ⟨k, rfl, hk, hbu, HR, hbl⟩ := hrel
      have HBU := Lib.hid hbu
      have HBL := Lib.hid hbl
      by_cases hlt : k < n
      · have hkl : k < l.length := by have := HN.out; omega
        obtain ⟨b, o, rfl, hB, hC⟩ : ∃ b o, a = some ⟨b, o, none⟩ ∧ b < w.heap.size ∧ CellsAt w b o (rowsC l) := by
          rcases HC.out with ⟨h0, _⟩ | h
          · omega
          · exact h
        obtain ⟨c0, c1, c2, c3, c4, c5, c6, c7⟩ := (rowAt (hC.below hbl hB) k hkl)
        have hmem : l[k] ∈ l := List.getElem_mem hkl
        have TK := List.take_succ_eq_append_getElem hkl
        have hwr := hbl.size
        generalize l[k] = r at *
        have HTK := Lib.hid TK
        have HM := Lib.hid hmem
        have RT := fun ww => dright_any r ww
        have X0 := Blk8.new wr 49 (.int .i64 r.depth) (.string (bs r.tag)) (.bool r.box.shown) (.int .i64 r.box.x) (.int .i64 r.box.y) (.int .i64 r.box.w) (.int .i64 r.box.h) (.int .i64 r.box.lines)
        have A0 := (Below.refl wr.heap.size wr).alloc (Nat.le_refl _) (.cells #[.int .i64 r.depth, .string (bs r.tag), .bool r.box.shown, .int .i64 r.box.x, .int .i64 r.box.y, .int .i64 r.box.w, .int .i64 r.box.h, .int .i64 r.box.lines] 49)
        have HX0 := Lib.hid X0
        have HA0 := Lib.hid A0
        have hltk := lines_len (l.take k) HR.out
        have hltk2 : (linesR (l.take k)).length ≤ 200000 := by
          have : (l.take k).length ≤ k := List.length_take_le _ _
          omega
        clear X0 A0 TK hmem hC hbu hbl hkl hltk
        cases hr : rightR r
        · rw [hr] at RT
          have HE := Lib.hid (HPB.out r HM.out hr)
          have RT2 := Lib.hid RT
          unfold rowV at RT2
          clear RT hr
          go_wp2_with fail
          refine (RT2.out _).mono ?_
          rintro e w2 ⟨rfl, hb2⟩
          have HB2 := Lib.hid ((HBL.out.trans (HA0.out.mono hwr)).trans (hb2.mono (Nat.le_trans hwr HA0.out.size)))
          clear hb2 c0 c1 c2 c3 c4 c5 c6 c7
          go_wp2_with fail
          go_ret2
          rw [HE.out]
          exact ⟨rfl, HB2.out⟩
        · rw [hr] at RT
          have LN := fun ww => line_any r ww hr
          have hll := line_len r hr
          have HRR := Lib.hid hr
          have RT2 := Lib.hid RT
          have LN2 := Lib.hid LN
          unfold rowV at RT2 LN2
          have HLN := Lib.hid (show (lineR r).length ≤ 111 by unfold lineR; simp; omega)
          have LS := lines_snoc (l.take k) r
          rw [← HTK.out] at LS
          have HLS := Lib.hid LS
          clear RT hr LN hll LS
          generalize lineR r = Y at *
          go_wp2_with fail
          refine (RT2.out _).mono ?_
          rintro e w2 ⟨rfl, hb2⟩
          have HB2 := Lib.hid ((HBL.out.trans (HA0.out.mono hwr)).trans (hb2.mono (Nat.le_trans hwr HA0.out.size)))
          have X2 := HX0.out.below hb2 (by simp)
          have hx2 : wr.heap.size < w2.heap.size := by have := hb2.size; simp at this; omega
          have BU2 := Lib.hid (isBuilder_below (isBuilder_below HBU.out HA0.out) hb2)
          obtain ⟨x0, x1, x2, x3, x4, x5, x6, x7, _, _, _, _, _, _, _, _⟩ := X2
          clear hb2 c0 c1 c2 c3 c4 c5 c6 c7
          go_wp2_with fail
          refine (LN2.out _).mono ?_
          rintro e w3 ⟨rfl, hb3⟩
          have HB3 := Lib.hid (HB2.out.trans (hb3.mono HB2.out.size))
          have BU3 := isBuilder_below BU2.out hb3
          have WS := Lib.hid (ws_any w.heap.size w.heap.size _ (bs Y) w3 BU3 (by rw [Lib.byteCells_length, bs_size]; have := HLN.out; omega) HB3.out.size)
          clear hb3 x0 x1 x2 x3 x4 x5 x6 x7 BU3
          go_wp2_with fail
          refine WS.out.mono ?_
          rintro e w4 ⟨rfl, hbu4, hb4⟩
          rw [cells_snoc, ← HLS.out] at hbu4
          have BU4 := Lib.hid hbu4
          have HB4 := Lib.hid (HB3.out.trans hb4)
          clear hbu4 hb4
          go_wp2_with fail
          go_roundw
          case rel =>
            refine ⟨k + 1, by go_num, by omega, Or.inr BU4.out, Lib.hid ?_, HB4.out⟩
            intro u hu
            rw [HTK.out, List.mem_append] at hu
            rcases hu with hu | hu
            · exact HR.out u hu
            · simp at hu; subst hu; exact HRR.out
          case measure => simp [intOf]; omega
      · have htk : l.take k = l := List.take_of_length_le (by have := HN.out; omega)
        rw [htk] at HR HBU
        have HE := Lib.hid (HPG.out HR.out)
        have ST := Lib.hid (Tryd.Builder_String_any w.heap.size w.heap.size (linesR l) wr HBU.out hbl.size)
        clear hbu hbl htk
        go_wp2_with fail
        refine ST.out.mono ?_
        rintro e w2 ⟨rfl, hb2⟩
        have HB2 := Lib.hid (HBL.out.trans hb2)
        clear hb2
        go_wp2_with fail
        go_ret2
        rw [HE.out]
        exact ⟨rfl, HB2.out⟩
end Go.Proofs.YtcoaidpiignheaaDoor
