/-
  The walk of dump.Rows.
-/
import Derived.Test.YtcoaidpiignheaaDoorTreeH
import Derived.Test.YtcoaidpiignheaaDoorParseA
namespace Go.Proofs.YtcoaidpiignheaaDoor
open Go.RowKit Wsc
theorem boxc_len (b : BoxP) : (boxc b).length = 6 := rfl
def boxesC (l : List BoxP) : List Value := l.flatMap boxc
structure BoxAt (w : World) (b o : Nat) (r : BoxP) : Prop where
  c0 : w.cell? ⟨b, o, none⟩ = some (.bool r.shown)
  c1 : w.cell? ⟨b, o + 1, none⟩ = some (.int .i64 r.x)
  c2 : w.cell? ⟨b, o + 2, none⟩ = some (.int .i64 r.y)
  c3 : w.cell? ⟨b, o + 3, none⟩ = some (.int .i64 r.w)
  c4 : w.cell? ⟨b, o + 4, none⟩ = some (.int .i64 r.h)
  c5 : w.cell? ⟨b, o + 5, none⟩ = some (.int .i64 r.lines)
theorem boxAt {w : World} {b o : Nat} {l : List BoxP} (h : CellsAt w b o (boxesC l)) (i : Nat) (hi : i < l.length) : BoxAt w b (o + i * 6) l[i] := by
  have g := fun j hj u hu => h.get boxc_len i j hi hj (u := u) hu
  exact ⟨g 0 (by decide) _ rfl, by have := g 1 (by decide) _ rfl; rwa [← Nat.add_assoc] at this, by have := g 2 (by decide) _ rfl; rwa [← Nat.add_assoc] at this, by have := g 3 (by decide) _ rfl; rwa [← Nat.add_assoc] at this, by have := g 4 (by decide) _ rfl; rwa [← Nat.add_assoc] at this, by have := g 5 (by decide) _ rfl; rwa [← Nat.add_assoc] at this⟩
theorem BoxAt.below {B : Nat} {w w' : World} {b o : Nat} {r : BoxP} (h : BoxAt w b o r) (hb : Below B w w') (hB : b < B) : BoxAt w' b o r :=
  ⟨(hb.cell (p := ⟨b, o, none⟩) hB).trans h.c0, (hb.cell (p := ⟨b, o + 1, none⟩) hB).trans h.c1, (hb.cell (p := ⟨b, o + 2, none⟩) hB).trans h.c2, (hb.cell (p := ⟨b, o + 3, none⟩) hB).trans h.c3, (hb.cell (p := ⟨b, o + 4, none⟩) hB).trans h.c4, (hb.cell (p := ⟨b, o + 5, none⟩) hB).trans h.c5⟩
def rowL (l : List NodeM) (bs : List BoxP) (i : Nat) : RowP := match l[i]?, bs[i]? with | some m, some b => ⟨depthL l i, m.tag, b⟩ | _, _ => zeroRow
theorem rowL_in (l : List NodeM) (bs : List BoxP) (i : Nat) (h1 : i < l.length) (h2 : i < bs.length) : rowL l bs i = ⟨depthL l i, l[i].tag, bs[i]⟩ := by
  unfold rowL; rw [List.getElem?_eq_getElem h1, List.getElem?_eq_getElem h2]
def rowsL (l : List NodeM) (bs : List BoxP) (k : Nat) : List RowP := (List.range k).map (rowL l bs)
theorem rowsL_len (l : List NodeM) (bs : List BoxP) (k : Nat) : (rowsL l bs k).length = k := by simp [rowsL]
theorem rowsL_succ (l : List NodeM) (bs : List BoxP) (k : Nat) : rowsL l bs (k + 1) = rowsL l bs k ++ [rowL l bs k] := by simp [rowsL, List.range_succ]
theorem rowsL_mem (l : List NodeM) (bs : List BoxP) (k n : Nat) (h : k < n) : rowL l bs k ∈ rowsL l bs n := List.mem_map.2 ⟨k, List.mem_range.2 h, rfl⟩
def rowsP (l : List NodeM) (bs : List BoxP) : List RowP × Int :=
  if checkL l ≠ 0 then ([], 34) else if l.length ≠ bs.length then ([], 1) else if (rowsL l bs l.length).all rightR = true then (rowsL l bs l.length, 0) else ([], 40)
theorem check_len (l : List NodeM) (h : checkL l = 0) : 0 < l.length ∧ l.length ≤ 1024 := by
  unfold checkL at h
  by_cases h0 : l.length = 0
  · rw [if_pos h0] at h; omega
  · rw [if_neg h0] at h
    by_cases h1 : 1024 < l.length
    · rw [if_pos h1] at h; omega
    · omega
theorem make_rows (n : Nat) (hn : n ≤ 1000000) (w : World) : (Instr.makeSlice 22 (.int .i64 0) (.int .i64 (n : Int))).run Tryd.prog w = .ok (.slice (some ⟨w.heap.size, 0, none⟩) 0 n) (w.alloc (.cells (madeCells (Value.agg #[.int .i64 0, .string ⟨#[]⟩, .bool false, .int .i64 0, .int .i64 0, .int .i64 0, .int .i64 0, .int .i64 0]).cells (n * 8)) 49)) := by
  obtain ⟨i0, hi, hz0, hz1, hz2⟩ := info_parts infoRow
  have hr := run_make (P := Tryd.prog) w 22 49 i0 _ Tryd.underlying22 hi hz0 .i64 .i64 0 n (by omega) (by omega) (by rw [hz2]; omega) (by omega)
  simp only [Int.toNat_natCast, Int.toNat_zero] at hr
  rw [hz1] at hr
  exact hr
theorem own_made (w : World) (z : Array Value) (n size : Nat) (t : TypeId) (hn : n ≤ maxLen) : (w.alloc (.cells (madeCells z (n * size)) t)).ownsRow w.heap.size t size (.slice (some ⟨w.heap.size, 0, none⟩) 0 n) 0 [] :=
  ⟨by simp, Or.inr ⟨w.heap.size, n, _, rfl, Nat.le_refl _, heap_alloc_new w _, Nat.zero_le _, hn, size_madeCells _ _, by simp⟩⟩
def RowsRes (C : List RowP × Int) (e : Ending) (w' : World) : Prop := ∃ v, e = .returned (.tuple #[v, .int .i64 C.2]) ∧ SlAt w' v C.1.length (rowsC C.1)
theorem rowsRes_nil (w : World) (C : List RowP × Int) (e : Int) (h : C = ([], e)) : RowsRes C (.returned (.tuple #[.slice none 0 0, .int .i64 e])) w := by
  subst h; exact ⟨_, rfl, SlAt.nil _⟩
structure LateR (w w' : World) : Prop where
  bel : Below w.heap.size w w'
  lt : w.heap.size < w'.heap.size
theorem LateR.next {w w1 w2 : World} (h : LateR w w1) (hb : Below w1.heap.size w1 w2) : LateR w w2 := ⟨h.1.trans (hb.mono h.1.size), Nat.lt_of_lt_of_le h.2 hb.size⟩
theorem LateR.alloc {w w1 : World} (h : LateR w w1) (o : Obj) : LateR w (w1.alloc o) := ⟨h.1.alloc h.1.size o, by have := h.2; simp; omega⟩
theorem LateR.drew {w w1 : World} (h : LateR w w1) : LateR w w1.drew := ⟨h.1.drew, h.2⟩
set_option maxRecDepth 100000 in
set_option maxHeartbeats 4000000 in
theorem rows_any (a : Option Addr) (c : Nat) (l : List NodeM) (ab : Option Addr) (cb : Nat) (bx : List BoxP) (w : World) (h : NodesAt w a c l) (hb : SlAt w (.slice ab bx.length cb) bx.length (boxesC bx)) :
    Calls Tryd.prog 15 #[.slice a l.length c, .slice ab bx.length cb] w fun e w' => RowsRes (rowsP l bx) e w' ∧ Below w.heap.size w w' := by
  have hcap := h.cap
  have CK := check_any a c l w h
  have HP := Lib.hid (show rowsP l bx = (if checkL l ≠ 0 then ([], 34) else if l.length ≠ bx.length then ([], 1) else if (rowsL l bx l.length).all rightR = true then (rowsL l bx l.length, 0) else ([], 40)) from rfl)
  generalize hR : rowsP l bx = R at *
  clear hR
  by_cases h0 : checkL l = 0
  · have hlen := check_len l h0
    rw [h0] at CK
    have CK2 := Lib.hid CK
    by_cases h1 : l.length = bx.length
    · have HP2 := Lib.hid (HP.out.trans ((if_neg (by simpa using h0)).trans (if_neg (by simpa using h1))))
      obtain ⟨b, o, rfl, hB, hC⟩ := h.at_ (by omega)
      obtain ⟨b2, o2, rfl, hB2, hC2⟩ : ∃ b o, ab = some ⟨b, o, none⟩ ∧ b < w.heap.size ∧ CellsAt w b o (boxesC bx) := by
        obtain ⟨a1, c1, e, _, _, x3⟩ := hb
        cases e
        rcases x3 with ⟨h0, _⟩ | x3
        · omega
        · exact x3
      have HC := Lib.hid hC
      have HC2 := Lib.hid hC2
      have DP := Lib.hid (fun k (hk : k < l.length) ww (hb : Below w.heap.size w ww) => depth_any (some ⟨b, o, none⟩) c l ww (h.below hb) k hk (by omega))
      have hmk := fun ww => make_rows l.length (by omega) ww
      have RT := Lib.hid (fun r ww => dright_any r ww)
      have RL := Lib.hid (rowL_in l bx)
      obtain ⟨n, hn⟩ : ∃ n, n = l.length := ⟨_, rfl⟩
      have HN := Lib.hid hn
      have HNB := Lib.hid (hn.trans h1)
      have hnb : ((n : Int) != (n : Int)) = false := by simp
      rw [← h1] 
      rw [← hn] at hcap CK2 HP2 hlen DP hmk ⊢
      clear h hb CK h0 h1 hC hC2 hn
      go_enter Tryd.func15, Tryd.ntmps15
      go_wp2_with fail
      refine CK2.out.mono ?_
      rintro e w1 ⟨rfl, hb1⟩
      have HB1 := Lib.hid hb1
      have hw1 := hb1.size
      clear hb1
      have OWN := Lib.hid (own_made w1 #[.int .i64 0, .string ⟨#[]⟩, .bool false, .int .i64 0, .int .i64 0, .int .i64 0, .int .i64 0, .int .i64 0] n 8 49 (by unfold maxLen; omega))
      have HA := Lib.hid (HB1.out.alloc HB1.out.size (.cells (madeCells #[.int .i64 0, .string ⟨#[]⟩, .bool false, .int .i64 0, .int .i64 0, .int .i64 0, .int .i64 0, .int .i64 0] (n * 8)) 49))
      go_wp2_with fail
      generalize w1.alloc (.cells (madeCells #[.int .i64 0, .string ⟨#[]⟩, .bool false, .int .i64 0, .int .i64 0, .int .i64 0, .int .i64 0, .int .i64 0] (n * 8)) 49) = W2 at *
      have OWN2 := Lib.hid (ownsRow_base OWN.out hw1)
      clear OWN hmk
      go_loopw [6, 25] (fun u0 i wr => ∃ (k : Nat) (u : Value), u = u0 ∧ i = .int .i64 k ∧ k ≤ n ∧ wr.ownsRow w.heap.size 49 8 u k (rowsC (rowsL l bx k)) ∧ Hid ((rowsL l bx k).all rightR = true) ∧ Below w.heap.size w wr) (fun _ i _ => n - (intOf i).toNat)
      case atStart => exact ⟨0, _, rfl, rfl, by omega, OWN2.out, Lib.hid rfl, HA.out⟩
      case round =>
        obtain ⟨k, u, rfl, rfl, hk, hown, HR, hbl⟩ := hrel
        have HBL := Lib.hid hbl
        have HOW := Lib.hid hown
        have hwr := hbl.size
        by_cases hlt : k < n
        · have hkl : k < l.length := by have := HN.out; omega
          have hkb : k < bx.length := by have := HNB.out; omega
          obtain ⟨c0, c1, c2, c3, c4, c5⟩ := (nodeAt (HC.out.below hbl hB) k hkl)
          have XB := boxAt (HC2.out.below hbl hB2) k hkb
          have DP2 := Lib.hid (fun ww hb => DP.out k hlt ww hb)
          have RLK := Lib.hid (show rowsL l bx (k + 1) = rowsL l bx k ++ [⟨depthL l k, l[k].tag, bx[k]⟩] by rw [rowsL_succ, RL.out k hkl hkb])
          have RMK := Lib.hid (show (⟨depthL l k, l[k].tag, bx[k]⟩ : RowP) ∈ rowsL l bx n by rw [← RL.out k hkl hkb]; exact rowsL_mem l bx k n hlt)
          have hbk : b < wr.heap.size := Nat.lt_of_lt_of_le hB hwr
          have hb2r : b2 < wr.heap.size := Nat.lt_of_lt_of_le hB2 hwr
          generalize l[k] = m at *
          generalize bx[k] = x at *
          generalize (depthL l k : Int) = dk at *
          have RT2 := Lib.hid (fun ww => by have := RT.out ⟨dk, m.tag, x⟩ ww; unfold rowV at this; exact this)
          have A0 := (Below.refl wr.heap.size wr).alloc (Nat.le_refl _) (.cells #[.int .i64 m.parent, .string (bs m.tag), .string (bs m.id), .slice m.ca m.classes.length m.cc, .slice m.aa m.attrs.length m.ac, .string (bs m.text)] 76)
          obtain ⟨_, t1, _, _, _, _⟩ := node_box wr 76 (.int .i64 m.parent) (.string (bs m.tag)) (.string (bs m.id)) (.slice m.ca m.classes.length m.cc) (.slice m.aa m.attrs.length m.ac) (.string (bs m.text))
          have hL0 : LateR wr (wr.alloc (.cells #[.int .i64 m.parent, .string (bs m.tag), .string (bs m.id), .slice m.ca m.classes.length m.cc, .slice m.aa m.attrs.length m.ac, .string (bs m.text)] 76)) := ⟨A0, by simp⟩
          have XB2 := XB.below A0 hb2r
          clear hown hbl hkl hkb XB A0
          go_wp2_with fail
          generalize wr.alloc (.cells #[.int .i64 m.parent, .string (bs m.tag), .string (bs m.id), .slice m.ca m.classes.length m.cc, .slice m.aa m.attrs.length m.ac, .string (bs m.text)] 76) = W3 at *
          obtain ⟨x0, x1, x2, x3, x4, x5⟩ := XB2
          clear c0 c1 c2 c3 c4 c5
          have XW := Lib.hid (show BoxAt W3.drew b2 (o2 + k * 6) x from ⟨x0, x1, x2, x3, x4, x5⟩)
          have hW3 := hL0.lt
          have hb2W := Nat.lt_trans hb2r hW3
          have NB := Lib.hid ((Blk8.new W3 49 (.int .i64 0) (.string ⟨#[]⟩) (.bool false) (.int .i64 0) (.int .i64 0) (.int .i64 0) (.int .i64 0) (.int .i64 0)).drew)
          have XA := Lib.hid (XW.out.below ((Below.refl W3.heap.size W3.drew).alloc (Nat.le_refl _) (.cells #[.int .i64 0, .string ⟨#[]⟩, .bool false, .int .i64 0, .int .i64 0, .int .i64 0, .int .i64 0, .int .i64 0] 49)) hb2W)
          have LA := Lib.hid (hL0.drew.alloc (.cells #[.int .i64 0, .string ⟨#[]⟩, .bool false, .int .i64 0, .int .i64 0, .int .i64 0, .int .i64 0, .int .i64 0] 49))
          go_region_with (first
            | (go_at_call 29; refine (DP2.out W3.drew (HBL.out.trans ((LateR.bel (LateR.drew hL0)).mono hwr))).mono ?_; rintro e w2 ⟨rfl, hb⟩; have t1' := (hb.cell (p := ⟨wr.heap.size, 1, none⟩) (by exact hL0.lt)).trans (show W3.drew.cell? ⟨wr.heap.size, 1, none⟩ = some (.string (bs m.tag)) from t1); obtain ⟨y0, y1, y2, y3, y4, y5⟩ := XW.out.below hb (by exact Nat.lt_trans hb2r hL0.lt); have HB4 := Lib.hid (hL0.bel.drew.trans (hb.mono hL0.bel.size)); have hq1 : wr.heap.size < w2.heap.size := Nat.lt_of_lt_of_le hL0.lt hb.size; have hq2 : b2 < w2.heap.size := Nat.lt_trans hb2r hq1; clear hb)
            | (go_at_call 29; refine (DP2.out (W3.drew.alloc (.cells #[.int .i64 0, .string ⟨#[]⟩, .bool false, .int .i64 0, .int .i64 0, .int .i64 0, .int .i64 0, .int .i64 0] 49)) (HBL.out.trans (LA.out.bel.mono hwr))).mono ?_; rintro e w2 ⟨rfl, hb⟩; have hs3 : W3.heap.size < (W3.drew.alloc (.cells #[.int .i64 0, .string ⟨#[]⟩, .bool false, .int .i64 0, .int .i64 0, .int .i64 0, .int .i64 0, .int .i64 0] 49)).heap.size := (by simp); have t1' := (hb.cell (p := ⟨wr.heap.size, 1, none⟩) (by exact LA.out.lt)).trans (show (W3.drew.alloc (.cells #[.int .i64 0, .string ⟨#[]⟩, .bool false, .int .i64 0, .int .i64 0, .int .i64 0, .int .i64 0, .int .i64 0] 49)).cell? ⟨wr.heap.size, 1, none⟩ = some (.string (bs m.tag)) by rw [World.cell?_alloc_past _ _ _ (by exact hW3)]; exact t1); obtain ⟨y0, y1, y2, y3, y4, y5⟩ := (show BoxAt (W3.drew.alloc (.cells #[.int .i64 0, .string ⟨#[]⟩, .bool false, .int .i64 0, .int .i64 0, .int .i64 0, .int .i64 0, .int .i64 0] 49)) b2 (o2 + k * 6) x from XA.out).below hb (by exact Nat.lt_trans hb2W hs3); have N8 := (show Blk8 (W3.drew.alloc (.cells #[.int .i64 0, .string ⟨#[]⟩, .bool false, .int .i64 0, .int .i64 0, .int .i64 0, .int .i64 0, .int .i64 0] 49)) W3.heap.size (.int .i64 0) (.string ⟨#[]⟩) (.bool false) (.int .i64 0) (.int .i64 0) (.int .i64 0) (.int .i64 0) (.int .i64 0) from NB.out).below hb (by exact hs3); have HN8 := Lib.hid N8; obtain ⟨z0, z1, z2, z3, z4, z5, z6, z7, f0, f1, f2, f3, f4, f5, f6, f7⟩ := N8; have HB4 := Lib.hid (LA.out.bel.trans (hb.mono LA.out.bel.size)); have hq1 : wr.heap.size < w2.heap.size := Nat.lt_of_lt_of_le LA.out.lt hb.size; have hq2 : b2 < w2.heap.size := Nat.lt_trans hb2r hq1; clear hb))
          all_goals
            first
              | (have B8 := Lib.hid (HN8.out.put (.int .i64 dk) (.string (bs m.tag)) (.bool x.shown) (.int .i64 x.x) (.int .i64 x.y) (.int .i64 x.w) (.int .i64 x.h) (.int .i64 x.lines))
                 have HB5 := Lib.hid (below_put8 HB4.out (Nat.le_of_lt hW3) (.int .i64 dk) (.string (bs m.tag)) (.bool x.shown) (.int .i64 x.x) (.int .i64 x.y) (.int .i64 x.w) (.int .i64 x.h) (.int .i64 x.lines))
                 generalize ((((((((w2.setCell ⟨W3.heap.size, 0, none⟩ (.int .i64 dk)).setCell ⟨W3.heap.size, 1, none⟩ (.string (bs m.tag))).setCell ⟨W3.heap.size, 2, none⟩ (.bool x.shown)).setCell ⟨W3.heap.size, 3, none⟩ (.int .i64 x.x)).setCell ⟨W3.heap.size, 4, none⟩ (.int .i64 x.y)).setCell ⟨W3.heap.size, 5, none⟩ (.int .i64 x.w)).setCell ⟨W3.heap.size, 6, none⟩ (.int .i64 x.h)).setCell ⟨W3.heap.size, 7, none⟩ (.int .i64 x.lines)) = W4 at B8 HB5 ⊢
                 clear z0 z1 z2 z3 z4 z5 z6 z7 f0 f1 f2 f3 f4 f5 f6 f7 HN8
                 generalize W3.heap.size = g at B8 ⊢)
              | (have B8 := Lib.hid (Blk8.new w2 49 (.int .i64 dk) (.string (bs m.tag)) (.bool x.shown) (.int .i64 x.x) (.int .i64 x.y) (.int .i64 x.w) (.int .i64 x.h) (.int .i64 x.lines))
                 have HB5 := Lib.hid (HB4.out.alloc HB4.out.size (.cells #[.int .i64 dk, .string (bs m.tag), .bool x.shown, .int .i64 x.x, .int .i64 x.y, .int .i64 x.w, .int .i64 x.h, .int .i64 x.lines] 49))
                 generalize w2.alloc (.cells #[.int .i64 dk, .string (bs m.tag), .bool x.shown, .int .i64 x.x, .int .i64 x.y, .int .i64 x.w, .int .i64 x.h, .int .i64 x.lines] 49) = W4 at B8 HB5 ⊢
                 generalize w2.heap.size = g at B8 ⊢)
            clear y0 y1 y2 y3 y4 y5 t1' HB4
            have HB6 := Lib.hid (HBL.out.trans (HB5.out.mono hwr))
            have HO6 := Lib.hid (ownsRow_below HOW.out HB5.out)
            have hg4 := World.block_lt_of_cell? W4 _ B8.out.c0
            obtain ⟨q0, q1, q2, q3, q4, q5, q6, q7, f0, f1, f2, f3, f4, f5, f6, f7⟩ := B8.out
            go_wp2_with fail
            refine (RT2.out _).mono ?_
            rintro e w5 ⟨rfl, hb5⟩
            clear q0 q1 q2 q3 q4 q5 q6 q7 f0 f1 f2 f3 f4 f5 f6 f7
            obtain ⟨q0, q1, q2, q3, q4, q5, q6, q7, f0, f1, f2, f3, f4, f5, f6, f7⟩ := B8.out.below hb5 hg4
            have HB7 := Lib.hid (HB6.out.trans (hb5.mono HB6.out.size))
            have HO7 := Lib.hid (ownsRow_below HO6.out hb5)
            have hw5 := HB7.out.size
            clear hb5
            cases hr : rightR ⟨dk, m.tag, x⟩
            · have HAL := Lib.hid (show R = ([], 40) by rw [HP2.out, if_neg (fun h => by have := List.all_eq_true.1 h _ RMK.out; rw [hr] at this; cases this)])
              clear hr
              go_wp2_with fail
              go_ret2
              exact ⟨rowsRes_nil _ _ _ HAL.out, HB7.out⟩
            · have HRN := Lib.hid (show (rowsL l bx (k + 1)).all rightR = true by rw [RLK.out, List.all_append, HR.out]; simp [hr])
              clear hr
              go_wp2_with (first
                | (at_builtin; refine wpList_append_at rfl _ _ 22 rfl w.heap.size 49 _ 8 72 Tryd.underlying22 infoRow rfl (by decide) (by decide) _ _ _ rfl HO7.out [.int .i64 dk, .string (bs m.tag), .bool x.shown, .int .i64 x.x, .int .i64 x.y, .int .i64 x.w, .int .i64 x.h, .int .i64 x.lines] (w5.heap.size) rfl rfl rfl (fun u hu => by simp at hu; rcases hu with rfl | rfl | rfl | rfl | rfl | rfl | rfl | rfl <;> rfl) (by omega) hw5 ?_; intro v' w6 hown' hb'; have HB' := Lib.hid (HB7.out.trans hb'); have HO' := Lib.hid hown'; clear hb' hown'))
              go_roundw
              case rel => exact ⟨k + 1, _, rfl, by go_num, by omega, by rw [RLK.out, rowsC_snoc]; exact HO'.out, HRN, HB'.out⟩
              case measure => simp [intOf]; omega
        · have hke : k = n := by omega
          have HAL := Lib.hid (show R = (rowsL l bx n, 0) by rw [HP2.out, if_pos (by rw [← hke]; exact HR.out)])
          have hlr : (rowsL l bx k).length = k := rowsL_len l bx k
          have HLR := Lib.hid hlr
          have HKE := Lib.hid hke
          clear hown hbl hlt hlr
          subst hke
          go_wp2_with fail
          go_ret2
          refine ⟨?_, HBL.out⟩
          rw [HAL.out]
          refine ⟨_, rfl, ?_⟩
          simp only [HLR.out]
          exact SlAt.owns HOW.out
    · have HP2 := Lib.hid (HP.out.trans ((if_neg (by simpa using h0)).trans (if_pos h1)))
      have hne : (((l.length : Nat) : Int) != ((bx.length : Nat) : Int)) = true := by
        rw [bne_iff_ne]; intro e; exact h1 (by omega)
      have hl2 : bx.length ≤ 9223372036854775807 := by obtain ⟨a', c', e, g1, g2, _⟩ := hb; unfold maxLen at g2; omega
      clear h hb h0 h1 CK hlen
      generalize l.length = n at *
      generalize bx.length = n2 at *
      go_enter Tryd.func15, Tryd.ntmps15
      go_wp2_with fail
      refine CK2.out.mono ?_
      rintro e w1 ⟨rfl, hb1⟩
      have HB1 := Lib.hid hb1
      clear hb1
      go_wp2_with fail
      go_ret2
      exact ⟨rowsRes_nil _ _ _ HP2.out, HB1.out⟩
  · have HP2 := Lib.hid (HP.out.trans (if_pos h0))
    have CK2 := Lib.hid CK
    have hz : (checkL l != 0) = true := by simpa using h0
    clear h hb CK h0
    generalize checkL l = ck at *
    generalize l.length = n at *
    go_enter Tryd.func15, Tryd.ntmps15
    go_wp2_with fail
    refine CK2.out.mono ?_
    rintro e w1 ⟨rfl, hb1⟩
    have HB1 := Lib.hid hb1
    clear hb1
    go_wp2_with fail
    go_ret2
    exact ⟨rowsRes_nil _ _ _ HP2.out, HB1.out⟩
end Go.Proofs.YtcoaidpiignheaaDoor
