/-
  The law PropWords: its walk, whole.
-/
import Derived.Test.YtikhghmnclpigaaGreatDoorParWords
namespace Go.Proofs.YtikhghmnclpigaaGreatDoor
open Go.RowKit Wsc
theorem propWords_out (p n : Int) (imp : Bool) (w : World) (hg : Gl w) (h : ¬ (0 ≤ p ∧ p ≤ 6 ∧ 28 ≤ n ∧ n ≤ 30)) :
    Calls Tryz.prog 5 #[.int .i64 p, .int .i64 n, .bool imp] w fun e w' => e = .returned (.bool true) ∧ Below w.heap.size w w' := by
  have HA := Lib.hid ((Below.refl w.heap.size w).alloc (Nat.le_refl _) (.cells #[.string ⟨#[109, 97, 114, 103, 105, 110]⟩, .string ⟨#[112, 97, 100, 100, 105, 110, 103]⟩, .string ⟨#[98, 111, 114, 100, 101, 114, 45, 119, 105, 100, 116, 104]⟩, .string ⟨#[103, 97, 112]⟩, .string ⟨#[102, 108, 101, 120, 45, 102, 108, 111, 119]⟩, .string ⟨#[102, 108, 101, 120]⟩, .string ⟨#[99, 111, 110, 116, 97, 105, 110, 101, 114]⟩] 9))
  have K := Lib.hid (known10_any _ (hg.below HA.out))
  have c : p < 0 ∨ (0 ≤ p ∧ 6 < p) ∨ (0 ≤ p ∧ p ≤ 6 ∧ n < 28) ∨ (0 ≤ p ∧ p ≤ 6 ∧ 28 ≤ n ∧ 30 < n) := by omega
  clear h
  rcases c with h | ⟨h1, h2⟩ | ⟨h1, h2, h3⟩ | ⟨h1, h2, h3, h4⟩
  all_goals
    go_enter Tryz.func5, Tryz.ntmps5
    go_wp2_with fail
    refine K.out.mono ?_
    rintro e w1 ⟨rfl, hb⟩
    go_wp2
    go_ret
    exact ⟨rfl, HA.out.trans (hb.mono HA.out.size)⟩
/-- the block of names, as it stands. -/
structure NamesB (w W : World) (b k : Nat) (nm : List UInt8) : Prop where
  lo : w.heap.size ≤ b
  lt : b < W.heap.size
  c : W.cell? ⟨b, k, none⟩ = some (.string (bs nm))
  bel : Below w.heap.size w W
theorem NamesB.next {w W W' : World} {b k : Nat} {nm : List UInt8} (h : NamesB w W b k nm) (hb : Below W.heap.size W W') : NamesB w W' b k nm :=
  ⟨h.lo, Nat.lt_of_lt_of_le h.lt hb.size, (hb.cell (p := ⟨b, k, none⟩) h.lt).trans h.c, h.bel.trans (hb.mono h.bel.size)⟩
theorem NamesB.drew {w W : World} {b k : Nat} {nm : List UInt8} (h : NamesB w W b k nm) : NamesB w W.drew b k nm := ⟨h.lo, h.lt, h.c, h.bel.drew⟩
theorem NamesB.alloc {w W : World} {b k : Nat} {nm : List UInt8} (h : NamesB w W b k nm) (o : Obj) : NamesB w (W.alloc o) b k nm := h.next ((Below.refl _ _).alloc (Nat.le_refl _) o)
theorem NamesB.set {w W : World} {b k g o : Nat} {nm : List UInt8} (h : NamesB w W b k nm) (hg : b < g) (u : Value) : NamesB w (W.setCell ⟨g, o, none⟩ u) b k nm :=
  have hne : ¬ g = b := by omega
  ⟨h.lo, by simpa using h.lt, by simp [World.cell?_setCell_other]; exact h.c, h.bel.setCell (p := ⟨g, o, none⟩) (Nat.le_trans h.lo (Nat.le_of_lt hg)) u⟩
theorem seven_get (k : Nat) (hk : k < 7) : ([.string ⟨#[109, 97, 114, 103, 105, 110]⟩, .string ⟨#[112, 97, 100, 100, 105, 110, 103]⟩, .string ⟨#[98, 111, 114, 100, 101, 114, 45, 119, 105, 100, 116, 104]⟩, .string ⟨#[103, 97, 112]⟩, .string ⟨#[102, 108, 101, 120, 45, 102, 108, 111, 119]⟩, .string ⟨#[102, 108, 101, 120]⟩, .string ⟨#[99, 111, 110, 116, 97, 105, 110, 101, 114]⟩] : List Value)[k]'hk = .string (bs (sevenN.getD k [])) := by
  rcases (show k = 0 ∨ k = 1 ∨ k = 2 ∨ k = 3 ∨ k = 4 ∨ k = 5 ∨ k = 6 by omega) with rfl | rfl | rfl | rfl | rfl | rfl | rfl <;> rfl
/-- a list of tokens lies in no block that was made for a raw declaration. -/
theorem tok_apart {w w2 : World} {b o : Nat} {s : ByteArray} {x : Value} {i : Bool} {l : List Tok} (hx : ∀ k n, x ≠ .int k n) (hb : Below (w.alloc (.cells #[.string s, x, .bool i] 38)).heap.size (w.alloc (.cells #[.string s, x, .bool i] 38)) w2)
    (hl : 0 < l.length) (hC : CellsAt w2 b o (toks l)) : b ≠ w.heap.size := by
  rintro rfl
  have t0 := (tokAt hC 0 hl).c0
  rw [Nat.zero_mul, Nat.add_zero, hb.cell (p := ⟨w.heap.size, o, none⟩) (by simp), World.cell?_alloc_at _ _ _ _ rfl] at t0
  match o, t0 with
  | 0, t0 => simp at t0
  | 1, t0 => simp at t0; exact hx _ _ t0
  | 2, t0 => simp at t0
  | o + 3, t0 => simp at t0
theorem TokSl.set {w : World} {a : Option Addr} {c : Nat} {l : List Tok} {g o : Nat} (h : TokSl w a c l) (hg : ∀ b o, a = some ⟨b, o, none⟩ → b ≠ g) (u : Value) : TokSl (w.setCell ⟨g, o, none⟩ u) a c l := by
  obtain ⟨a', c', e, hn, hm, hcase⟩ := h
  simp at e; obtain ⟨rfl, rfl⟩ := e
  refine ⟨_, _, rfl, hn, hm, hcase.imp id ?_⟩
  rintro ⟨b, o2, rfl, hB, hC⟩
  have hne := hg b o2 rfl
  refine ⟨b, o2, rfl, by simpa using hB, fun i u2 hu => ?_⟩
  have hne2 : ¬ g = b := fun e => hne e.symm
  have := hC i u2 hu
  simp [World.cell?_setCell_other, this]
set_option maxRecDepth 100000 in
set_option maxHeartbeats 2000000 in
theorem propWords_in (k n : Nat) (imp : Bool) (w : World) (hg : Gl w) (hk : k < 7) (h1 : 28 ≤ n) (h2 : n ≤ 30) :
    Calls Tryz.prog 5 #[.int .i64 k, .int .i64 n, .bool imp] w fun e w' => e = .returned (.bool true) ∧ Below w.heap.size w w' := by
  have hA := (Below.refl w.heap.size w).alloc (Nat.le_refl _) (.cells (strs sevenN).toArray 9)
  have hS := SlAt.new w (strs sevenN) 7 7 9 (Nat.le_refl _) (by decide)
  have hz : (w.alloc (.cells (strs sevenN).toArray 9)).heap.size = w.heap.size + 1 := by simp
  have hc : (w.alloc (.cells (strs sevenN).toArray 9)).cell? ⟨w.heap.size, k, none⟩ = some (.string (bs (sevenN.getD k []))) := by
    obtain ⟨a, c, e, _, _, hcase⟩ := hS
    simp at e
    rcases hcase with ⟨h, _⟩ | ⟨b, o, h, hB, hC⟩
    · omega
    · rw [← e.1] at h; simp at h
      have := strs_get hC k hk
      rw [← h.1, ← h.2, Nat.zero_add] at this
      rw [this, List.getD_eq_getElem?_getD, List.getElem?_eq_getElem (show k < sevenN.length from hk)]; rfl
  have NB := Lib.hid (NamesB.mk (w := w) (Nat.le_refl _) (by omega) hc hA)
  have RF := Lib.hid (seven_ref k hk)
  have T := fun ww => rtokens_any (wdV n) ww (Nat.zero_le _)
  have hl := word_len ⟨n, by omega⟩ h1
  simp only at hl
  have PW := fun a c ww hg hv => parse_word k n hk h1 h2 imp a c ww hg hv
  have hnm : (sevenN.getD k []) = (sevenN.getD k []) := rfl
  obtain ⟨b1, b2, b3, b4, _⟩ := seven_bounds ⟨k, hk⟩
  simp only at b1 b2 b3 b4
  generalize sevenP k = p0 at *
  generalize sevenC k = cn at *
  unfold valV at T
  have T := Lib.hid T
  have PW := Lib.hid PW
  have K := Lib.hid (fun ww (hb : Below w.heap.size w ww) => known10_any ww (hg.below hb))
  have HL := Lib.hid hl
  have HZ := Lib.hid hz
  clear hA hS hc hnm hl hz
  have hq := seven_get k hk
  have q6 : (k : Int) ≤ 6 := by omega
  have q28 : (28 : Int) ≤ (n : Int) := by omega
  have q30 : (n : Int) ≤ 30 := by omega
  generalize sevenN.getD k [] = nm at *
  go_enter Tryz.func5, Tryz.ntmps5
  go_wp2_with fail
  refine (RF.out _).mono ?_
  rintro e w' ⟨rfl, rfl⟩
  clear hq RF
  go_wp2_with fail
  change Code.wp _ _ _ _ (w.alloc (.cells (strs sevenN).toArray 9))
  generalize w.alloc (.cells (strs sevenN).toArray 9) = W at *
  have NB0 := NB.out
  have q7 : (k : Int) < 7 := by omega
  have q0 : (0 : Int) ≤ (k : Int) := by omega
  go_region_held3 (fun w' => w'.cell? ⟨w.heap.size, k, none⟩ = some (.string (bs nm)) ∧ NamesB w w' w.heap.size k nm)
    (first
      | exact ⟨NB0.c, NB0.drew⟩
      | (go_split_ands; refine ⟨NamesB.c (w := w) (b := w.heap.size) (k := k) (nm := nm) ?_, ?_⟩ <;> exact NamesB.next (by assumption) hb)
      | (go_split_ands; refine ⟨NamesB.c (w := w) (b := w.heap.size) (k := k) (nm := nm) ?_, ?_⟩ <;> exact NamesB.alloc (by assumption) _)
      | (go_split_ands; refine ⟨NamesB.c (w := w) (b := w.heap.size) (k := k) (nm := nm) ?_, ?_⟩ <;> exact NamesB.set (NamesB.set (NamesB.set (by assumption) NB0.lt _) NB0.lt _) NB0.lt _))
    ((go_at_call 13; refine (T.out _).mono ?_; rintro e w2 ⟨⟨a1, c1, rfl, hs1⟩, hb⟩; (go_split_ands; have hN2 := NamesB.next (show NamesB w _ w.heap.size k nm by assumption) hb); (first | (obtain ⟨x0, x1, x2, f0, f1, f2⟩ := (show Blk3 _ W.heap.size (.string ⟨#[]⟩) (.slice none 0 0) (.bool false) from Blk3.new W.drew 38 (.string ⟨#[]⟩) (.slice none 0 0) (.bool false)).below hb (by simp)) | skip)))
  · have NB3 := hN2.alloc (.cells #[.string (bs nm), .slice a1 (tokensL (wdV n)).length c1, .bool imp] 38)
    have HS3 := hs1.below ((Below.refl w2.heap.size w2).alloc (Nat.le_refl _) (.cells #[.string (bs nm), .slice a1 (tokensL (wdV n)).length c1, .bool imp] 38))
    obtain ⟨z0, z1, z2, _, _, _⟩ := Blk3.new w2 38 (.string (bs nm)) (.slice a1 (tokensL (wdV n)).length c1) (.bool imp)
    generalize w2.alloc (.cells #[.string (bs nm), .slice a1 (tokensL (wdV n)).length c1, .bool imp] 38) = w3 at *
    generalize w2.heap.size = g3 at *
    clear hb hN2 hs1
    go_wp2_with fail
    refine (PW.out a1 c1 _ (hg.below NB3.bel) HS3).mono ?_
    rintro e w4 ⟨⟨v4, rfl, hs4⟩, hb4⟩
    have HB4 := Lib.hid (NB3.bel.trans (hb4.mono NB3.bel.size))
    obtain ⟨a4, c4, rfl, hn4, hm4, hcase4⟩ := hs4
    rcases hcase4 with ⟨h, _⟩ | ⟨b4, o4, rfl, hB4, hC4⟩
    · omega
    have HC4 := Lib.hid hC4
    unfold maxLen at hm4
    have NE := Lib.hid (fun i : Nat => neqD ⟨(p0 : Int) + (i : Int), wdV n, imp⟩)
    have gd := gD
    clear hb4 hC4 NB3 HS3
    go_wp2_with fail
    go_loopw [13] (fun i wr => ∃ k : Nat, k ≤ cn ∧ i = .int .i64 k ∧ Hid (Below w4.heap.size w4 wr)) (fun i _ => cn - (intOf i).toNat)
    case atStart => exact ⟨0, by omega, rfl, Lib.hid (Below.refl _ _)⟩
    case round =>
      obtain ⟨i, hi, rfl, HB⟩ := hrel
      by_cases hlt : i < cn
      · have hsz := HB.out.size
        have hb4r := Nat.lt_of_lt_of_le hB4 hsz
        have hi2 : (i : Int) < (cn : Int) := by omega
        have hi0 : (0 : Int) ≤ (i : Int) := by omega
        go_wp2
        have hx : Below w4.heap.size w4 (wr.alloc (.cells #[.int .i64 ((p0 : Int) + (i : Int)), .int .i64 1, .int .i64 n, .int .i64 0, .string ⟨#[]⟩, .bool imp] 46)) := HB.out.alloc HB.out.size _
        have HX := Lib.hid hx
        obtain ⟨y0, y1, y2, y3, y4, y5⟩ := decAt (HC4.out.below hx hB4) i (by rw [sameW_length]; exact hlt)
        have ne := NE.out i
        rw [same_get] at y0 y1 y2 y3 y4 y5
        simp only [wdV] at y1 y2 y3 y4 y5 ne
        rw [show bs [] = ⟨#[]⟩ from rfl] at y4 ne
        have n0 : (wr.alloc (.cells #[.int .i64 ((p0 : Int) + (i : Int)), .int .i64 1, .int .i64 n, .int .i64 0, .string ⟨#[]⟩, .bool imp] 46)).cell? ⟨wr.heap.size, 0, none⟩ = some (.int .i64 ((p0 : Int) + (i : Int))) := by rw [World.cell?_alloc_at _ _ _ _ rfl]; rfl
        have n1 : (wr.alloc (.cells #[.int .i64 ((p0 : Int) + (i : Int)), .int .i64 1, .int .i64 n, .int .i64 0, .string ⟨#[]⟩, .bool imp] 46)).cell? ⟨wr.heap.size, 1, none⟩ = some (.int .i64 1) := by rw [World.cell?_alloc_at _ _ _ _ rfl]; rfl
        have n2 : (wr.alloc (.cells #[.int .i64 ((p0 : Int) + (i : Int)), .int .i64 1, .int .i64 n, .int .i64 0, .string ⟨#[]⟩, .bool imp] 46)).cell? ⟨wr.heap.size, 2, none⟩ = some (.int .i64 n) := by rw [World.cell?_alloc_at _ _ _ _ rfl]; rfl
        have n3 : (wr.alloc (.cells #[.int .i64 ((p0 : Int) + (i : Int)), .int .i64 1, .int .i64 n, .int .i64 0, .string ⟨#[]⟩, .bool imp] 46)).cell? ⟨wr.heap.size, 3, none⟩ = some (.int .i64 0) := by rw [World.cell?_alloc_at _ _ _ _ rfl]; rfl
        have n4 : (wr.alloc (.cells #[.int .i64 ((p0 : Int) + (i : Int)), .int .i64 1, .int .i64 n, .int .i64 0, .string ⟨#[]⟩, .bool imp] 46)).cell? ⟨wr.heap.size, 4, none⟩ = some (.string ⟨#[]⟩) := by rw [World.cell?_alloc_at _ _ _ _ rfl]; rfl
        have n5 : (wr.alloc (.cells #[.int .i64 ((p0 : Int) + (i : Int)), .int .i64 1, .int .i64 n, .int .i64 0, .string ⟨#[]⟩, .bool imp] 46)).cell? ⟨wr.heap.size, 5, none⟩ = some (.bool imp) := by rw [World.cell?_alloc_at _ _ _ _ rfl]; rfl
        generalize wr.alloc (.cells #[.int .i64 ((p0 : Int) + (i : Int)), .int .i64 1, .int .i64 n, .int .i64 0, .string ⟨#[]⟩, .bool imp] 46) = wx at *
        clear hx
        go_quiet (fail)
        go_wp2
        go_roundw
        case rel => exact ⟨i + 1, by omega, by go_num, Lib.hid (below_drewN HX.out _)⟩
        case measure => simp [intOf]; omega
      · go_wp2_with fail
        refine (K.out _ (HB4.out.trans (HB.out.mono HB4.out.size))).mono ?_
        rintro e w5 ⟨rfl, hb5⟩
        go_wp2
        go_ret
        exact ⟨rfl, (HB4.out.trans (HB.out.mono HB4.out.size)).trans (hb5.mono (HB4.out.trans (HB.out.mono HB4.out.size)).size)⟩
  · have hap : ∀ b o, a1 = some ⟨b, o, none⟩ → b ≠ W.heap.size := fun b o e => by
      obtain ⟨b', o', e', hB', hC'⟩ := hs1.at_ (by have := HL.out; omega)
      rw [e] at e'; simp at e'
      obtain ⟨rfl, rfl⟩ := e'
      exact tok_apart (w := W) (fun _ _ => by simp) (show Below (W.alloc (.cells #[.string ⟨#[]⟩, .slice none 0 0, .bool false] 38)).heap.size (W.alloc (.cells #[.string ⟨#[]⟩, .slice none 0 0, .bool false] 38)) w2 from ((Below.refl _ _).drew).trans hb) (by have := HL.out; omega) hC'
    have NB3 := ((hN2.set (o := 0) NB0.lt (.string (bs nm))).set (o := 1) NB0.lt (.slice a1 (tokensL (wdV n)).length c1)).set (o := 2) NB0.lt (.bool imp)
    have HS3 := ((hs1.set (o := 0) hap (.string (bs nm))).set (o := 1) hap (.slice a1 (tokensL (wdV n)).length c1)).set (o := 2) hap (.bool imp)
    obtain ⟨z0, z1, z2, _, _, _⟩ := (Blk3.mk x0 x1 x2 f0 f1 f2).put (.string (bs nm)) (.slice a1 (tokensL (wdV n)).length c1) (.bool imp)
    generalize (((w2.setCell ⟨W.heap.size, 0, none⟩ (.string (bs nm))).setCell ⟨W.heap.size, 1, none⟩ (.slice a1 (tokensL (wdV n)).length c1)).setCell ⟨W.heap.size, 2, none⟩ (.bool imp)) = w3 at *
    generalize W.heap.size = g3 at *
    clear hb hN2 hs1 x0 x1 x2 f0 f1 f2 hap
    go_wp2_with fail
    refine (PW.out a1 c1 _ (hg.below NB3.bel) HS3).mono ?_
    rintro e w4 ⟨⟨v4, rfl, hs4⟩, hb4⟩
    have HB4 := Lib.hid (NB3.bel.trans (hb4.mono NB3.bel.size))
    obtain ⟨a4, c4, rfl, hn4, hm4, hcase4⟩ := hs4
    rcases hcase4 with ⟨h, _⟩ | ⟨b4, o4, rfl, hB4, hC4⟩
    · omega
    have HC4 := Lib.hid hC4
    unfold maxLen at hm4
    have NE := Lib.hid (fun i : Nat => neqD ⟨(p0 : Int) + (i : Int), wdV n, imp⟩)
    have gd := gD
    clear hb4 hC4 NB3 HS3
    go_wp2_with fail
    go_loopw [13] (fun i wr => ∃ k : Nat, k ≤ cn ∧ i = .int .i64 k ∧ Hid (Below w4.heap.size w4 wr)) (fun i _ => cn - (intOf i).toNat)
    case atStart => exact ⟨0, by omega, rfl, Lib.hid (Below.refl _ _)⟩
    case round =>
      obtain ⟨i, hi, rfl, HB⟩ := hrel
      by_cases hlt : i < cn
      · have hsz := HB.out.size
        have hb4r := Nat.lt_of_lt_of_le hB4 hsz
        have hi2 : (i : Int) < (cn : Int) := by omega
        have hi0 : (0 : Int) ≤ (i : Int) := by omega
        go_wp2
        have hx : Below w4.heap.size w4 (wr.alloc (.cells #[.int .i64 ((p0 : Int) + (i : Int)), .int .i64 1, .int .i64 n, .int .i64 0, .string ⟨#[]⟩, .bool imp] 46)) := HB.out.alloc HB.out.size _
        have HX := Lib.hid hx
        obtain ⟨y0, y1, y2, y3, y4, y5⟩ := decAt (HC4.out.below hx hB4) i (by rw [sameW_length]; exact hlt)
        have ne := NE.out i
        rw [same_get] at y0 y1 y2 y3 y4 y5
        simp only [wdV] at y1 y2 y3 y4 y5 ne
        rw [show bs [] = ⟨#[]⟩ from rfl] at y4 ne
        have n0 : (wr.alloc (.cells #[.int .i64 ((p0 : Int) + (i : Int)), .int .i64 1, .int .i64 n, .int .i64 0, .string ⟨#[]⟩, .bool imp] 46)).cell? ⟨wr.heap.size, 0, none⟩ = some (.int .i64 ((p0 : Int) + (i : Int))) := by rw [World.cell?_alloc_at _ _ _ _ rfl]; rfl
        have n1 : (wr.alloc (.cells #[.int .i64 ((p0 : Int) + (i : Int)), .int .i64 1, .int .i64 n, .int .i64 0, .string ⟨#[]⟩, .bool imp] 46)).cell? ⟨wr.heap.size, 1, none⟩ = some (.int .i64 1) := by rw [World.cell?_alloc_at _ _ _ _ rfl]; rfl
        have n2 : (wr.alloc (.cells #[.int .i64 ((p0 : Int) + (i : Int)), .int .i64 1, .int .i64 n, .int .i64 0, .string ⟨#[]⟩, .bool imp] 46)).cell? ⟨wr.heap.size, 2, none⟩ = some (.int .i64 n) := by rw [World.cell?_alloc_at _ _ _ _ rfl]; rfl
        have n3 : (wr.alloc (.cells #[.int .i64 ((p0 : Int) + (i : Int)), .int .i64 1, .int .i64 n, .int .i64 0, .string ⟨#[]⟩, .bool imp] 46)).cell? ⟨wr.heap.size, 3, none⟩ = some (.int .i64 0) := by rw [World.cell?_alloc_at _ _ _ _ rfl]; rfl
        have n4 : (wr.alloc (.cells #[.int .i64 ((p0 : Int) + (i : Int)), .int .i64 1, .int .i64 n, .int .i64 0, .string ⟨#[]⟩, .bool imp] 46)).cell? ⟨wr.heap.size, 4, none⟩ = some (.string ⟨#[]⟩) := by rw [World.cell?_alloc_at _ _ _ _ rfl]; rfl
        have n5 : (wr.alloc (.cells #[.int .i64 ((p0 : Int) + (i : Int)), .int .i64 1, .int .i64 n, .int .i64 0, .string ⟨#[]⟩, .bool imp] 46)).cell? ⟨wr.heap.size, 5, none⟩ = some (.bool imp) := by rw [World.cell?_alloc_at _ _ _ _ rfl]; rfl
        generalize wr.alloc (.cells #[.int .i64 ((p0 : Int) + (i : Int)), .int .i64 1, .int .i64 n, .int .i64 0, .string ⟨#[]⟩, .bool imp] 46) = wx at *
        clear hx
        go_quiet (fail)
        go_wp2
        go_roundw
        case rel => exact ⟨i + 1, by omega, by go_num, Lib.hid (below_drewN HX.out _)⟩
        case measure => simp [intOf]; omega
      · go_wp2_with fail
        refine (K.out _ (HB4.out.trans (HB.out.mono HB4.out.size))).mono ?_
        rintro e w5 ⟨rfl, hb5⟩
        go_wp2
        go_ret
        exact ⟨rfl, (HB4.out.trans (HB.out.mono HB4.out.size)).trans (hb5.mono (HB4.out.trans (HB.out.mono HB4.out.size)).size)⟩
theorem propWords_walk (p n : Int) (imp : Bool) (w : World) (hg : Gl w) :
    Calls Tryz.prog 5 #[.int .i64 p, .int .i64 n, .bool imp] w fun e w' => e = .returned (.bool true) ∧ Below w.heap.size w w' := by
  by_cases h : 0 ≤ p ∧ p ≤ 6 ∧ 28 ≤ n ∧ n ≤ 30
  · obtain ⟨k, rfl⟩ := Int.eq_ofNat_of_zero_le (show 0 ≤ p by omega)
    obtain ⟨m, rfl⟩ := Int.eq_ofNat_of_zero_le (show 0 ≤ n by omega)
    exact propWords_in k m imp w hg (by omega) (by omega) (by omega)
  · exact propWords_out p n imp w hg h
end Go.Proofs.YtikhghmnclpigaaGreatDoor
