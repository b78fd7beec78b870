/-
  The walks of (*prop.set).short and spread.
  The walk of prop.Parse.
-/
import Derived.Test.YtikhghmnclpigaaGreatDoorParF
namespace Go.Proofs.YtikhghmnclpigaaGreatDoor
open Go.RowKit Wsc
/-- the shorthand of four sides. -/
def sideN (which : Nat) : List UInt8 := if which = 0 then [109, 97, 114, 103, 105, 110] else if which = 1 then [112, 97, 100, 100, 105, 110, 103] else [98, 111, 114, 100, 101, 114, 45, 119, 105, 100, 116, 104]
def flexN : List UInt8 := [102, 108, 101, 120]
/-- what a call leaves in the set, and how. -/
def Left (b : Nat) (w : World) (ok : Bool) (ds : List Dec) (e : Ending) (w' : World) : Prop := e = .returned (.bool ok) ∧ (ok = true → SetAt w' b w.heap.size ds) ∧ Keep b w.heap.size w w'
theorem first_int {B : Nat} {w : World} {v : Value} {n : Nat} {p : Int} (h : SlNew B w v (n + 1) (ints (manyI p (n + 1)))) : ∃ bl o c, v = .slice (some ⟨bl, o, none⟩) (n + 1) c ∧ n + 1 ≤ c ∧ c ≤ maxLen ∧ B ≤ bl ∧ bl < w.heap.size ∧ CellsAt w bl o (ints (manyI p (n + 1))) ∧ w.cell? ⟨bl, o, none⟩ = some (.int .i64 p) := by
  obtain ⟨a, c, rfl, h1, h2, h3⟩ := h
  rcases h3 with ⟨h, _⟩ | ⟨bl, o, rfl, h4, h5, h6⟩
  · omega
  · refine ⟨bl, o, c, rfl, h1, h2, h4, h5, h6, ?_⟩
    have := h6 0 (.int .i64 p) (by simp [ints, manyI, List.range_succ_eq_map])
    simpa using this
set_option maxHeartbeats 1000000 in
theorem short_around (which b n bl o c : Nat) (l : List Val) (w : World) (hw3 : which ≤ 2) (hg : Gl w) (hb : b < w.heap.size) (hgb : 0 < b) (hs : Set0 w b) (hn : n = l.length) (h0 : 0 < n) (hnc : n ≤ c) (hcm : c ≤ maxLen)
    (hbl : bl < w.heap.size) (hne : bl ≠ b) (hC : CellsAt w bl o (vals l)) :
    Calls Tryz.prog 75 #[.pointer (some ⟨b, 0, none⟩), .string (bs (sideN which)), .slice (some ⟨bl, o, none⟩) n c] w (Left b w (decide (n ≤ 4) && oksW (9 + 4 * (which : Int)) l 4) (sidesW (9 + 4 * (which : Int)) l 4)) := by
  have AR : Hid (∀ (ww : World) (h : Below w.heap.size w ww), Calls Tryz.prog 95 #[.pointer (some ⟨b, 0, none⟩), .int .i64 (9 + 4 * (which : Int)), .slice (some ⟨bl, o, none⟩) n c] ww (Left b w (decide (n ≤ 4) && oksW (9 + 4 * (which : Int)) l 4) (sidesW (9 + 4 * (which : Int)) l 4))) := by
    intro ww h
    by_cases h4 : n ≤ 4
    · rw [decide_eq_true h4, Bool.true_and]
      refine (around_any b (9 + 4 * (which : Int)) n bl o c l ww (hg.below h) (Nat.lt_of_lt_of_le hb h.size) hgb (hs.below hb h) (by omega) hn h0 h4 hnc hcm (Nat.lt_of_lt_of_le hbl h.size) hne (hC.below h hbl)).mono ?_
      rintro e w' ⟨h1, h2, h3⟩
      exact ⟨h1, fun _ => h2.mono h.size, (Keep.ofBelow h).trans (h3.mono h.size)⟩
    · rw [decide_eq_false h4, Bool.false_and]
      refine (around_many b (9 + 4 * (which : Int)) n _ c ww (by omega)).mono ?_
      rintro e w' ⟨h1, h3⟩
      exact ⟨h1, (fun hh => by simp at hh), (Keep.ofBelow h).trans (Keep.ofBelow (h3.mono h.size))⟩
  have PA : Hid (Calls Tryz.prog 44 #[.string (bs (sideN which))] w fun e w' => (∃ bl o c, e = .returned (.slice (some ⟨bl, o, none⟩) 4 c) ∧ 4 ≤ c ∧ c ≤ maxLen ∧ w'.cell? ⟨bl, o, none⟩ = some (.int .i64 (9 + 4 * (which : Int)))) ∧ Below w.heap.size w w') := by
    have key : ∀ (p : Int) (nm : List UInt8), Calls Tryz.prog 44 #[.string (bs nm)] w (fun e w' => (∃ v, e = .returned v ∧ SlNew w.heap.size w' v 4 (ints (manyI p 4))) ∧ Below w.heap.size w w') →
        Calls Tryz.prog 44 #[.string (bs nm)] w fun e w' => (∃ bl o c, e = .returned (.slice (some ⟨bl, o, none⟩) 4 c) ∧ 4 ≤ c ∧ c ≤ maxLen ∧ w'.cell? ⟨bl, o, none⟩ = some (.int .i64 p)) ∧ Below w.heap.size w w' := by
      intro p nm H
      refine H.mono ?_
      rintro e w' ⟨⟨v, rfl, hv⟩, hb⟩
      obtain ⟨bl, o, c, rfl, h1, h2, _, _, _, h3⟩ := first_int hv
      exact ⟨⟨bl, o, c, rfl, h1, h2, h3⟩, hb⟩
    rcases (show which = 0 ∨ which = 1 ∨ which = 2 by omega) with rfl | rfl | rfl
    · exact key 9 _ (parts_margin w)
    · exact key 13 _ (parts_padding w)
    · exact key 17 _ (parts_border_width w)
  have n1 : ((bs (sideN which)).toList == [103, 97, 112]) = false ∧ ((bs (sideN which)).toList == [102, 108, 101, 120, 45, 102, 108, 111, 119]) = false ∧ ((bs (sideN which)).toList == [102, 108, 101, 120]) = false := by
    simp only [text_eq]
    rcases (show which = 0 ∨ which = 1 ∨ which = 2 by omega) with rfl | rfl | rfl <;> decide
  obtain ⟨n1, n2, n3⟩ := n1
  clear hs hC hn
  generalize sideN which = nm at *
  generalize hp : 9 + 4 * (which : Int) = p at *
  clear hp
  go_enter Tryz.func75, Tryz.ntmps75
  go_wp2_with fail
  refine PA.out.mono ?_
  rintro e w1 ⟨⟨bl1, o1, c1, rfl, hc1, hc2, hp1⟩, hb1⟩
  unfold maxLen at hc2
  have A1 := Lib.hid (AR.out w1 hb1)
  clear hb1
  go_wp2_with fail
  refine A1.out.mono ?_
  rintro e w2 ⟨rfl, h2, h3⟩
  have H2 := Lib.hid h2
  have H3 := Lib.hid h3
  clear h2 h3
  go_wp2
  go_ret
  exact ⟨rfl, H2.out, H3.out⟩
theorem short_flex (b bl o c : Nat) (v : Val) (w : World) (hg : Gl w) (hb : b < w.heap.size) (hgb : 0 < b) (hs : Set0 w b) (hk : v.kind = 4) (t1 : takesM 24 v = true) (hnc : 1 ≤ c) (hcm : c ≤ maxLen)
    (hbl : bl < w.heap.size) (hC : CellsAt w bl o (vals [v])) :
    Calls Tryz.prog 75 #[.pointer (some ⟨b, 0, none⟩), .string (bs flexN), .slice (some ⟨bl, o, none⟩) 1 c] w (Left b w true [⟨24, v, false⟩, ⟨25, numV 1000, false⟩, ⟨26, pxV 0, false⟩]) := by
  have F := Lib.hid (flex_one b v bl o c w hg hb hgb hs hk t1 hnc hcm hbl hC)
  clear hs hC hk t1
  unfold flexN bs
  go_enter Tryz.func75, Tryz.ntmps75
  go_wp2_with fail
  refine F.out.mono ?_
  rintro e w2 ⟨rfl, h2, h3⟩
  have H2 := Lib.hid h2
  have H3 := Lib.hid h3
  clear h2 h3
  go_wp2
  go_ret
  exact ⟨rfl, fun _ => H2.out, H3.out⟩
abbrev boxR (w : World) (nm : List UInt8) (sl : Value) (imp : Bool) : World := w.alloc (.cells #[.string (bs nm), sl, .bool imp] 38)
set_option maxHeartbeats 2000000 in
set_option maxRecDepth 100000 in
theorem spread_short (b : Nat) (nm : List UInt8) (a : Option Addr) (c : Nat) (ts : List Tok) (imp : Bool) (pv : Value) (l : List Val) (ok : Bool) (ds : List Dec) (w : World) (hg : Gl w) (hb : b < w.heap.size)
    (hv : TokSl w a c ts) (hl : ts.length ≤ 16777216) (hp : parseL ts = some l) (h0 : 0 < l.length) (hno : ∀ v ∈ l, globB v = false) (hnm : ((bs nm).toList == [99, 111, 110, 116, 97, 105, 110, 101, 114]) = false)
    (SH : ∀ (bl o c : Nat) (ww : World), Below w.heap.size w ww → bl < ww.heap.size → bl ≠ b → CellsAt ww bl o (vals l) → l.length ≤ c → c ≤ maxLen →
      Calls Tryz.prog 75 #[.pointer (some ⟨b, 0, none⟩), .string (bs nm), .slice (some ⟨bl, o, none⟩) l.length c] ww (Left b ww ok ds)) :
    Calls Tryz.prog 45 #[.pointer (some ⟨b, 0, none⟩), .agg #[.string (bs nm), .slice a ts.length c, .bool imp], pv] w (Left b w ok ds) := by
  have hA := (Below.refl w.heap.size w).alloc (Nat.le_refl _) (.cells #[.string (bs nm), .slice a ts.length c, .bool imp] 38)
  have hB := Blk3.new w 38 (.string (bs nm)) (.slice a ts.length c) (.bool imp)
  have hsz : (w.alloc (.cells #[.string (bs nm), .slice a ts.length c, .bool imp] 38)).heap.size = w.heap.size + 1 := by simp
  generalize hW : w.alloc (.cells #[.string (bs nm), .slice a ts.length c, .bool imp] 38) = W at *
  have P := parse_new a c ts W (hg.below hA) (hv.below hA) hl
  rw [hp] at P
  have P := Lib.hid P
  have HA := Lib.hid hA
  have HB := Lib.hid hB
  have HW := Lib.hid hW
  have HSH := Lib.hid SH
  have HNO := Lib.hid hno
  obtain ⟨c0, c1, c2, _, _, _⟩ := hB
  clear hA hW hv hl hp SH hno
  go_enter Tryz.func45, Tryz.ntmps45
  go_wp2_with fail
  rw [HW.out]
  go_wp2_with fail
  refine P.out.mono ?_
  rintro e w1 ⟨⟨v1, rfl, hs⟩, hb1⟩
  obtain ⟨a1, c1', rfl, hc1, hm1, hcase⟩ := hs
  rcases hcase with ⟨h, _⟩ | ⟨bl, o, rfl, hBl, hbl, hC⟩
  · omega
  have HB1 := Lib.hid (HA.out.trans (hb1.mono (by omega)))
  obtain ⟨d0, d1, d2, _, _, _⟩ := HB.out.below hb1 (by omega)
  have HW1 := Lib.hid hb1
  have hw1 := hb1.size
  have HC := Lib.hid hC
  unfold maxLen at hm1
  clear hb1 hC c0 c1 c2
  have MX := Lib.hid (fun ww (h : Below w1.heap.size w1 ww) => mixed_none l.length bl o c1' l ww (hg.below (HB1.out.trans (h.mono HB1.out.size))) rfl hc1 (by unfold maxLen; omega) (Nat.lt_of_lt_of_le hbl h.size) (HC.out.below h hbl) HNO.out)
  have FIN : Hid (∀ (w2 : World), Below w1.heap.size w1 w2 → ∀ (w3 : World), Below w2.heap.size w2 w3 → Calls Tryz.prog 75 #[.pointer (some ⟨b, 0, none⟩), .string (bs nm), .slice (some ⟨bl, o, none⟩) l.length c1'] w3 (Left b w ok ds)) := by
    intro w2 h2 w3 h3
    have h13 := h2.trans (h3.mono h2.size)
    have hw3 := HB1.out.trans (h13.mono HB1.out.size)
    refine (HSH.out bl o c1' w3 hw3 (Nat.lt_of_lt_of_le hbl h13.size) (by omega) (HC.out.below h13 hbl) hc1 (by unfold maxLen; omega)).mono ?_
    rintro e w' ⟨k1, k2, k3⟩
    exact ⟨k1, fun h => (k2 h).mono hw3.size, (Keep.ofBelow hw3).trans (k3.mono hw3.size)⟩
  have KB := Lib.hid (fun (w2 : World) (h : Below w1.heap.size w1 w2) => HB.out.below (HW1.out.trans (h.mono hw1)) (by omega))
  by_cases h1 : l.length = 1
  · obtain ⟨v, rfl⟩ := List.length_eq_one_iff.1 h1
    have hgl := HNO.out v (by simp)
    unfold globB at hgl
    have ON := one_28_29_30 v w1 (hg.below HB1.out)
    rw [hgl] at ON
    have ON := Lib.hid ON
    obtain ⟨x0, x1, x2, x3⟩ := valAt HC.out 0 (by simp)
    simp only [List.getElem_cons_zero, Nat.zero_mul, Nat.add_zero, List.length_singleton] at x0 x1 x2 x3 hc1 MX FIN ⊢
    clear h1 hgl h0 HSH HNO HC
    go_wp2_with (go_at_call 29; refine ON.out.mono ?_; rintro e w2 ⟨rfl, hb2⟩; obtain ⟨f0, f1, f2, _, _, _⟩ := KB.out w2 hb2; have M2 := Lib.hid (MX.out w2 hb2); have F2 := Lib.hid (FIN.out w2 hb2); have HB2 := Lib.hid hb2; clear hb2)
    clear x0 x1 x2 x3 d0 d1 d2
    go_wp2_with fail
    refine M2.out.mono ?_
    rintro e w3 ⟨rfl, hb3⟩
    obtain ⟨g0, g1, g2, _, _, _⟩ := KB.out w3 (HB2.out.trans (hb3.mono HB2.out.size))
    have F3 := Lib.hid (F2.out w3 hb3)
    clear f0 f1 f2 hb3
    go_wp2_with fail
    refine F3.out.mono ?_
    rintro e w4 ⟨rfl, h2, h3⟩
    have H2 := Lib.hid h2
    have H3 := Lib.hid h3
    clear h2 h3 g0 g1 g2
    cases ok
    all_goals
      go_wp2
      go_ret
      exact ⟨rfl, (fun hh => by first | exact H2.out hh | exact H2.out trivial | simp at hh), H3.out⟩
  · have h1b : ((l.length : Int) == 1) = false := by simp; omega
    have M2 := Lib.hid (MX.out w1 (Below.refl _ _))
    have F2 := Lib.hid (FIN.out w1 (Below.refl _ _))
    clear h1 h0 HSH HNO HC
    go_wp2_with fail
    refine M2.out.mono ?_
    rintro e w3 ⟨rfl, hb3⟩
    obtain ⟨g0, g1, g2, _, _, _⟩ := KB.out w3 hb3
    have F3 := Lib.hid (F2.out w3 hb3)
    clear d0 d1 d2 hb3
    go_wp2_with fail
    refine F3.out.mono ?_
    rintro e w4 ⟨rfl, h2, h3⟩
    have H2 := Lib.hid h2
    have H3 := Lib.hid h3
    clear h2 h3 g0 g1 g2
    cases ok
    all_goals
      go_wp2
      go_ret
      exact ⟨rfl, (fun hh => by first | exact H2.out hh | exact H2.out trivial | simp at hh), H3.out⟩
set_option maxHeartbeats 2000000 in
set_option maxRecDepth 100000 in
theorem spread_glob (b : Nat) (nm : List UInt8) (a : Option Addr) (c : Nat) (ts : List Tok) (imp : Bool) (v : Val) (p0 : Int) (n pl po pc : Nat) (w : World) (hg : Gl w) (hb : b < w.heap.size) (hgb : 0 < b) (hs : Set0 w b)
    (hv : TokSl w a c ts) (hl : ts.length ≤ 16777216) (hp : parseL ts = some [v]) (hgv : globB v = true)
    (hn : n ≤ 16) (hnc : n ≤ pc) (hcm : pc ≤ maxLen) (hpl : pl < w.heap.size) (hne : pl ≠ b) (hC : CellsAt w pl po (ints (manyI p0 n))) :
    Calls Tryz.prog 45 #[.pointer (some ⟨b, 0, none⟩), .agg #[.string (bs nm), .slice a ts.length c, .bool imp], .slice (some ⟨pl, po, none⟩) n pc] w (Left b w ((manyI p0 n).all (takesM · v)) (sameW p0 v n false)) := by
  have hA := (Below.refl w.heap.size w).alloc (Nat.le_refl _) (.cells #[.string (bs nm), .slice a ts.length c, .bool imp] 38)
  have hB := Blk3.new w 38 (.string (bs nm)) (.slice a ts.length c) (.bool imp)
  have hsz : (w.alloc (.cells #[.string (bs nm), .slice a ts.length c, .bool imp] 38)).heap.size = w.heap.size + 1 := by simp
  generalize hW : w.alloc (.cells #[.string (bs nm), .slice a ts.length c, .bool imp] 38) = W at *
  have P := parse_new a c ts W (hg.below hA) (hv.below hA) hl
  rw [hp] at P
  have P := Lib.hid P
  have HA := Lib.hid hA
  have HW := Lib.hid hW
  have AL := Lib.hid (fun ww (h : Below w.heap.size w ww) => all_any b v p0 n pl po pc ww (hg.below h) (Nat.lt_of_lt_of_le hb h.size) hgb (hs.below hb h) hn hnc hcm (Nat.lt_of_lt_of_le hpl h.size) hne (hC.below h hpl))
  obtain ⟨c0, c1, c2, _, _, _⟩ := hB
  clear hA hW hv hl hp hC hs
  generalize (manyI p0 n).all (takesM · v) = r at *
  go_enter Tryz.func45, Tryz.ntmps45
  go_wp2_with fail
  rw [HW.out]
  go_wp2_with fail
  refine P.out.mono ?_
  rintro e w1 ⟨⟨v1, rfl, hs⟩, hb1⟩
  obtain ⟨a1, c1', rfl, hc1, hm1, hcase⟩ := hs
  rcases hcase with ⟨h, _⟩ | ⟨bl, o, rfl, hBl, hbl, hC⟩
  · simp at h
  have HB1 := Lib.hid (HA.out.trans (hb1.mono (by omega)))
  have hw1 := hb1.size
  have HC := Lib.hid hC
  unfold maxLen at hm1
  clear hb1 hC c0 c1 c2
  have hgl := hgv
  unfold globB at hgl
  have ON := one_28_29_30 v w1 (hg.below HB1.out)
  rw [hgl] at ON
  have ON := Lib.hid ON
  obtain ⟨x0, x1, x2, x3⟩ := valAt HC.out 0 (by simp)
  simp only [List.getElem_cons_zero, Nat.zero_mul, Nat.add_zero, List.length_singleton] at x0 x1 x2 x3 hc1 ⊢
  have XS := Lib.hid (fun ww (h : Below w1.heap.size w1 ww) => (⟨(h.cell (p := ⟨bl, o, none⟩) hbl).trans x0, (h.cell (p := ⟨bl, o + 1, none⟩) hbl).trans x1, (h.cell (p := ⟨bl, o + 2, none⟩) hbl).trans x2, (h.cell (p := ⟨bl, o + 3, none⟩) hbl).trans x3⟩ : ValAt ww bl o v))
  clear hgl HC hgv
  go_wp2_with (go_at_call 29; refine ON.out.mono ?_; rintro e w2 ⟨rfl, hb2⟩; obtain ⟨y0, y1, y2, y3⟩ := XS.out w2 hb2; have A2 := Lib.hid (AL.out w2 (HB1.out.trans (hb2.mono HB1.out.size))); have HB2 := Lib.hid (HB1.out.trans (hb2.mono HB1.out.size)); clear hb2)
  clear x0 x1 x2 x3
  unfold valV at A2
  go_wp2_with fail
  refine A2.out.mono ?_
  rintro e w3 ⟨rfl, h2, h3⟩
  have H2 := Lib.hid h2
  have H3 := Lib.hid h3
  clear h2 h3 y0 y1 y2 y3
  go_wp2
  go_ret
  exact ⟨rfl, fun _ => H2.out.mono HB2.out.size, (Keep.ofBelow HB2.out).trans (H3.out.mono HB2.out.size)⟩
end Go.Proofs.YtikhghmnclpigaaGreatDoor
namespace Go.Proofs.YtikhghmnclpigaaGreatDoor
open Go.RowKit Wsc
/-- the first k are told their importance. -/
def mixK (imp : Bool) (ds : List Dec) (k : Nat) : List Dec := setImp imp (ds.take k) ++ ds.drop k
theorem mix_zero (imp : Bool) (ds : List Dec) : mixK imp ds 0 = ds := by simp [mixK, setImp]
theorem mix_all (imp : Bool) (ds : List Dec) : mixK imp ds ds.length = setImp imp ds := by simp [mixK]
theorem mix_length (imp : Bool) (ds : List Dec) (k : Nat) (h : k ≤ ds.length) : (mixK imp ds k).length = ds.length := by simp [mixK, setImp]; omega
theorem decs_at (A B : List Dec) (d : Dec) : decs (A ++ d :: B) = decs A ++ (decc d ++ decs B) := by simp [decs]
theorem setImp_snoc (imp : Bool) (A : List Dec) (d : Dec) : setImp imp (A ++ [d]) = setImp imp A ++ [⟨d.p, d.v, imp⟩] := by simp [setImp]
theorem mix_set (imp : Bool) (ds : List Dec) (k : Nat) (h : k < ds.length) : (decs (mixK imp ds k)).set (k * 6 + 5) (.bool imp) = decs (mixK imp ds (k + 1)) := by
  have e1 : ds.drop k = ds[k] :: ds.drop (k + 1) := List.drop_eq_getElem_cons h
  have e2 : ds.take (k + 1) = ds.take k ++ [ds[k]] := List.take_succ_eq_append_getElem h
  unfold mixK
  rw [e1, e2]
  have hl : (decs (setImp imp (ds.take k))).length = k * 6 := by rw [decs_length]; simp [setImp]; omega
  rw [setImp_snoc, List.append_assoc, List.singleton_append, decs_at, decs_at, List.set_append_right _ _ (by omega), hl, show k * 6 + 5 - k * 6 = 5 by omega]
  rfl
/-- what Parse gives back. -/
def ParRes (imp ok : Bool) (ds : List Dec) (e : Ending) (w' : World) : Prop :=
  if ok = true then ∃ v, e = .returned (.tuple #[v, .int .i64 0]) ∧ SlAt w' v ds.length (decs (setImp imp ds)) else e = .returned (.tuple #[.slice none 0 0, .int .i64 22])
theorem parRes_no (imp : Bool) (ds : List Dec) (w' : World) : ParRes imp false ds (.returned (.tuple #[.slice none 0 0, .int .i64 22])) w' := by unfold ParRes; rw [if_neg (by simp)]
theorem parRes_yes (imp : Bool) (ds : List Dec) (v : Value) (w' : World) (h : SlAt w' v ds.length (decs (setImp imp ds))) : ParRes imp true ds (.returned (.tuple #[v, .int .i64 0])) w' := by unfold ParRes; rw [if_pos rfl]; exact ⟨v, rfl, h⟩
theorem blk3_keep {b B : Nat} {w w' : World} {g : Nat} {v0 v1 v2 : Value} (h : Blk3 w g v0 v1 v2) (hk : Keep b B w w') (hg : g < B) (hn : g ≠ b) : Blk3 w' g v0 v1 v2 where
  c0 := (hk.cell (p := ⟨g, 0, none⟩) hg hn).trans h.c0
  c1 := (hk.cell (p := ⟨g, 1, none⟩) hg hn).trans h.c1
  c2 := (hk.cell (p := ⟨g, 2, none⟩) hg hn).trans h.c2
  f0 := (hk.frozen (p := ⟨g, 0, none⟩) hg hn).trans h.f0
  f1 := (hk.frozen (p := ⟨g, 1, none⟩) hg hn).trans h.f1
  f2 := (hk.frozen (p := ⟨g, 2, none⟩) hg hn).trans h.f2
set_option maxHeartbeats 2000000 in
set_option maxRecDepth 100000 in
theorem parse_spread (nm : List UInt8) (a : Option Addr) (c : Nat) (ts : List Tok) (imp : Bool) (p0 : Int) (n : Nat) (ok : Bool) (ds : List Dec) (w : World) (hg : Gl w) (hv : TokSl w a c ts) (h0 : placeL namesL nm = 0)
    (PA : ∀ ww, Calls Tryz.prog 44 #[.string (bs nm)] ww fun e w' => (∃ v, e = .returned v ∧ SlNew ww.heap.size w' v n (ints (manyI p0 n))) ∧ Below ww.heap.size ww w')
    (hn : 0 < n) (hd0 : 0 < ds.length) (hd1 : ds.length ≤ 16)
    (SPR : ∀ (b pl po pc : Nat) (ww : World), Gl ww → b < ww.heap.size → 0 < b → Set0 ww b → TokSl ww a c ts → n ≤ pc → pc ≤ maxLen → pl < ww.heap.size → pl ≠ b → CellsAt ww pl po (ints (manyI p0 n)) →
      Calls Tryz.prog 45 #[.pointer (some ⟨b, 0, none⟩), .agg #[.string (bs nm), .slice a ts.length c, .bool imp], .slice (some ⟨pl, po, none⟩) n pc] ww (Left b ww ok ds)) :
    Calls Tryz.prog 14 #[.agg #[.string (bs nm), .slice a ts.length c, .bool imp]] w fun e w' => ParRes imp ok ds e w' ∧ Below w.heap.size w w' := by
  have hA := ((Below.refl w.heap.size w).alloc (Nat.le_refl _) (.cells #[.string (bs nm), .slice a ts.length c, .bool imp] 38)).alloc (by simp) (.cells #[.slice none 0 0] 65)
  have hB := (Blk3.new w 38 (.string (bs nm)) (.slice a ts.length c) (.bool imp)).below ((Below.refl (w.heap.size + 1) _).alloc (by simp) (.cells #[.slice none 0 0] 65)) (by omega)
  have hS : Set0 ((w.alloc (.cells #[.string (bs nm), .slice a ts.length c, .bool imp] 38)).alloc (.cells #[.slice none 0 0] 65)) (w.heap.size + 1) := by
    have h1 : (w.alloc (.cells #[.string (bs nm), .slice a ts.length c, .bool imp] 38)).heap.size = w.heap.size + 1 := by simp
    rw [← h1]
    exact ⟨by rw [World.cell?_alloc_at _ _ _ _ rfl]; rfl, by simp⟩
  have hsz : ((w.alloc (.cells #[.string (bs nm), .slice a ts.length c, .bool imp] 38)).alloc (.cells #[.slice none 0 0] 65)).heap.size = w.heap.size + 2 := by simp
  generalize hW : (w.alloc (.cells #[.string (bs nm), .slice a ts.length c, .bool imp] 38)).alloc (.cells #[.slice none 0 0] 65) = W at *
  have NA := named_any (bs nm) W (hg.below hA)
  rw [bs_data, h0] at NA
  have hgl := hg.lt
  have NA := Lib.hid NA
  have HA := Lib.hid hA
  have HW := Lib.hid hW
  have HB := Lib.hid hB
  have HS := Lib.hid hS
  have HV := Lib.hid hv
  have HSP := Lib.hid SPR
  have HPA := Lib.hid PA
  obtain ⟨c0, c1, c2, _, _, _⟩ := hB
  clear hA hW hS hv SPR PA h0
  go_enter Tryz.func14, Tryz.ntmps14
  go_wp2_with fail
  rw [HW.out]
  go_wp2_with fail
  refine NA.out.mono ?_
  rintro e w1 ⟨rfl, hb1⟩
  obtain ⟨d0, d1, d2, _, _, _⟩ := HB.out.below hb1 (by omega)
  have HB1 := Lib.hid hb1
  have P1 := Lib.hid (HPA.out w1)
  have hw1 := hb1.size
  clear hb1 c0 c1 c2
  go_wp2_with fail
  refine P1.out.mono ?_
  rintro e w2 ⟨⟨v2, rfl, hs2⟩, hb2⟩
  have hb12 := HB1.out.trans (hb2.mono hw1)
  obtain ⟨e0, e1, e2, _, _, _⟩ := HB.out.below hb12 (by omega)
  obtain ⟨pa, pc, rfl, hpc, hpm, hcs⟩ := hs2
  rcases hcs with ⟨h, _⟩ | ⟨pl, po, rfl, hpl1, hpl2, hpC⟩
  · omega
  have hw2 := hb2.size
  have HWW := Lib.hid (HA.out.trans (hb12.mono (by omega)))
  have SP2 := Lib.hid (HSP.out (w.heap.size + 1) pl po pc w2 (hg.below HWW.out) (by omega) (by omega) (HS.out.below (by omega) (hsz ▸ hb12)) (HV.out.below HWW.out) hpc hpm hpl2 (by omega) hpC)
  have HB12 := Lib.hid hb12
  unfold maxLen at hpm
  have hnd : decide ((0 : Int) < (n : Int)) = true := decide_eq_true (by omega)
  clear hb2 hb12 hpC d0 d1 d2
  go_wp2_with fail
  refine SP2.out.mono ?_
  rintro e w3 ⟨rfl, h2, h3⟩
  have H2 := Lib.hid h2
  have H3 := Lib.hid h3
  clear h2 h3 e0 e1 e2
  cases ok
  · clear H2
    go_wp2
    go_ret2
    exact ⟨parRes_no imp ds _, HWW.out.trans ((H3.out.toBelow (by omega)).mono (by omega))⟩
  · obtain ⟨sl, hc3, hf3, hown⟩ := H2.out rfl
    obtain ⟨g, cap, rfl, hg1, hg2, hg3, hg4⟩ := ownsRow_pos hown hd0
    have k3 := blk3_keep HB.out ((Keep.ofBelow (B := w.heap.size + 2) (hsz ▸ HB12.out)).trans (H3.out.mono (by omega))) (by omega) (by omega)
    have HK3 := Lib.hid k3
    have h3b := HWW.out.trans ((H3.out.toBelow (by omega)).mono (by omega) : Below w.heap.size w2 w3)
    have HW3 := Lib.hid h3b
    have HO3 := Lib.hid hown
    have HF3 := Lib.hid hf3
    clear k3 h3b hown hf3 H2 HS HSP HPA HV
    obtain ⟨m, hm⟩ : ∃ m, m = ds.length := ⟨_, rfl⟩
    rw [← hm] at HO3 hd0 hd1 hg3 hc3
    have HM := Lib.hid hm
    clear hm
    go_wp2_with fail
    go_loopw [48] (fun i wr => ∃ k : Nat, i = .int .i64 k ∧ k ≤ m ∧ Hid (wr.ownsRow w2.heap.size 46 6 (.slice (some ⟨g, 0, none⟩) m cap) m (decs (mixK imp ds k))) ∧ Hid (Below w2.heap.size w3 wr)) (fun i _ => m - (intOf i).toNat)
    case atStart => exact ⟨0, rfl, Nat.zero_le _, by rw [mix_zero]; exact HO3, Lib.hid (Below.refl _ _)⟩
    case round =>
      obtain ⟨k, rfl, hk, HO, HBL⟩ := hrel
      have hcb := (HBL.out.cell (p := ⟨w.heap.size + 1, 0, none⟩) (by simp; omega)).trans hc3
      by_cases hlt : k < m
      · obtain ⟨f0, f1, f2, _, _, _⟩ := HK3.out.below HBL.out (by omega)
        have hfz := HO.out.frozenAt (k * 6 + 5)
        have hce := HO.out.cellAt (k * 6 + 5) (by omega)
        have hst := HO.out.stored (k * 6 + 5) (.bool imp)
        have hMS := mix_set imp ds k (by have := HM.out; omega)
        have hgt : (decs (mixK imp ds k))[k * 6 + 5]? = some ((decs (mixK imp ds k))[k * 6 + 5]'(by have := HM.out; rw [decs_length, mix_length _ _ _ (by omega)]; omega)) := List.getElem?_eq_getElem _
        rw [hgt] at hce
        generalize (decs (mixK imp ds k))[k * 6 + 5]'_ = u0 at *
        rw [hMS] at hst
        have HST := Lib.hid hst.1
        have HB2 := Lib.hid (HBL.out.setCell (p := ⟨g, k * 6 + 5, none⟩) hg1 (.bool imp))
        have HMS := Lib.hid hMS
        clear hgt hst hMS
        go_wp2_with fail
        go_region
        all_goals
          go_wp2_with fail
          go_roundw
          case rel => exact ⟨k + 1, by go_num, by omega, Lib.hid (by first | exact HST.out | exact HST.out.drew | (have := (HO.out.drew.stored (k * 6 + 5) (.bool imp)).1; rw [HMS.out] at this; exact this)), Lib.hid (HBL.out.drew.setCell (p := ⟨g, k * 6 + 5, none⟩) hg1 (.bool imp))⟩
          case measure => simp [intOf]; omega
      · have e : k = m := by omega
        subst e
        have hfin := HO.out
        rw [HM.out, mix_all] at hfin
        have HFIN := Lib.hid (SlAt.owns hfin)
        clear hlt hfin
        go_wp2_with fail
        go_ret2
        exact ⟨parRes_yes imp ds _ _ (by first | exact HFIN.out | exact HM.out ▸ HFIN.out | (rw [← HM.out] at HFIN ⊢; exact HFIN.out)), HW3.out.trans (HBL.out.mono (by omega))⟩
set_option maxHeartbeats 2000000 in
set_option maxRecDepth 100000 in
theorem parse_single (nm : List UInt8) (a : Option Addr) (c : Nat) (ts : List Tok) (imp : Bool) (v : Val) (p : Nat) (w : World) (hg : Gl w) (hv : TokSl w a c ts) (h0 : placeL namesL nm = p) (hp0 : 0 < p) (hl : ts.length ≤ 16777216) (hp : parseL ts = some [v]) :
    Calls Tryz.prog 14 #[.agg #[.string (bs nm), .slice a ts.length c, .bool imp]] w fun e w' => ParRes imp (takesM (p : Int) v) [⟨(p : Int), v, false⟩] e w' ∧ Below w.heap.size w w' := by
  have hA := ((Below.refl w.heap.size w).alloc (Nat.le_refl _) (.cells #[.string (bs nm), .slice a ts.length c, .bool imp] 38)).alloc (by simp) (.cells #[.slice none 0 0] 65)
  have hB := (Blk3.new w 38 (.string (bs nm)) (.slice a ts.length c) (.bool imp)).below ((Below.refl (w.heap.size + 1) _).alloc (by simp) (.cells #[.slice none 0 0] 65)) (by omega)
  have hS : Set0 ((w.alloc (.cells #[.string (bs nm), .slice a ts.length c, .bool imp] 38)).alloc (.cells #[.slice none 0 0] 65)) (w.heap.size + 1) := by
    have h1 : (w.alloc (.cells #[.string (bs nm), .slice a ts.length c, .bool imp] 38)).heap.size = w.heap.size + 1 := by simp
    rw [← h1]
    exact ⟨by rw [World.cell?_alloc_at _ _ _ _ rfl]; rfl, by simp⟩
  have hsz : ((w.alloc (.cells #[.string (bs nm), .slice a ts.length c, .bool imp] 38)).alloc (.cells #[.slice none 0 0] 65)).heap.size = w.heap.size + 2 := by simp
  generalize hW : (w.alloc (.cells #[.string (bs nm), .slice a ts.length c, .bool imp] 38)).alloc (.cells #[.slice none 0 0] 65) = W at *
  have NA := named_any (bs nm) W (hg.below hA)
  rw [bs_data, h0] at NA
  have hgl := hg.lt
  have NA := Lib.hid NA
  have HA := Lib.hid hA
  have HW := Lib.hid hW
  have HB := Lib.hid hB
  have HS := Lib.hid hS
  have HV := Lib.hid hv
  have HSI := Lib.hid (fun ww (h : Below w.heap.size w ww) => single_one a c ts v ww (hg.below h) (hv.below h) hl hp)
  have hpu := fun ww (h : Below w.heap.size w ww) (hs : Set0 ww (w.heap.size + 1)) (hb : w.heap.size + 1 < ww.heap.size) => put_any (w.heap.size + 1) ww.heap.size [] (p : Int) v ww (hg.below h) hb (Nat.le_refl _) (hs.at _) (by simp) (by omega)
  simp only [List.nil_append] at hpu
  obtain ⟨ds, hds⟩ : ∃ ds : List Dec, ds = [⟨(p : Int), v, false⟩] := ⟨_, rfl⟩
  rw [← hds] at hpu ⊢
  have hd0 : 0 < ds.length := by rw [hds]; simp
  have hd1 : ds.length ≤ 16 := by rw [hds]; simp
  have HPU := Lib.hid hpu
  clear hds hpu
  obtain ⟨c0, c1, c2, _, _, _⟩ := hB
  clear hA hW hS hv h0 hl hp
  unfold valV at *
  generalize takesM (p : Int) v = ok at *
  go_enter Tryz.func14, Tryz.ntmps14
  go_wp2_with fail
  rw [HW.out]
  go_wp2_with fail
  refine NA.out.mono ?_
  rintro e w1 ⟨rfl, hb1⟩
  obtain ⟨d0, d1, d2, _, _, _⟩ := HB.out.below hb1 (by omega)
  have HB1 := Lib.hid hb1
  have hw1 := hb1.size
  have HA1 := Lib.hid (HA.out.trans (hb1.mono (by omega)))
  have S1 := Lib.hid (HSI.out w1 HA1.out)
  clear hb1 c0 c1 c2
  go_wp2_with fail
  refine S1.out.mono ?_
  rintro e w1b ⟨rfl, hb2⟩
  have hb12 := HB1.out.trans (hb2.mono hw1)
  have hw1b := hb2.size
  have HB12b := Lib.hid hb12
  have HA2 := Lib.hid (HA1.out.trans (hb2.mono HA1.out.size))
  clear hb2 hb12 d0 d1 d2
  have hA3 := HA2.out.alloc HA2.out.size (.cells #[.int .i64 v.kind, .int .i64 v.n, .int .i64 v.d, .string (bs v.name)] 23)
  have hB3 := HB12b.out.alloc (by omega) (.cells #[.int .i64 v.kind, .int .i64 v.n, .int .i64 v.d, .string (bs v.name)] 23)
  have hs3 : (w1b.alloc (.cells #[.int .i64 v.kind, .int .i64 v.n, .int .i64 v.d, .string (bs v.name)] 23)).heap.size = w1b.heap.size + 1 := by simp
  have hv3 := Blk4.new w1b 23 (.int .i64 v.kind) (.int .i64 v.n) (.int .i64 v.d) (.string (bs v.name))
  go_wp2_with fail
  generalize hw2e : w1b.alloc (.cells #[.int .i64 v.kind, .int .i64 v.n, .int .i64 v.d, .string (bs v.name)] 23) = w2 at *
  have hw2 : w1.heap.size ≤ w2.heap.size := by omega
  have HWW := Lib.hid hA3
  have HB12 := Lib.hid hB3
  have P2 := Lib.hid (HPU.out w2 hA3 (HS.out.below (by omega) (hsz ▸ hB3)) (by omega))
  clear hA3 hB3 hw2e hv3
  refine P2.out.mono ?_
  rintro e w3 ⟨rfl, h2, h3⟩
  have H2 := Lib.hid (fun (_ : ok = true) => h2)
  have H3 := Lib.hid h3
  clear h2 h3
  cases ok
  · clear H2
    go_wp2
    go_ret2
    exact ⟨parRes_no imp ds _, HWW.out.trans ((H3.out.toBelow (by omega)).mono (by omega))⟩
  · obtain ⟨sl, hc3, hf3, hown⟩ := H2.out rfl
    obtain ⟨g, cap, rfl, hg1, hg2, hg3, hg4⟩ := ownsRow_pos hown hd0
    have k3 := blk3_keep HB.out ((Keep.ofBelow (B := w.heap.size + 2) (hsz ▸ HB12.out)).trans (H3.out.mono (by omega))) (by omega) (by omega)
    have HK3 := Lib.hid k3
    have h3b := HWW.out.trans ((H3.out.toBelow (by omega)).mono (by omega) : Below w.heap.size w2 w3)
    have HW3 := Lib.hid h3b
    have HO3 := Lib.hid hown
    have HF3 := Lib.hid hf3
    clear k3 h3b hown hf3 H2 HS HV HSI HPU
    obtain ⟨m, hm⟩ : ∃ m, m = ds.length := ⟨_, rfl⟩
    rw [← hm] at HO3 hd0 hd1 hg3 hc3
    have HM := Lib.hid hm
    clear hm
    go_wp2_with fail
    go_loopw [48] (fun i wr => ∃ k : Nat, i = .int .i64 k ∧ k ≤ m ∧ Hid (wr.ownsRow w2.heap.size 46 6 (.slice (some ⟨g, 0, none⟩) m cap) m (decs (mixK imp ds k))) ∧ Hid (Below w2.heap.size w3 wr)) (fun i _ => m - (intOf i).toNat)
    case atStart => exact ⟨0, rfl, Nat.zero_le _, by rw [mix_zero]; exact HO3, Lib.hid (Below.refl _ _)⟩
    case round =>
      obtain ⟨k, rfl, hk, HO, HBL⟩ := hrel
      have hcb := (HBL.out.cell (p := ⟨w.heap.size + 1, 0, none⟩) (by simp; omega)).trans hc3
      by_cases hlt : k < m
      · obtain ⟨f0, f1, f2, _, _, _⟩ := HK3.out.below HBL.out (by omega)
        have hfz := HO.out.frozenAt (k * 6 + 5)
        have hce := HO.out.cellAt (k * 6 + 5) (by omega)
        have hst := HO.out.stored (k * 6 + 5) (.bool imp)
        have hMS := mix_set imp ds k (by have := HM.out; omega)
        have hgt : (decs (mixK imp ds k))[k * 6 + 5]? = some ((decs (mixK imp ds k))[k * 6 + 5]'(by have := HM.out; rw [decs_length, mix_length _ _ _ (by omega)]; omega)) := List.getElem?_eq_getElem _
        rw [hgt] at hce
        generalize (decs (mixK imp ds k))[k * 6 + 5]'_ = u0 at *
        rw [hMS] at hst
        have HST := Lib.hid hst.1
        have HB2 := Lib.hid (HBL.out.setCell (p := ⟨g, k * 6 + 5, none⟩) hg1 (.bool imp))
        have HMS := Lib.hid hMS
        clear hgt hst hMS
        go_wp2_with fail
        go_region
        all_goals
          go_wp2_with fail
          go_roundw
          case rel => exact ⟨k + 1, by go_num, by omega, Lib.hid (by first | exact HST.out | exact HST.out.drew | (have := (HO.out.drew.stored (k * 6 + 5) (.bool imp)).1; rw [HMS.out] at this; exact this)), Lib.hid (HBL.out.drew.setCell (p := ⟨g, k * 6 + 5, none⟩) hg1 (.bool imp))⟩
          case measure => simp [intOf]; omega
      · have e : k = m := by omega
        subst e
        have hfin := HO.out
        rw [HM.out, mix_all] at hfin
        have HFIN := Lib.hid (SlAt.owns hfin)
        clear hlt hfin
        go_wp2_with fail
        go_ret2
        exact ⟨parRes_yes imp ds _ _ (by first | exact HFIN.out | exact HM.out ▸ HFIN.out | (rw [← HM.out] at HFIN ⊢; exact HFIN.out)), HW3.out.trans (HBL.out.mono (by omega))⟩
end Go.Proofs.YtikhghmnclpigaaGreatDoor
