/-
  The walks of layer 17's values: is, place, length, least, font.
-/
import Derived.Test.YtfiidocojooghaaDoorStyleB
namespace Go.Proofs.YtfiidocojooghaaDoor
open Go.RowKit Wsc
/-- a field of a style, as it lies. -/
def Sty.cell (s : Sty) (i : Nat) : Value := if i = 1 then .bool s.b else if i = 52 then .string (bs s.nm) else .int .i64 (s.f i)
/-- the maker's block: the style so far, the parent's, the bases. -/
structure MkAt (w : World) (g : Nat) (c : Nat → Value) (P : Sty) (wd ht : Int) : Prop where
  lt : g < w.heap.size
  c : ∀ i, i < 55 → w.cell? ⟨g, i, none⟩ = some (c i)
  f : ∀ i, i < 55 → w.frozen? ⟨g, i, none⟩ = false
  p : ∀ i, i < 55 → w.cell? ⟨g, 55 + i, none⟩ = some (Sty.cell P i)
  cw : w.cell? ⟨g, 110, none⟩ = some (.int .i64 wd)
  ch : w.cell? ⟨g, 111, none⟩ = some (.int .i64 ht)
theorem MkAt.below {B : Nat} {w w' : World} {g : Nat} {c : Nat → Value} {P : Sty} {wd ht : Int} (h : MkAt w g c P wd ht) (hb : Below B w w') (hg : g < B) : MkAt w' g c P wd ht where
  lt := Nat.lt_of_lt_of_le h.lt hb.size
  c := fun i hi => (hb.cell (p := ⟨g, i, none⟩) hg).trans (h.c i hi)
  f := fun i hi => (hb.frozen (p := ⟨g, i, none⟩) hg).trans (h.f i hi)
  p := fun i hi => (hb.cell (p := ⟨g, 55 + i, none⟩) hg).trans (h.p i hi)
  cw := (hb.cell (p := ⟨g, 110, none⟩) hg).trans h.cw
  ch := (hb.cell (p := ⟨g, 111, none⟩) hg).trans h.ch
/-- a later world, in which what was there still stands. -/
structure Ext (w w' : World) : Prop where
  lt : w.heap.size < w'.heap.size
  bel : Below w.heap.size w w'
theorem Ext.next {w w1 w2 : World} (h : Ext w w1) (hb : Below w1.heap.size w1 w2) : Ext w w2 := ⟨Nat.lt_of_lt_of_le h.1 hb.size, h.2.trans (hb.mono h.2.size)⟩
theorem Ext.drew {w w1 : World} (h : Ext w w1) : Ext w w1.drew := ⟨h.1, h.2.drew⟩
theorem Ext.lt' {w w1 : World} {g : Nat} (h : Ext w w1) (hg : g < w.heap.size) : g < w1.heap.size := Nat.lt_trans hg h.1
theorem isT_any (v : Val) (s : List UInt8) (w : World) (hg : Gl w) :
    Calls Tryd.prog 14 #[.agg #[.int .i64 v.kind, .int .i64 v.n, .int .i64 v.d, .string (bs v.name)], .string (bs s)] w fun e w' => e = .returned (.bool (decide (v.kind = 1) && decide (textV v = s))) ∧ Below w.heap.size w w' := by
  by_cases h : v.kind = 1
  · obtain ⟨k, n, d, nm⟩ := v
    simp only at h
    subst h
    have HC := Lib.hid (box4 ⟨1, n, d, nm⟩ w)
    have TX := text_any n (w.alloc (.cells #[.int .i64 1, .int .i64 n, .int .i64 d, .string (bs nm)] 34)) (hg.below ((Below.refl _ _).alloc (Nat.le_refl _) _))
    have hb := beq_texts (bs (atL wordsL n)) (bs s)
    rw [bs_data, bs_data] at hb
    have TX := Lib.hid TX
    unfold textV
    simp only
    generalize atL wordsL n = t at *
    go_enter Tryd.func14, Tryd.ntmps14
    go_wp2_with (go_at_call 20; refine TX.out.mono ?_; rintro e w1 ⟨rfl, hb1⟩)
    go_ret
    exact ⟨ret_bb (by simp), after1 hb1⟩
  · go_enter Tryd.func14, Tryd.ntmps14
    go_wp2
    go_ret
    exact ⟨ret_bb (by simp [h]), (Below.refl _ _).alloc (Nat.le_refl _) _⟩
theorem placeFromM_at (t : List UInt8) (l : List (List UInt8)) (k j : Nat) (h : k < l.length) : placeFromM t (l.drop k) j = if l[k] = t then j else placeFromM t (l.drop (k + 1)) (j + 1) := by
  rw [List.drop_eq_getElem_cons h, placeFromM]
theorem placeFromM_end (t : List UInt8) (l : List (List UInt8)) (k j : Nat) (h : ¬ k < l.length) : placeFromM t (l.drop k) j = 0 := by
  rw [List.drop_of_length_le (by omega)]; rfl
theorem style_place (l : List UInt8) (v : Val) (w : World) (hg : Gl w) (hs : l.length ≤ 16777216) :
    Calls Tryd.prog 41 #[.string (bs l), .agg #[.int .i64 v.kind, .int .i64 v.n, .int .i64 v.d, .string (bs v.name)]] w fun e w' => e = .returned (.int .i64 (placeFromM (textV v) ((pieces (bs l)).map (·.data.toList)) 0 : Nat)) ∧ Below w.heap.size w w' := by
  have hN := pieces_le (bs l) (by rw [bs_size]; exact hs)
  have HC := Lib.hid (box4 v w)
  have S := Lib.hid (split_b (bs l) (w.alloc (.cells #[.int .i64 v.kind, .int .i64 v.n, .int .i64 v.d, .string (bs v.name)] 34)) (hg.below ((Below.refl _ _).alloc (Nat.le_refl _) _)) (by rw [bs_size]; exact hs))
  generalize pieces (bs l) = ps at *
  have hlen : (ps.map (·.data.toList)).length = ps.length := by simp
  have TX := Lib.hid (fun ww (hb : Below w.heap.size w ww) => text_any v.n ww (hg.below hb))
  unfold textV
  generalize atL wordsL v.n = t at *
  go_enter Tryd.func41, Tryd.ntmps41
  go_wp2_with (go_at_call 49; refine S.out.mono ?_; rintro e w1 ⟨⟨g, hg1, hg2, rfl, hcs⟩, hb⟩)
  have hW := Lib.hid (after1 hb)
  have hcs := Lib.hid hcs
  go_loopw [10] (fun i wr => ∃ k : Nat, k ≤ ps.length ∧ i = .int .i64 k ∧ Below w1.heap.size w1 wr ∧ Hid (placeFromM t (ps.map (·.data.toList)) 0 = placeFromM t ((ps.map (·.data.toList)).drop k) k)) (fun i _ => ps.length - (intOf i).toNat)
  case atStart => exact ⟨0, Nat.zero_le _, rfl, Below.refl _ _, Lib.hid rfl⟩
  case round =>
    obtain ⟨k, hk, rfl, hbw, H⟩ := hrel
    have hbB := Lib.hid (hb.trans (hbw.mono hb.size))
    obtain ⟨c0, c1, c2, c3⟩ := HC.out _ hbB.out
    have hF := Lib.hid (hW.out.trans (hbw.mono hW.out.size))
    by_cases hlt : k < ps.length
    · have hcell := (hbw.cell (p := ⟨g, 0 + k, none⟩) hg1).trans (hcs.out k hlt)
      rw [Nat.zero_add, List.getD_eq_getElem?_getD, List.getElem?_eq_getElem hlt] at hcell
      simp only [Option.getD_some] at hcell
      have P := placeFromM_at t (ps.map (·.data.toList)) k k (by omega)
      rw [show (ps.map (·.data.toList))[k] = ps[k].data.toList by simp] at P
      have hbt := beq_texts ps[k] (bs t)
      rw [bs_data] at hbt
      have TX2 := Lib.hid (TX.out _ hF.out)
      generalize ps[k] = x at *
      by_cases hx : x.data.toList = t
      · rw [if_pos hx] at P
        rw [decide_eq_true hx] at hbt
        have P := Lib.hid P
        clear hx hlen
        go_wp2_with (go_at_call 20; refine TX2.out.mono ?_; rintro e w2 ⟨rfl, hb2⟩)
        go_ret
        exact ⟨ret_in (by rw [H.out, P.out]), hF.out.trans (hb2.mono hF.out.size)⟩
      · rw [if_neg hx] at P
        rw [decide_eq_false hx] at hbt
        have P := Lib.hid P
        clear hx hlen
        go_wp2_with (go_at_call 20; refine TX2.out.mono ?_; rintro e w2 ⟨rfl, hb2⟩)
        go_round
        case rel => exact ⟨k + 1, by omega, by go_num, hbw.trans (hb2.mono hbw.size), by rw [Hid, H.out, P.out]⟩
        case measure => simp [intOf]; omega
    · have P := Lib.hid (placeFromM_end t (ps.map (·.data.toList)) k k (by omega))
      clear hlen
      go_wp2
      go_ret
      exact ⟨ret_in (by rw [H.out, P.out]; rfl), hF.out⟩
set_option maxRecDepth 100000 in
theorem length_any (v : Val) (g : Nat) (c : Nat → Value) (P : Sty) (font wd ht : Int) (w : World) (hm : MkAt w g c P wd ht) (hf : c 53 = .int .i64 font) :
    Calls Tryd.prog 24 #[.pointer (some ⟨g, 0, none⟩), .agg #[.int .i64 v.kind, .int .i64 v.n, .int .i64 v.d, .string (bs v.name)]] w fun e w' => e = .returned (.int .i64 (measureM v font wd ht)) ∧ Below w.heap.size w w' := by
  have hA := Lib.hid ((Below.refl w.heap.size w).alloc (Nat.le_refl _) (.cells #[.int .i64 v.kind, .int .i64 v.n, .int .i64 v.d, .string (bs v.name)] 34))
  have hm1 := hm.below hA.out hm.lt
  have q53 := hm1.c 53 (by decide)
  rw [hf] at q53
  have q110 := hm1.cw
  have q111 := hm1.ch
  obtain ⟨q0, q1, q2, q3⟩ := box4 v w _ (Below.refl _ _)
  have hlt := hm1.lt
  have M := Lib.hid (fun ww => measure_any v font wd ht ww)
  generalize measureM v font wd ht = r at *
  have hgw := hm.lt
  clear hm hm1 hf
  go_enter Tryd.func24, Tryd.ntmps24
  go_wp2_with fail
  have hX0 : Ext w (w.alloc (.cells #[.int .i64 v.kind, .int .i64 v.n, .int .i64 v.d, .string (bs v.name)] 34)) := ⟨by simp, hA.out⟩
  generalize (w.alloc (.cells #[.int .i64 v.kind, .int .i64 v.n, .int .i64 v.d, .string (bs v.name)] 34)) = W at *
  go_region_held3 (fun w' => w'.cell? ⟨w.heap.size, 0, none⟩ = some (.int .i64 v.kind) ∧ w'.cell? ⟨w.heap.size, 1, none⟩ = some (.int .i64 v.n) ∧ w'.cell? ⟨w.heap.size, 2, none⟩ = some (.int .i64 v.d) ∧ w'.cell? ⟨w.heap.size, 3, none⟩ = some (.string (bs v.name)) ∧
      w'.cell? ⟨g, 53, none⟩ = some (.int .i64 font) ∧ w'.cell? ⟨g, 110, none⟩ = some (.int .i64 wd) ∧ w'.cell? ⟨g, 111, none⟩ = some (.int .i64 ht) ∧ Ext w w')
    (first
      | exact ⟨q0, q1, q2, q3, q53, q110, q111, Ext.drew hX0⟩
      | (go_split_ands
         refine ⟨?_, ?_, ?_, ?_, ?_, ?_, ?_, ?_⟩
         all_goals (first | (refine (hb.cell (Ext.lt (by assumption))).trans ?_; assumption) | (refine (hb.cell (Ext.lt' (by assumption) hgw)).trans ?_; assumption) | exact Ext.next (by assumption) hb | exact Ext.next (Ext.drew hX0) hb)))
    ((go_at_call 39; refine (M.out _).mono ?_; rintro e w1 ⟨rfl, hb⟩))
  go_wp2
  go_ret
  rename_i hH
  exact ⟨rfl, hH.2.2.2.2.2.2.2.bel⟩
set_option maxRecDepth 100000 in
theorem least_any (v : Val) (g : Nat) (c : Nat → Value) (P : Sty) (font wd ht : Int) (w : World) (hm : MkAt w g c P wd ht) (hf : c 53 = .int .i64 font) :
    Calls Tryd.prog 23 #[.pointer (some ⟨g, 0, none⟩), .agg #[.int .i64 v.kind, .int .i64 v.n, .int .i64 v.d, .string (bs v.name)]] w fun e w' => e = .returned (.int .i64 (leastM (measureM v font wd ht))) ∧ Below w.heap.size w w' := by
  have hA := Lib.hid ((Below.refl w.heap.size w).alloc (Nat.le_refl _) (.cells #[.int .i64 v.kind, .int .i64 v.n, .int .i64 v.d, .string (bs v.name)] 34))
  have L := Lib.hid (length_any v g c P font wd ht _ (hm.below hA.out hm.lt) hf)
  have E := Lib.hid (show leastM (measureM v font wd ht) = max (measureM v font wd ht) 0 from rfl)
  generalize measureM v font wd ht = r at *
  generalize leastM r = r2 at *
  clear hm hf
  go_enter Tryd.func23, Tryd.ntmps23
  go_wp2_with (go_at_call 24; refine L.out.mono ?_; rintro e w1 ⟨rfl, hb⟩)
  all_goals go_ret
  all_goals exact ⟨ret_i (by rw [E.out] <;> omega), after1 hb⟩
set_option maxRecDepth 100000 in
theorem font_pct (v : Val) (g : Nat) (c : Nat → Value) (P : Sty) (wd ht : Int) (w : World) (hm : MkAt w g c P wd ht) (hk : v.kind = 3) :
    Calls Tryd.prog 42 #[.pointer (some ⟨g, 0, none⟩), .agg #[.int .i64 v.kind, .int .i64 v.n, .int .i64 v.d, .string (bs v.name)]] w fun e w' => e = .returned (.int .i64 (leastM (fpart (P.f 53) v.n 100000))) ∧ Below w.heap.size w w' := by
  obtain ⟨k, n, d, nm⟩ := v
  simp only at hk
  subst hk
  simp only
  have hA := Lib.hid ((Below.refl w.heap.size w).alloc (Nat.le_refl _) (.cells #[.int .i64 3, .int .i64 n, .int .i64 d, .string (bs nm)] 34))
  have hm1 := hm.below hA.out hm.lt
  have q108 := hm1.p 53 (by decide)
  rw [show Sty.cell P 53 = .int .i64 (P.f 53) by simp [Sty.cell], show 55 + 53 = 108 from rfl] at q108
  obtain ⟨q0, q1, q2, q3⟩ := box4 ⟨3, n, d, nm⟩ w _ (Below.refl _ _)
  have hlt := hm1.lt
  generalize P.f 53 = pf at *
  have C := Lib.hid (fun ww => percent_any pf n ww)
  have E := Lib.hid (show leastM (fpart pf n 100000) = max (fpart pf n 100000) 0 from rfl)
  generalize fpart pf n 100000 = r at *
  generalize leastM r = r2 at *
  clear hm hm1
  go_enter Tryd.func42, Tryd.ntmps42
  go_wp2_with fail
  have hgw := hlt
  generalize (w.alloc (.cells #[.int .i64 3, .int .i64 n, .int .i64 d, .string (bs nm)] 34)) = W at *
  go_region_held3 (fun w' => w'.cell? ⟨w.heap.size, 1, none⟩ = some (.int .i64 n) ∧ w'.cell? ⟨g, 108, none⟩ = some (.int .i64 pf) ∧ Below w.heap.size w w')
    (first
      | exact ⟨q1, q108, hA.out.drew⟩
      | assumption)
    ((go_at_call 56; refine (C.out _).mono ?_; rintro e w1 ⟨rfl, rfl⟩))
  all_goals go_wp2
  all_goals go_ret
  all_goals (rename_i hH; exact ⟨ret_i (by rw [E.out] <;> omega), hH.2.2⟩)
set_option maxRecDepth 100000 in
theorem font_len (v : Val) (g : Nat) (c : Nat → Value) (P : Sty) (wd ht : Int) (w : World) (hm : MkAt w g c P wd ht) (hk : v.kind ≠ 3) :
    Calls Tryd.prog 42 #[.pointer (some ⟨g, 0, none⟩), .agg #[.int .i64 v.kind, .int .i64 v.n, .int .i64 v.d, .string (bs v.name)]] w fun e w' => e = .returned (.int .i64 (leastM (measureM v (P.f 53) wd ht))) ∧ Below w.heap.size w w' := by
  have hA := Lib.hid ((Below.refl w.heap.size w).alloc (Nat.le_refl _) (.cells #[.int .i64 v.kind, .int .i64 v.n, .int .i64 v.d, .string (bs v.name)] 34))
  have hm1 := hm.below hA.out hm.lt
  have q108 := hm1.p 53 (by decide)
  rw [show Sty.cell P 53 = .int .i64 (P.f 53) by simp [Sty.cell], show 55 + 53 = 108 from rfl] at q108
  have q110 := hm1.cw
  have q111 := hm1.ch
  obtain ⟨q0, q1, q2, q3⟩ := box4 v w _ (Below.refl _ _)
  generalize P.f 53 = pf at *
  have M := Lib.hid (fun ww => measure_any v pf wd ht ww)
  have E := Lib.hid (show leastM (measureM v pf wd ht) = max (measureM v pf wd ht) 0 from rfl)
  generalize measureM v pf wd ht = r at *
  generalize leastM r = r2 at *
  have hgw := hm.lt
  have hX0 : Ext w (w.alloc (.cells #[.int .i64 v.kind, .int .i64 v.n, .int .i64 v.d, .string (bs v.name)] 34)) := ⟨by simp, hA.out⟩
  clear hm hm1
  go_enter Tryd.func42, Tryd.ntmps42
  go_wp2_with fail
  generalize (w.alloc (.cells #[.int .i64 v.kind, .int .i64 v.n, .int .i64 v.d, .string (bs v.name)] 34)) = W at *
  go_region_held3 (fun w' => w'.cell? ⟨w.heap.size, 0, none⟩ = some (.int .i64 v.kind) ∧ w'.cell? ⟨w.heap.size, 1, none⟩ = some (.int .i64 v.n) ∧ w'.cell? ⟨w.heap.size, 2, none⟩ = some (.int .i64 v.d) ∧ w'.cell? ⟨w.heap.size, 3, none⟩ = some (.string (bs v.name)) ∧
      w'.cell? ⟨g, 108, none⟩ = some (.int .i64 pf) ∧ w'.cell? ⟨g, 110, none⟩ = some (.int .i64 wd) ∧ w'.cell? ⟨g, 111, none⟩ = some (.int .i64 ht) ∧ Ext w w')
    (first
      | exact ⟨q0, q1, q2, q3, q108, q110, q111, Ext.drew hX0⟩
      | (go_split_ands
         refine ⟨?_, ?_, ?_, ?_, ?_, ?_, ?_, ?_⟩
         all_goals (first | (refine (hb.cell (Ext.lt (Ext.drew hX0))).trans ?_; assumption) | (refine (hb.cell (Ext.lt' (Ext.drew hX0) hgw)).trans ?_; assumption) | exact Ext.next (by assumption) hb | exact Ext.next (Ext.drew hX0) hb)))
    ((go_at_call 39; refine (M.out _).mono ?_; rintro e w1 ⟨rfl, hb⟩))
  all_goals go_wp2
  all_goals go_ret
  all_goals (rename_i hH; exact ⟨ret_i (by rw [E.out] <;> omega), hH.2.2.2.2.2.2.2.bel⟩)
end Go.Proofs.YtfiidocojooghaaDoor
