/-
  The law PropSides: its walk.
-/
import Derived.Test.YtikhghmnclpigaaGreatDoorParSides
import Derived.Test.YtikhghmnclpigaaGreatDoorParNames
import Derived.Test.YtikhghmnclpigaaGreatDoorGrow
import Derived.IntWalk
namespace Go.Proofs.YtikhghmnclpigaaGreatDoor
open Go.RowKit Wsc
theorem around_ref (b o c n : Nat) (l : List Val) (w : World) (hn : n = l.length) (h0 : 0 < n) (hnc : n ≤ c) (hcm : c ≤ 9223372036854775807) (hb : b < w.heap.size) (hC : CellsAt w b o (vals l)) :
    Calls Tryz.prog 15 #[.slice (some ⟨b, o, none⟩) n c] w fun e w' => (∃ v, e = .returned v ∧ SlAt w' v (aroundD l).length (vals (aroundD l))) ∧ Below w.heap.size w w' := by
  match l, hn, hC with
  | [], hn, _ => simp at hn; omega
  | [x], hn, hC => obtain rfl : n = 1 := by simpa using hn
                   exact refAround_1 x b o c w hnc hcm hC
  | [x, y], hn, hC => obtain rfl : n = 2 := by simpa using hn
                      exact refAround_2 x y b o c w hnc hcm hC
  | [x, y, z], hn, hC => obtain rfl : n = 3 := by simpa using hn
                         exact refAround_3 x y z b o c w hnc hcm hC
  | x :: y :: z :: u :: r, hn, hC =>
    have h4 : 4 ≤ n := by simp at hn; omega
    refine (refAround_many n (some ⟨b, o, none⟩) c w h4).mono ?_
    rintro e w' ⟨rfl, rfl⟩
    refine ⟨⟨_, rfl, ⟨_, c, by rw [show aroundD (x :: y :: z :: u :: r) = x :: y :: z :: u :: r from rfl, ← hn], ?_, by unfold maxLen; omega, Or.inr ⟨b, o, rfl, hb, hC⟩⟩⟩, Below.refl _ _⟩
    rw [show aroundD (x :: y :: z :: u :: r) = x :: y :: z :: u :: r from rfl, ← hn]; exact hnc
theorem side_mem (l : List Val) (h0 : 0 < l.length) (j : Nat) (_hj : j < 4) : sideV l j ∈ l := by
  have h : sideI l.length j < l.length := by unfold sideI; split; · assumption
                                             split <;> omega
  unfold sideV
  rw [List.getD_eq_getElem?_getD, List.getElem?_eq_getElem h]
  exact List.getElem_mem h
theorem three_get (k : Nat) (hk : k < 3) : (strs [[109, 97, 114, 103, 105, 110], [112, 97, 100, 100, 105, 110, 103], [98, 111, 114, 100, 101, 114, 45, 119, 105, 100, 116, 104]])[k]? = some (.string (bs (sideN k))) := by
  rcases (show k = 0 ∨ k = 1 ∨ k = 2 by omega) with rfl | rfl | rfl <;> rfl
theorem parse_side2 (k : Nat) (hk : k < 3) (l : List Val) (a : Option Addr) (c : Nat) (w : World) (hg : Gl w) (h0 : 0 < l.length) (h5 : l.length ≤ 5) (hr : ∀ v ∈ l, rightV v = true) (hno : 1 < l.length → ∀ v ∈ l, globB v = false) (hv : TokSl w a c (sidesT l)) :
    Calls Tryz.prog 14 #[.agg #[.string (bs (sideN k)), .slice a (sidesT l).length c, .bool false]] w fun e w' => (∃ av ev, e = .returned (.tuple #[av, .int .i64 ev]) ∧ ((l.length ≤ 4 ∧ oksW (9 + 4 * (k : Int)) l 4 = true) → ev = 0 ∧ SlAt w' av 4 (decs (sidesW (9 + 4 * (k : Int)) l 4))) ∧ (¬ (l.length ≤ 4 ∧ oksW (9 + 4 * (k : Int)) l 4 = true) → ev = 22 ∧ av = .slice none 0 0)) ∧ Below w.heap.size w w' := by
  refine (parse_side k hk l a c w hg h0 h5 hr hno hv).mono ?_
  rintro e w' ⟨h1, h2⟩
  refine ⟨?_, h2⟩
  unfold ParRes at h1
  by_cases h : l.length ≤ 4 ∧ oksW (9 + 4 * (k : Int)) l 4 = true
  · rw [if_pos (by rw [decide_eq_true h.1, h.2]; rfl), setImp_sides, sidesW_length] at h1
    obtain ⟨v, e1, e2⟩ := h1
    exact ⟨v, 0, e1, fun _ => ⟨rfl, e2⟩, fun hh => absurd h hh⟩
  · rw [if_neg (by intro hh; rw [Bool.and_eq_true, decide_eq_true_eq] at hh; exact h hh)] at h1
    exact ⟨_, 22, h1, fun hh => absurd hh h, fun _ => ⟨rfl, rfl⟩⟩
/-- one side, declared by itself. -/
theorem parse_one2 (q : Nat) (h1 : 1 ≤ q) (h2 : q ≤ 37) (v : Val) (hr : rightV v = true) (a : Option Addr) (c : Nat) (w : World) (hg : Gl w) (hv : TokSl w a c (tokensL v)) :
    Calls Tryz.prog 14 #[.agg #[.string (bs (namesL.getD q [])), .slice a (tokensL v).length c, .bool false]] w fun e w' => (∃ av ev, e = .returned (.tuple #[av, .int .i64 ev]) ∧ (takesM (q : Int) v = true → ev = 0 ∧ SlAt w' av 1 (decs [⟨(q : Int), v, false⟩])) ∧ (takesM (q : Int) v = false → ev = 22 ∧ av = .slice none 0 0)) ∧ Below w.heap.size w w' := by
  refine (parse_single (namesL.getD q []) a c (tokensL v) false v q w hg hv (names_back ⟨q, by omega⟩ h1) (by omega) (Nat.le_trans (tokensL_le v) (by decide)) (parse_one v hr)).mono ?_
  rintro e w' ⟨h3, h4⟩
  refine ⟨?_, h4⟩
  unfold ParRes at h3
  cases h : takesM (q : Int) v
  · rw [h, if_neg (by simp)] at h3
    exact ⟨_, 22, h3, fun hh => absurd hh (by simp), fun _ => ⟨rfl, rfl⟩⟩
  · rw [h, if_pos rfl] at h3
    obtain ⟨x, e1, e2⟩ := h3
    exact ⟨x, 0, e1, fun _ => ⟨rfl, e2⟩, fun hh => absurd hh (by simp)⟩
theorem ValAt.next {w w' : World} {b o : Nat} {v : Val} {B : Nat} (h : ValAt w b o v) (hb : Below B w w') (hB : b < B) : ValAt w' b o v :=
  ⟨(hb.cell (p := ⟨b, o, none⟩) hB).trans h.c0, (hb.cell (p := ⟨b, o + 1, none⟩) hB).trans h.c1, (hb.cell (p := ⟨b, o + 2, none⟩) hB).trans h.c2, (hb.cell (p := ⟨b, o + 3, none⟩) hB).trans h.c3⟩
theorem ValAt.drew {w : World} {b o : Nat} {v : Val} (h : ValAt w b o v) : ValAt w.drew b o v := ⟨h.c0, h.c1, h.c2, h.c3⟩
theorem decs_one (l : List Dec) : ∀ u ∈ decs l, u.oneCell' = true := by
  intro u hu
  simp only [decs, List.mem_flatMap, decc, List.mem_cons, List.mem_nil_iff, or_false] at hu
  obtain ⟨t, _, h | h | h | h | h | h⟩ := hu <;> subst h <;> rfl
theorem propSides_out (p : Int) (a : Option Addr) (c n : Nat) (w : World) (hg : Gl w) (h : p < 0 ∨ 2 < p ∨ n = 0 ∨ 5 < n) :
    Calls Tryz.prog 4 #[.int .i64 p, .slice a n c] w fun e w' => e = .returned (.bool true) ∧ Below w.heap.size w w' := by
  have HA := Lib.hid ((Below.refl w.heap.size w).alloc (Nat.le_refl _) (.cells #[.string ⟨#[109, 97, 114, 103, 105, 110]⟩, .string ⟨#[112, 97, 100, 100, 105, 110, 103]⟩, .string ⟨#[98, 111, 114, 100, 101, 114, 45, 119, 105, 100, 116, 104]⟩] 9))
  have K := Lib.hid (known10_any _ (hg.below HA.out))
  have cc : p < 0 ∨ (0 ≤ p ∧ 2 < p) ∨ (0 ≤ p ∧ p ≤ 2 ∧ n = 0) ∨ (0 ≤ p ∧ p ≤ 2 ∧ 0 < n ∧ 5 < n) := by omega
  clear h
  rcases cc with h | ⟨h1, h2⟩ | ⟨h1, h2, rfl⟩ | ⟨h1, h2, h3, h4⟩
  all_goals
    go_enter Tryz.func4, Tryz.ntmps4
    go_wp2_with fail
    refine K.out.mono ?_
    rintro e w1 ⟨rfl, hb⟩
    go_wp2
    go_ret
    exact ⟨rfl, HA.out.trans (hb.mono HA.out.size)⟩
set_option maxRecDepth 100000 in
set_option maxHeartbeats 2000000 in
theorem propSides_in (k n b o c : Nat) (l : List Val) (w : World) (hg : Gl w) (hk : k < 3) (hn : n = l.length) (h0 : 0 < n) (h5 : n ≤ 5) (hnc : n ≤ c) (hcm : c ≤ 9223372036854775807) (hB : b < w.heap.size) (hC : CellsAt w b o (vals l)) (hT : ∀ t ∈ l, t.name.length ≤ 9223372036854775807) :
    Calls Tryz.prog 4 #[.int .i64 k, .slice (some ⟨b, o, none⟩) n c] w fun e w' => e = .returned (.bool true) ∧ Below w.heap.size w w' := by
  have K := Lib.hid (fun ww (hb : Below w.heap.size w ww) => known10_any ww (hg.below hb))
  have hA := (Below.refl w.heap.size w).alloc (Nat.le_refl _) (.cells (strs [[109, 97, 114, 103, 105, 110], [112, 97, 100, 100, 105, 110, 103], [98, 111, 114, 100, 101, 114, 45, 119, 105, 100, 116, 104]]).toArray 9)
  have hc : (w.alloc (.cells (strs [[109, 97, 114, 103, 105, 110], [112, 97, 100, 100, 105, 110, 103], [98, 111, 114, 100, 101, 114, 45, 119, 105, 100, 116, 104]]).toArray 9)).cell? ⟨w.heap.size, k, none⟩ = some (.string (bs (sideN k))) := by
    rw [World.cell?_alloc_at _ _ _ _ rfl]; simpa using three_get k hk
  have NB := Lib.hid (NamesB.mk (w := w) (k := k) (nm := sideN k) (Nat.le_refl _) (by simp) hc hA)
  have HC := Lib.hid hC
  have HT := Lib.hid hT
  have HN := Lib.hid hn
  have d1 : decide (2 < (k : Int)) = false := decide_eq_false (by omega)
  have d2 : ((n : Int) == 0) = false := by simp; omega
  have d3 : decide ((5 : Int) < (n : Int)) = false := decide_eq_false (by omega)
  clear hC hT hn hc hA
  go_enter Tryz.func4, Tryz.ntmps4
  go_wp2_with fail
  change Code.wp _ _ _ _ (w.alloc (.cells (strs [[109, 97, 114, 103, 105, 110], [112, 97, 100, 100, 105, 110, 103], [98, 111, 114, 100, 101, 114, 45, 119, 105, 100, 116, 104]]).toArray 9))
  generalize w.alloc (.cells (strs [[109, 97, 114, 103, 105, 110], [112, 97, 100, 100, 105, 110, 103], [98, 111, 114, 100, 101, 114, 45, 119, 105, 100, 116, 104]]).toArray 9) = W at *
  go_loopw [6, 7] (fun s v wr => ∃ i : Nat, v = .int .i64 i ∧ i ≤ n ∧ wr.ownsRow W.heap.size 32 3 s (sidesT (l.take i)).length (toks (sidesT (l.take i))) ∧ Hid (∀ u ∈ l.take i, rightV u = true) ∧ Hid (1 < n → ∀ u ∈ l.take i, globB u = false) ∧ Below W.heap.size W wr) (fun _ v _ => n - (intOf v).toNat)
  case atStart => exact ⟨0, rfl, Nat.zero_le _, World.ownsRow_nil _ _ _ _, Lib.hid (fun u hu => by simp at hu), Lib.hid (fun _ u hu => by simp at hu), Below.refl _ _⟩
  case round =>
    obtain ⟨i, rfl, hi, hown, HR, HG, hbl⟩ := hrel
    have HB := Lib.hid (NB.out.bel.trans (hbl.mono NB.out.bel.size))
    by_cases hlt : i < n
    · have hil : i < l.length := by have := HN.out; omega
      have hCi := HC.out.below HB.out hB
      have hBr : b < wr.heap.size := Nat.lt_of_lt_of_le hB HB.out.size
      have hva := valAt hCi i hil
      have hnl := HT.out _ (List.getElem_mem hil)
      have TK := take_snoc2 l i hil
      have R := fun ww => refRight_any l[i] ww hnl
      have VT := fun ww => rtokens_any l[i] ww hnl
      have GL := fun ww => refGlob_any l[i] ww
      have hge := refGlob_eq l[i]
      generalize l[i] = v at *
      unfold valV at R VT
      have HV := Lib.hid hva
      clear hva hCi
      cases hr : rightV v
      · rw [hr] at R
        have R2 := Lib.hid R
        obtain ⟨v0, v1, v2, v3⟩ := HV.out
        clear R VT GL hnl TK hr hge hown
        go_wp2_with fail
        refine (R2.out _).mono ?_
        rintro e w2 ⟨rfl, hb2⟩
        have HB2 := Lib.hid (HB.out.trans (hb2.mono HB.out.size))
        clear hb2
        go_wp2_with fail
        refine (K.out _ HB2.out).mono ?_
        rintro e w3 ⟨rfl, hb3⟩
        have HB3 := Lib.hid (HB2.out.trans (hb3.mono HB2.out.size))
        clear hb3
        go_wp2
        go_ret
        exact ⟨rfl, HB3.out⟩
      · rw [hr] at R
        rw [hge hr] at GL
        have R2 := Lib.hid R
        have VT2 := Lib.hid VT
        have HRV := Lib.hid hr
        have HTK := Lib.hid TK
        have HOWN := Lib.hid hown
        have HBL := Lib.hid hbl
        have HTP : Hid (0 < (tokensL v).length) := by obtain ⟨t, r, e, _⟩ := tokens_first v hr; rw [Hid, e]; simp
        have HLE : Hid ((sidesT (l.take i)).length + (tokensL v).length ≤ 1000) := by
          have h1 := sidesT_len (l.take i)
          have h2 := tokensL_le v
          have h3 : (l.take i).length ≤ i := by simp; exact Nat.min_le_left _ _
          show _ ≤ _
          omega
        obtain ⟨tl, htl⟩ : ∃ tl, tl = tokensL v := ⟨_, rfl⟩
        rw [← htl] at VT2 HTP HLE
        have HTL := Lib.hid htl.symm
        obtain ⟨v0, v1, v2, v3⟩ := HV.out
        clear R VT hnl TK hr hge hown hbl htl
        by_cases hn1 : 1 < n
        · have hd1 : decide ((1 : Int) < (n : Int)) = true := decide_eq_true (by omega)
          cases hgv : globB v
          · rw [hgv] at GL
            have G2 := Lib.hid GL
            have HGV : Hid (1 < n → globB v = false) := fun _ => hgv
            clear GL hgv
            go_wp2_with fail
            refine (R2.out _).mono ?_
            rintro e w2 ⟨rfl, hb2⟩
            have HB2 := Lib.hid (HB.out.trans (hb2.mono HB.out.size))
            have HBL2 := Lib.hid (HBL.out.trans (hb2.mono HBL.out.size))
            have HOWN2 := Lib.hid (ownsRow_below HOWN.out hb2)
            have hBr2 := Nat.lt_of_lt_of_le hBr hb2.size
            obtain ⟨y0, y1, y2, y3⟩ := (fun (hb : Below wr.heap.size wr w2) => ValAt.mk ((hb.cell (p := ⟨b, o + i * 4, none⟩) hBr).trans HV.out.c0) ((hb.cell (p := ⟨b, o + i * 4 + 1, none⟩) hBr).trans HV.out.c1) ((hb.cell (p := ⟨b, o + i * 4 + 2, none⟩) hBr).trans HV.out.c2) ((hb.cell (p := ⟨b, o + i * 4 + 3, none⟩) hBr).trans HV.out.c3)) hb2
            clear v0 v1 v2 v3 hb2
            have HV2 := Lib.hid (ValAt.mk y0 y1 y2 y3)
            go_wp2_with fail
            refine (G2.out _).mono ?_
            rintro e w3 ⟨rfl, hb3⟩
            have HB3 := Lib.hid (HB2.out.trans (hb3.mono HB2.out.size))
            have HBL3 := Lib.hid (HBL2.out.trans (hb3.mono HBL2.out.size))
            have HOWN3 := Lib.hid (ownsRow_below HOWN2.out hb3)
            obtain ⟨z0, z1, z2, z3⟩ := (fun (hb : Below w2.heap.size w2 w3) => ValAt.mk ((hb.cell (p := ⟨b, o + i * 4, none⟩) hBr2).trans HV2.out.c0) ((hb.cell (p := ⟨b, o + i * 4 + 1, none⟩) hBr2).trans HV2.out.c1) ((hb.cell (p := ⟨b, o + i * 4 + 2, none⟩) hBr2).trans HV2.out.c2) ((hb.cell (p := ⟨b, o + i * 4 + 3, none⟩) hBr2).trans HV2.out.c3)) hb3
            clear y0 y1 y2 y3 hb3
            go_wp2_with fail
            refine (VT2.out _).mono ?_
            rintro e w4 ⟨⟨a1, c1, rfl, hts⟩, hb4⟩
            have HBL4 := Lib.hid (HBL3.out.trans (hb4.mono HBL3.out.size))
            have HOWN4 := Lib.hid (ownsRow_below HOWN3.out hb4)
            obtain ⟨bt, ot, rfl, hBt, hCt⟩ := hts.at_ HTP.out
            have HCT := Lib.hid hCt
            clear hb4 hts hCt
            go_wp2_with (first
              | (at_builtin; refine wpList_append_k rfl _ _ 28 rfl W.heap.size 32 _ 3 32 Tryz.underlying28 infoT rfl (by decide) (by decide) _ _ _ rfl HOWN5.out 1 (toks [spT]) w5.heap.size rfl rfl rfl (fun u hu => toks_one _ u hu) (by have := HLE.out; omega) HBL5.out.size ?_; intro v6 w6 hown6 hb6; have HBL6 := Lib.hid (HBL5.out.trans hb6); have HOWN6 := Lib.hid hown6; clear hb6 hown6)
              | (at_builtin; refine wpList_append_from rfl _ _ 28 rfl W.heap.size 32 _ 3 32 Tryz.underlying28 infoT rfl (by decide) (by decide) _ _ _ rfl HOWN4.out bt ot _ tl.length (toks tl) rfl (toks_length tl) (toks_one tl) HCT.out (by have := HLE.out; omega) HBL4.out.size ?_; intro v5 w5 hown5 hb5; have HBL5 := Lib.hid (HBL4.out.trans hb5); have HOWN5 := Lib.hid hown5; clear hb5 hown5))
            go_roundw
            case rel =>
              refine ⟨i + 1, by go_num, by omega, ?_, Lib.hid ?_, Lib.hid ?_, HBL6.out⟩
              · have e : sidesT (l.take (i + 1)) = sidesT (l.take i) ++ tl ++ [spT] := by rw [HTK.out, sidesT_snoc, HTL.out]
                rw [e, List.length_append, List.length_append, show toks (sidesT (l.take i) ++ tl ++ [spT]) = toks (sidesT (l.take i)) ++ toks tl ++ toks [spT] by simp [toks]]
                exact HOWN6.out
              · intro u hu
                rw [HTK.out, List.mem_append] at hu
                rcases hu with hu | hu
                · exact HR.out u hu
                · simp at hu; subst hu; exact HRV.out
              · intro h1 u hu
                rw [HTK.out, List.mem_append] at hu
                rcases hu with hu | hu
                · exact HG.out h1 u hu
                · simp at hu; subst hu; exact HGV.out h1
            case measure => simp [intOf]; omega
          · rw [hgv] at GL
            have G2 := Lib.hid GL
            clear GL hgv
            go_wp2_with fail
            refine (R2.out _).mono ?_
            rintro e w2 ⟨rfl, hb2⟩
            have HB2 := Lib.hid (HB.out.trans (hb2.mono HB.out.size))
            obtain ⟨y0, y1, y2, y3⟩ := (fun (hb : Below wr.heap.size wr w2) => ValAt.mk ((hb.cell (p := ⟨b, o + i * 4, none⟩) hBr).trans HV.out.c0) ((hb.cell (p := ⟨b, o + i * 4 + 1, none⟩) hBr).trans HV.out.c1) ((hb.cell (p := ⟨b, o + i * 4 + 2, none⟩) hBr).trans HV.out.c2) ((hb.cell (p := ⟨b, o + i * 4 + 3, none⟩) hBr).trans HV.out.c3)) hb2
            clear v0 v1 v2 v3 hb2
            go_wp2_with fail
            refine (G2.out _).mono ?_
            rintro e w3 ⟨rfl, hb3⟩
            have HB3 := Lib.hid (HB2.out.trans (hb3.mono HB2.out.size))
            clear hb3
            go_wp2_with fail
            refine (K.out _ HB3.out).mono ?_
            rintro e w4 ⟨rfl, hb4⟩
            have HB4 := Lib.hid (HB3.out.trans (hb4.mono HB3.out.size))
            clear hb4
            go_wp2
            go_ret
            exact ⟨rfl, HB4.out⟩
        · have hd1 : decide ((1 : Int) < (n : Int)) = false := decide_eq_false (by omega)
          have HGV : Hid (1 < n → globB v = false) := fun h => absurd h hn1
          clear GL
          go_wp2_with fail
          refine (R2.out _).mono ?_
          rintro e w2 ⟨rfl, hb2⟩
          have HB2 := Lib.hid (HB.out.trans (hb2.mono HB.out.size))
          have HBL2 := Lib.hid (HBL.out.trans (hb2.mono HBL.out.size))
          have HOWN2 := Lib.hid (ownsRow_below HOWN.out hb2)
          obtain ⟨y0, y1, y2, y3⟩ := (fun (hb : Below wr.heap.size wr w2) => ValAt.mk ((hb.cell (p := ⟨b, o + i * 4, none⟩) hBr).trans HV.out.c0) ((hb.cell (p := ⟨b, o + i * 4 + 1, none⟩) hBr).trans HV.out.c1) ((hb.cell (p := ⟨b, o + i * 4 + 2, none⟩) hBr).trans HV.out.c2) ((hb.cell (p := ⟨b, o + i * 4 + 3, none⟩) hBr).trans HV.out.c3)) hb2
          clear v0 v1 v2 v3 hb2
          go_wp2_with fail
          refine (VT2.out _).mono ?_
          rintro e w4 ⟨⟨a1, c1, rfl, hts⟩, hb4⟩
          have HBL4 := Lib.hid (HBL2.out.trans (hb4.mono HBL2.out.size))
          have HOWN4 := Lib.hid (ownsRow_below HOWN2.out hb4)
          obtain ⟨bt, ot, rfl, hBt, hCt⟩ := hts.at_ HTP.out
          have HCT := Lib.hid hCt
          clear hb4 hts hCt
          go_wp2_with (first
            | (at_builtin; refine wpList_append_k rfl _ _ 28 rfl W.heap.size 32 _ 3 32 Tryz.underlying28 infoT rfl (by decide) (by decide) _ _ _ rfl HOWN5.out 1 (toks [spT]) w5.heap.size rfl rfl rfl (fun u hu => toks_one _ u hu) (by have := HLE.out; omega) HBL5.out.size ?_; intro v6 w6 hown6 hb6; have HBL6 := Lib.hid (HBL5.out.trans hb6); have HOWN6 := Lib.hid hown6; clear hb6 hown6)
            | (at_builtin; refine wpList_append_from rfl _ _ 28 rfl W.heap.size 32 _ 3 32 Tryz.underlying28 infoT rfl (by decide) (by decide) _ _ _ rfl HOWN4.out bt ot _ tl.length (toks tl) rfl (toks_length tl) (toks_one tl) HCT.out (by have := HLE.out; omega) HBL4.out.size ?_; intro v5 w5 hown5 hb5; have HBL5 := Lib.hid (HBL4.out.trans hb5); have HOWN5 := Lib.hid hown5; clear hb5 hown5))
          go_roundw
          case rel =>
            refine ⟨i + 1, by go_num, by omega, ?_, Lib.hid ?_, Lib.hid ?_, HBL6.out⟩
            · have e : sidesT (l.take (i + 1)) = sidesT (l.take i) ++ tl ++ [spT] := by rw [HTK.out, sidesT_snoc, HTL.out]
              rw [e, List.length_append, List.length_append, show toks (sidesT (l.take i) ++ tl ++ [spT]) = toks (sidesT (l.take i)) ++ toks tl ++ toks [spT] by simp [toks]]
              exact HOWN6.out
            · intro u hu
              rw [HTK.out, List.mem_append] at hu
              rcases hu with hu | hu
              · exact HR.out u hu
              · simp at hu; subst hu; exact HRV.out
            · intro h1 u hu
              rw [HTK.out, List.mem_append] at hu
              rcases hu with hu | hu
              · exact HG.out h1 u hu
              · simp at hu; subst hu; exact HGV.out h1
          case measure => simp [intOf]; omega
    · have e : i = l.length := by have := HN.out; omega
      have htk : l.take i = l := List.take_of_length_le (by omega)
      rw [htk] at hown HR HG
      have hS := SlAt.owns hown
      obtain ⟨at1, ct1, rfl, _⟩ := id hS
      have hNw := NB.out.next hbl
      have PS := parse_side2 k hk l at1 ct1 wr (hg.below HB.out) (by have := HN.out; omega) (by have := HN.out; omega) HR.out (fun h => HG.out (by have := HN.out; omega)) ⟨hS⟩
      have PS := Lib.hid PS
      have hcc := hNw.c
      have hB2 := Nat.lt_of_lt_of_le hB HB.out.size
      have HE := Lib.hid e
      have HC1 := Lib.hid (HC.out.below HB.out hB)
      clear hS hown htk hNw e
      go_wp2_with fail
      refine PS.out.mono ?_
      rintro e w5 ⟨⟨av, ev, rfl, he1, he2⟩, hb5⟩
      have HE1 := Lib.hid he1
      have HE2 := Lib.hid he2
      have HB5 := Lib.hid (HB.out.trans (hb5.mono HB.out.size))
      have hB5 := Nat.lt_of_lt_of_le hB2 hb5.size
      have AR := Lib.hid (around_ref b o c n l w5 HN.out h0 hnc hcm hB5 (HC1.out.below hb5 hB2))
      clear he1 he2 hb5 hcc PS
      go_wp2_with fail
      refine AR.out.mono ?_
      rintro e W6 ⟨⟨v6, rfl, hs6⟩, hb6⟩
      have HB6 := Lib.hid (HB5.out.trans (hb6.mono HB5.out.size))
      have HB56 := Lib.hid hb6
      obtain ⟨af, cf, rfl, hnf, hmf, hcasef⟩ := hs6
      unfold maxLen at hmf
      clear hb6 AR
      by_cases h5n : n = 5
      · have hml : (aroundD l).length = 5 := by have := HN.out; rw [aroundD_five l (by omega)]; omega
        have HML := Lib.hid hml
        obtain ⟨rfl, rfl⟩ := HE2.out (by have := HN.out; omega)
        rw [hml]
        clear hml hcasef hnf
        go_wp2_with fail
        refine (K.out _ HB6.out).mono ?_
        rintro e w7 ⟨rfl, hb7⟩
        have HB7 := Lib.hid (HB6.out.trans (hb7.mono HB6.out.size))
        clear hb7
        go_wp2
        go_ret
        exact ⟨rfl, HB7.out⟩
      · have h4n : l.length ≤ 4 := by have := HN.out; omega
        have h0l : 0 < l.length := by have := HN.out; omega
        have hml := aroundD_len l h0l h4n
        have hfour := around_four l h0l h4n
        rw [hml] at hnf hcasef ⊢
        rw [hfour] at hcasef
        rcases hcasef with ⟨h, _⟩ | ⟨bf, of, rfl, hbf, hCf⟩
        · omega
        have HCf := Lib.hid hCf
        have H4 := Lib.hid h4n
        have H0 := Lib.hid h0l
        clear hml hfour hCf h5n h4n h0l
        go_wp2_with fail
        go_loopw [11, 12] (fun s v wr => ∃ j : Nat, v = .int .i64 j ∧ j ≤ 4 ∧ wr.ownsRow W6.heap.size 46 6 s j (decs (sidesW (9 + 4 * (k : Int)) l j)) ∧ Hid (oksW (9 + 4 * (k : Int)) l j = true) ∧ Hid (Below W6.heap.size W6 wr)) (fun _ v _ => 4 - (intOf v).toNat)
        case atStart => exact ⟨0, rfl, Nat.zero_le _, World.ownsRow_nil _ _ _ _, Lib.hid rfl, Lib.hid (Below.refl _ _)⟩
        case round =>
          obtain ⟨j, rfl, hj, hown, HO, HBR⟩ := hrel
          have HBW := Lib.hid (HB6.out.trans (HBR.out.mono HB6.out.size))
          have HOWN := Lib.hid hown
          clear hown
          by_cases hj4 : j < 4
          · have hbfr := Nat.lt_of_lt_of_le hbf HBR.out.size
            have hvj := valAt (HCf.out.below HBR.out hbf) j (by show j < 4; exact hj4)
            rw [show (fourV l)[j]'(by show j < 4; exact hj4) = sideV l j by rcases (show j = 0 ∨ j = 1 ∨ j = 2 ∨ j = 3 by omega) with rfl | rfl | rfl | rfl <;> rfl] at hvj
            have hmem := side_mem l H0.out j hj4
            have hrv := HR.out _ hmem
            have hnl := HT.out _ hmem
            obtain ⟨q, hq⟩ : ∃ q : Nat, q = 9 + 4 * k + j := ⟨_, rfl⟩
            have hqI : (9 : Int) + 4 * (k : Int) + (j : Int) = (q : Int) := by omega
            have HQ := Lib.hid hqI
            have hq38 : q < 38 := by omega
            have TO := fun ww => rtokens_any (sideV l j) ww hnl
            have P1 := fun a c ww (hg : Gl ww) (hv : TokSl ww a c (tokensL (sideV l j))) => parse_one2 q (by omega) (by omega) (sideV l j) hrv a c ww hg hv
            have HNOT : Hid (takesM (q : Int) (sideV l j) = false → ¬ (l.length ≤ 4 ∧ oksW (9 + 4 * (k : Int)) l 4 = true)) := fun h hh => by
              have : takesM (9 + 4 * (k : Int) + (j : Int)) (sideV l j) = true := by
                have h2 := hh.2
                unfold oksW at h2
                rw [List.all_eq_true] at h2
                exact h2 j (by simpa using hj4)
              rw [hqI, h] at this
              exact absurd this (by simp)
            have NK : Hid (∀ ww, Calls Tryz.prog 16 #[] ww fun e w' => (∃ b o c, e = .returned (.slice (some ⟨b, o, none⟩) 38 c) ∧ b < w'.heap.size ∧ 38 ≤ c ∧ c ≤ 9223372036854775807 ∧ w'.cell? ⟨b, o + q, none⟩ = some (.string (bs (namesL.getD q [])))) ∧ Below ww.heap.size ww w') := fun ww => (names_kk ww).mono fun e w' ⟨⟨b, o, c, x1, x2, x3, x4, x5⟩, x6⟩ => ⟨⟨b, o, c, x1, x2, x3, x4, x5 _ hq38⟩, x6⟩
            obtain ⟨v, hsv⟩ : ∃ v, v = sideV l j := ⟨_, rfl⟩
            rw [← hsv] at TO P1 HNOT hvj
            have HSV := Lib.hid hsv.symm
            generalize namesL.getD q [] = nm at *
            generalize tokensL v = ts at *
            unfold valV at TO
            have TO := Lib.hid TO
            have P1 := Lib.hid P1
            have wm1 : IntKind.i64.wrap (4 * (k : Int)) = 4 * (k : Int) := IntWalk.i64_in _ (by omega)
            have wm2 : IntKind.i64.wrap (9 + 4 * (k : Int)) = 9 + 4 * (k : Int) := IntWalk.i64_in _ (by omega)
            have wm3 : IntKind.i64.wrap (q : Int) = (q : Int) := IntWalk.i64_in _ (by omega)
            have hqk : (q : Int) < 38 := by omega
            have hjj : (j : Int) < 4 := by omega
            clear hmem hrv hnl hq hsv
            go_wp2_with fail
            refine wp_region_held_drew (S := (fun w' => ValAt w' bf (of + j * 4) v ∧ Below wr.heap.size wr w')) (by kernel_rfl) ⟨hvj.drew, (Below.refl _ _).drew⟩ (fun hH1 => ?_)
            refine wpAnyH_take (i := 1) (v := .int .i64 k) rfl (by kernel_rfl) (by kernel_rfl) (by kernel_rfl) (fun _ _ _ h => h) (Or.inl ⟨by rfl, fun _ _ => by rfl⟩) (by assumption) ?_
            try simp only [Act.put, List.setIfInBounds_toArray, List.set_cons_zero, List.set_cons_succ, List.getElem_toArray, List.getElem_cons_zero, List.getElem_cons_succ]
            refine wpAnyH_take (i := 2) (v := .int .i64 (4 * (k : Int))) rfl (by kernel_rfl) (by kernel_rfl) (by kernel_rfl) (fun _ _ _ h => h) (Or.inl ⟨by rfl, by intro ww _; go_simp⟩) (by assumption) ?_
            try simp only [Act.put, List.setIfInBounds_toArray, List.set_cons_zero, List.set_cons_succ, List.getElem_toArray, List.getElem_cons_zero, List.getElem_cons_succ]
            refine wpAnyH_take (i := 3) (v := .int .i64 (9 + 4 * (k : Int))) rfl (by kernel_rfl) (by kernel_rfl) (by kernel_rfl) (fun _ _ _ h => h) (Or.inl ⟨by rfl, by intro ww _; go_simp⟩) (by assumption) ?_
            try simp only [Act.put, List.setIfInBounds_toArray, List.set_cons_zero, List.set_cons_succ, List.getElem_toArray, List.getElem_cons_zero, List.getElem_cons_succ]
            refine wpAnyH_take (i := 4) (v := .int .i64 j) rfl (by kernel_rfl) (by kernel_rfl) (by kernel_rfl) (fun _ _ _ h => h) (Or.inl ⟨by rfl, fun _ _ => by rfl⟩) (by assumption) ?_
            try simp only [Act.put, List.setIfInBounds_toArray, List.set_cons_zero, List.set_cons_succ, List.getElem_toArray, List.getElem_cons_zero, List.getElem_cons_succ]
            refine wpAnyH_take (i := 5) (v := .int .i64 q) rfl (by kernel_rfl) (by kernel_rfl) (by kernel_rfl) (fun _ _ _ h => h) (Or.inl ⟨by rfl, by intro ww _; go_simp⟩) (by assumption) ?_
            try simp only [Act.put, List.setIfInBounds_toArray, List.set_cons_zero, List.set_cons_succ, List.getElem_toArray, List.getElem_cons_zero, List.getElem_cons_succ]
            refine wpAnyH_take (i := 8) (v := .slice (some ⟨bf, of, none⟩) 4 cf) rfl (by kernel_rfl) (by kernel_rfl) (by kernel_rfl) (fun _ _ _ h => h) (Or.inl ⟨by rfl, fun _ _ => by rfl⟩) (by assumption) ?_
            try simp only [Act.put, List.setIfInBounds_toArray, List.set_cons_zero, List.set_cons_succ, List.getElem_toArray, List.getElem_cons_zero, List.getElem_cons_succ]
            refine wpAnyH_take (i := 9) (v := .int .i64 j) rfl (by kernel_rfl) (by kernel_rfl) (by kernel_rfl) (fun _ _ _ h => h) (Or.inl ⟨by rfl, fun _ _ => by rfl⟩) (by assumption) ?_
            try simp only [Act.put, List.setIfInBounds_toArray, List.set_cons_zero, List.set_cons_succ, List.getElem_toArray, List.getElem_cons_zero, List.getElem_cons_succ]
            refine wpAnyH_take (i := 10) (v := .pointer (some ⟨bf, of + j * 4, none⟩)) rfl (by kernel_rfl) (by kernel_rfl) (by kernel_rfl) (fun _ _ _ h => h) (Or.inl ⟨by rfl, by intro ww _; go_simp⟩) (by assumption) ?_
            try simp only [Act.put, List.setIfInBounds_toArray, List.set_cons_zero, List.set_cons_succ, List.getElem_toArray, List.getElem_cons_zero, List.getElem_cons_succ]
            refine wpAnyH_take (i := 11) (v := .agg #[.int .i64 v.kind, .int .i64 v.n, .int .i64 v.d, .string (bs v.name)]) rfl (by kernel_rfl) (by kernel_rfl) (by kernel_rfl) (fun _ _ _ h => h) (Or.inl ⟨by rfl, by intro ww hS; obtain ⟨c0, c1, c2, c3⟩ := hS.1; go_simp⟩) (by assumption) ?_
            try simp only [Act.put, List.setIfInBounds_toArray, List.set_cons_zero, List.set_cons_succ, List.getElem_toArray, List.getElem_cons_zero, List.getElem_cons_succ]
            refine wpAnyH_ready (rs := [0]) (by kernel_rfl) (by simp) ?_
            refine AllReadyH.cons rfl (fun KQ hK => ?_) AllReadyH.nil
            go_simp
            refine (NK.out _).mono ?_
            rintro e wz ⟨⟨b3, o3, c3, rfl, hB3, hc1, hc2, hcn⟩, hb1⟩
            go_wp2_with fail
            refine hK.out _ _ (⟨hH1.1.next hb1 (Nat.lt_of_lt_of_le hbfr hH1.2.size), hH1.2.trans (hb1.mono hH1.2.size)⟩) (fun hH2 => ?_)
            clear hK KQ
            try simp only [Act.put, List.setIfInBounds_toArray, List.set_cons_zero, List.set_cons_succ, List.getElem_toArray, List.getElem_cons_zero, List.getElem_cons_succ]
            refine wpAnyH_take (i := 6) (v := .pointer (some ⟨b3, o3 + q, none⟩)) rfl (by kernel_rfl) (by kernel_rfl) (by kernel_rfl) (fun _ _ _ h => h) (Or.inl ⟨by rfl, by intro ww _; go_simp⟩) (by assumption) ?_
            try simp only [Act.put, List.setIfInBounds_toArray, List.set_cons_zero, List.set_cons_succ, List.getElem_toArray, List.getElem_cons_zero, List.getElem_cons_succ]
            refine wpAnyH_ready (rs := [7, 12]) (by kernel_rfl) (by simp) ?_
            refine AllReadyH.cons rfl (fun KQ hK => ?_) (AllReadyH.cons rfl (fun KQ hK => ?_) AllReadyH.nil)
            · go_simp
              refine hK.out _ _ hH2 (fun _ => ?_)
              clear hK KQ
              try simp only [Act.put, List.setIfInBounds_toArray, List.set_cons_zero, List.set_cons_succ, List.getElem_toArray, List.getElem_cons_zero, List.getElem_cons_succ]
              refine wpAnyH_ready (rs := [12]) (by kernel_rfl) (by simp) ?_
              refine AllReadyH.cons rfl (fun KQ hK => ?_) AllReadyH.nil
              go_simp
              refine (TO.out _).mono ?_
              rintro e w8 ⟨⟨a1, c1, rfl, hs⟩, hb⟩
              have hcn8 := (hb.cell (p := ⟨b3, o3 + q, none⟩) hB3).trans hcn
              have hS8 := (fun (x : ValAt _ bf (of + j * 4) v ∧ Below wr.heap.size wr _) => (⟨x.1.next hb (Nat.lt_of_lt_of_le hbfr x.2.size), x.2.trans (hb.mono x.2.size)⟩ : ValAt w8 bf (of + j * 4) v ∧ Below wr.heap.size wr w8)) hH2
              go_wp2_with fail
              refine hK.out _ _ hS8 (fun _ => ?_)
              clear hK KQ hb
              try simp only [Act.put, List.setIfInBounds_toArray, List.set_cons_zero, List.set_cons_succ, List.getElem_toArray, List.getElem_cons_zero, List.getElem_cons_succ]
              refine wpAnyH_take (i := 13) (v := .agg #[.string (bs nm), .slice a1 ts.length c1, .bool false]) rfl (by kernel_rfl) (by kernel_rfl) (by kernel_rfl) (fun _ _ _ h => h) (Or.inl ⟨by rfl, by intro ww _; go_simp⟩) (by assumption) ?_
              try simp only [Act.put, List.setIfInBounds_toArray, List.set_cons_zero, List.set_cons_succ, List.getElem_toArray, List.getElem_cons_zero, List.getElem_cons_succ]
              refine wpAnyH_ready (rs := [14]) (by kernel_rfl) (by simp) ?_
              refine AllReadyH.cons rfl (fun KQ hK => ?_) AllReadyH.nil
              go_simp
              refine (P1.out _ _ _ (hg.below (HBW.out.trans (hS8.2.mono HBW.out.size))) hs).mono ?_
              rintro e w9 ⟨⟨av1, ev1, rfl, hy1, hy2⟩, hb⟩
              have hS9 : ValAt w9 bf (of + j * 4) v ∧ Below wr.heap.size wr w9 := ⟨hS8.1.next hb (Nat.lt_of_lt_of_le hbfr hS8.2.size), hS8.2.trans (hb.mono hS8.2.size)⟩
              go_wp2_with fail
              refine hK.out _ _ hS9 (fun _ => ?_)
              clear hK KQ hb
              try simp only [Act.put, List.setIfInBounds_toArray, List.set_cons_zero, List.set_cons_succ, List.getElem_toArray, List.getElem_cons_zero, List.getElem_cons_succ]
              refine wpAnyH_take (i := 15) (v := .tuple #[av1, .int .i64 ev1]) rfl (by kernel_rfl) (by kernel_rfl) (by kernel_rfl) (fun _ _ _ h => h) (Or.inl ⟨by rfl, fun _ _ => by rfl⟩) (by assumption) ?_
              try simp only [Act.put, List.setIfInBounds_toArray, List.set_cons_zero, List.set_cons_succ, List.getElem_toArray, List.getElem_cons_zero, List.getElem_cons_succ]
              refine wpAnyH_take (i := 16) (v := av1) rfl (by kernel_rfl) (by kernel_rfl) (by kernel_rfl) (fun _ _ _ h => h) (Or.inl ⟨by rfl, by intro ww _; go_simp⟩) (by assumption) ?_
              try simp only [Act.put, List.setIfInBounds_toArray, List.set_cons_zero, List.set_cons_succ, List.getElem_toArray, List.getElem_cons_zero, List.getElem_cons_succ]
              refine wpAnyH_take (i := 17) (v := .int .i64 ev1) rfl (by kernel_rfl) (by kernel_rfl) (by kernel_rfl) (fun _ _ _ h => h) (Or.inl ⟨by rfl, by intro ww _; go_simp⟩) (by assumption) ?_
              try simp only [Act.put, List.setIfInBounds_toArray, List.set_cons_zero, List.set_cons_succ, List.getElem_toArray, List.getElem_cons_zero, List.getElem_cons_succ]
              refine wpAnyH_take (i := 18) (v := av1) rfl (by kernel_rfl) (by kernel_rfl) (by kernel_rfl) (fun _ _ _ h => h) (Or.inl ⟨by rfl, fun _ _ => by rfl⟩) (by assumption) ?_
              try simp only [Act.put, List.setIfInBounds_toArray, List.set_cons_zero, List.set_cons_succ, List.getElem_toArray, List.getElem_cons_zero, List.getElem_cons_succ]
              refine wpAnyH_take (i := 19) (v := .int .i64 ev1) rfl (by kernel_rfl) (by kernel_rfl) (by kernel_rfl) (fun _ _ _ h => h) (Or.inl ⟨by rfl, fun _ _ => by rfl⟩) (by assumption) ?_
              try simp only [Act.put, List.setIfInBounds_toArray, List.set_cons_zero, List.set_cons_succ, List.getElem_toArray, List.getElem_cons_zero, List.getElem_cons_succ]
              refine wpAnyH_done (by kernel_rfl) ?_ _
              have HY1 := Lib.hid hy1
              have HY2 := Lib.hid hy2
              have HBJ := Lib.hid (HBR.out.trans (hS9.2.mono HBR.out.size))
              have HB9 := Lib.hid (HBW.out.trans (hS9.2.mono HBW.out.size))
              have HW9 := Lib.hid (ownsRow_below HOWN.out hS9.2)
              clear hy1 hy2 hS8 hS9 hcn8 hs
              cases htk : takesM (q : Int) v
              · have HNO := Lib.hid (HNOT.out htk)
                obtain ⟨rfl, rfl⟩ := HY2.out htk
                obtain ⟨rfl, rfl⟩ := HE2.out HNO.out
                clear htk
                go_wp2_with fail
                refine (K.out _ HB9.out).mono ?_
                rintro e w10 ⟨rfl, hb10⟩
                have HB10 := Lib.hid (HB9.out.trans (hb10.mono HB9.out.size))
                clear hb10
                go_wp2
                go_ret
                exact ⟨rfl, HB10.out⟩
              · obtain ⟨rfl, hsl⟩ := HY1.out htk
                have HTK := Lib.hid htk
                obtain ⟨a9, c9, rfl, hn9, hm9, hcase9⟩ := hsl
                rcases hcase9 with ⟨h, _⟩ | ⟨b9, o9, rfl, hB9, hC9⟩
                · omega
                have HC9 := Lib.hid hC9
                unfold maxLen at hm9
                clear hC9 htk
                go_wp2_with (at_builtin; refine wpList_append_from rfl _ _ 33 rfl W6.heap.size 46 _ 6 56 Tryz.underlying33 infoD rfl (by decide) (by decide) _ _ _ rfl HW9.out b9 o9 _ 1 (decs [⟨(q : Int), v, false⟩]) rfl rfl (decs_one _) HC9.out (by omega) HBJ.out.size ?_; intro v10 w10 hown10 hb10)
                have HOWN10 := Lib.hid hown10
                have HB10 := Lib.hid (HBJ.out.trans hb10)
                clear hown10 hb10
                go_roundw
                case rel =>
                  refine ⟨j + 1, by go_num, by omega, ?_, Lib.hid ?_, HB10⟩
                  · rw [sidesW_succ, HSV.out, HQ.out, show decs (sidesW (9 + 4 * (k : Int)) l j ++ [⟨(q : Int), v, false⟩]) = decs (sidesW (9 + 4 * (k : Int)) l j) ++ decs [⟨(q : Int), v, false⟩] by simp [decs]]
                    exact HOWN10.out
                  · rw [oksW_succ, HSV.out, HQ.out, HTK.out, HO.out]; rfl
                case measure => simp [intOf]; omega
            · go_simp
              refine (TO.out _).mono ?_
              rintro e w8 ⟨⟨a1, c1, rfl, hs⟩, hb⟩
              have hcn8 := (hb.cell (p := ⟨b3, o3 + q, none⟩) hB3).trans hcn
              have hS8 := (fun (x : ValAt _ bf (of + j * 4) v ∧ Below wr.heap.size wr _) => (⟨x.1.next hb (Nat.lt_of_lt_of_le hbfr x.2.size), x.2.trans (hb.mono x.2.size)⟩ : ValAt w8 bf (of + j * 4) v ∧ Below wr.heap.size wr w8)) hH2
              go_wp2_with fail
              refine hK.out _ _ hS8 (fun _ => ?_)
              clear hK KQ hb
              try simp only [Act.put, List.setIfInBounds_toArray, List.set_cons_zero, List.set_cons_succ, List.getElem_toArray, List.getElem_cons_zero, List.getElem_cons_succ]
              refine wpAnyH_ready (rs := [7]) (by kernel_rfl) (by simp) ?_
              refine AllReadyH.cons rfl (fun KQ hK => ?_) AllReadyH.nil
              go_simp
              refine hK.out _ _ hS8 (fun _ => ?_)
              clear hK KQ
              try simp only [Act.put, List.setIfInBounds_toArray, List.set_cons_zero, List.set_cons_succ, List.getElem_toArray, List.getElem_cons_zero, List.getElem_cons_succ]
              refine wpAnyH_take (i := 13) (v := .agg #[.string (bs nm), .slice a1 ts.length c1, .bool false]) rfl (by kernel_rfl) (by kernel_rfl) (by kernel_rfl) (fun _ _ _ h => h) (Or.inl ⟨by rfl, by intro ww _; go_simp⟩) (by assumption) ?_
              try simp only [Act.put, List.setIfInBounds_toArray, List.set_cons_zero, List.set_cons_succ, List.getElem_toArray, List.getElem_cons_zero, List.getElem_cons_succ]
              refine wpAnyH_ready (rs := [14]) (by kernel_rfl) (by simp) ?_
              refine AllReadyH.cons rfl (fun KQ hK => ?_) AllReadyH.nil
              go_simp
              refine (P1.out _ _ _ (hg.below (HBW.out.trans (hS8.2.mono HBW.out.size))) hs).mono ?_
              rintro e w9 ⟨⟨av1, ev1, rfl, hy1, hy2⟩, hb⟩
              have hS9 : ValAt w9 bf (of + j * 4) v ∧ Below wr.heap.size wr w9 := ⟨hS8.1.next hb (Nat.lt_of_lt_of_le hbfr hS8.2.size), hS8.2.trans (hb.mono hS8.2.size)⟩
              go_wp2_with fail
              refine hK.out _ _ hS9 (fun _ => ?_)
              clear hK KQ hb
              try simp only [Act.put, List.setIfInBounds_toArray, List.set_cons_zero, List.set_cons_succ, List.getElem_toArray, List.getElem_cons_zero, List.getElem_cons_succ]
              refine wpAnyH_take (i := 15) (v := .tuple #[av1, .int .i64 ev1]) rfl (by kernel_rfl) (by kernel_rfl) (by kernel_rfl) (fun _ _ _ h => h) (Or.inl ⟨by rfl, fun _ _ => by rfl⟩) (by assumption) ?_
              try simp only [Act.put, List.setIfInBounds_toArray, List.set_cons_zero, List.set_cons_succ, List.getElem_toArray, List.getElem_cons_zero, List.getElem_cons_succ]
              refine wpAnyH_take (i := 16) (v := av1) rfl (by kernel_rfl) (by kernel_rfl) (by kernel_rfl) (fun _ _ _ h => h) (Or.inl ⟨by rfl, by intro ww _; go_simp⟩) (by assumption) ?_
              try simp only [Act.put, List.setIfInBounds_toArray, List.set_cons_zero, List.set_cons_succ, List.getElem_toArray, List.getElem_cons_zero, List.getElem_cons_succ]
              refine wpAnyH_take (i := 17) (v := .int .i64 ev1) rfl (by kernel_rfl) (by kernel_rfl) (by kernel_rfl) (fun _ _ _ h => h) (Or.inl ⟨by rfl, by intro ww _; go_simp⟩) (by assumption) ?_
              try simp only [Act.put, List.setIfInBounds_toArray, List.set_cons_zero, List.set_cons_succ, List.getElem_toArray, List.getElem_cons_zero, List.getElem_cons_succ]
              refine wpAnyH_take (i := 18) (v := av1) rfl (by kernel_rfl) (by kernel_rfl) (by kernel_rfl) (fun _ _ _ h => h) (Or.inl ⟨by rfl, fun _ _ => by rfl⟩) (by assumption) ?_
              try simp only [Act.put, List.setIfInBounds_toArray, List.set_cons_zero, List.set_cons_succ, List.getElem_toArray, List.getElem_cons_zero, List.getElem_cons_succ]
              refine wpAnyH_take (i := 19) (v := .int .i64 ev1) rfl (by kernel_rfl) (by kernel_rfl) (by kernel_rfl) (fun _ _ _ h => h) (Or.inl ⟨by rfl, fun _ _ => by rfl⟩) (by assumption) ?_
              try simp only [Act.put, List.setIfInBounds_toArray, List.set_cons_zero, List.set_cons_succ, List.getElem_toArray, List.getElem_cons_zero, List.getElem_cons_succ]
              refine wpAnyH_done (by kernel_rfl) ?_ _
              have HY1 := Lib.hid hy1
              have HY2 := Lib.hid hy2
              have HBJ := Lib.hid (HBR.out.trans (hS9.2.mono HBR.out.size))
              have HB9 := Lib.hid (HBW.out.trans (hS9.2.mono HBW.out.size))
              have HW9 := Lib.hid (ownsRow_below HOWN.out hS9.2)
              clear hy1 hy2 hS8 hS9 hcn8 hs
              cases htk : takesM (q : Int) v
              · have HNO := Lib.hid (HNOT.out htk)
                obtain ⟨rfl, rfl⟩ := HY2.out htk
                obtain ⟨rfl, rfl⟩ := HE2.out HNO.out
                clear htk
                go_wp2_with fail
                refine (K.out _ HB9.out).mono ?_
                rintro e w10 ⟨rfl, hb10⟩
                have HB10 := Lib.hid (HB9.out.trans (hb10.mono HB9.out.size))
                clear hb10
                go_wp2
                go_ret
                exact ⟨rfl, HB10.out⟩
              · obtain ⟨rfl, hsl⟩ := HY1.out htk
                have HTK := Lib.hid htk
                obtain ⟨a9, c9, rfl, hn9, hm9, hcase9⟩ := hsl
                rcases hcase9 with ⟨h, _⟩ | ⟨b9, o9, rfl, hB9, hC9⟩
                · omega
                have HC9 := Lib.hid hC9
                unfold maxLen at hm9
                clear hC9 htk
                go_wp2_with (at_builtin; refine wpList_append_from rfl _ _ 33 rfl W6.heap.size 46 _ 6 56 Tryz.underlying33 infoD rfl (by decide) (by decide) _ _ _ rfl HW9.out b9 o9 _ 1 (decs [⟨(q : Int), v, false⟩]) rfl rfl (decs_one _) HC9.out (by omega) HBJ.out.size ?_; intro v10 w10 hown10 hb10)
                have HOWN10 := Lib.hid hown10
                have HB10 := Lib.hid (HBJ.out.trans hb10)
                clear hown10 hb10
                go_roundw
                case rel =>
                  refine ⟨j + 1, by go_num, by omega, ?_, Lib.hid ?_, HB10⟩
                  · rw [sidesW_succ, HSV.out, HQ.out, show decs (sidesW (9 + 4 * (k : Int)) l j ++ [⟨(q : Int), v, false⟩]) = decs (sidesW (9 + 4 * (k : Int)) l j) ++ decs [⟨(q : Int), v, false⟩] by simp [decs]]
                    exact HOWN10.out
                  · rw [oksW_succ, HSV.out, HQ.out, HTK.out, HO.out]; rfl
                case measure => simp [intOf]; omega
          · obtain rfl : j = 4 := by omega
            obtain ⟨rfl, hsl⟩ := HE1.out ⟨H4.out, HO.out⟩
            have hs1 := (SlAt.below hsl HB56.out).below HBR.out
            have hs2 := SlAt.owns HOWN.out
            have SM := sameDecs_true av _ (sidesW (9 + 4 * (k : Int)) l 4) wr (by rw [sidesW_length]; exact hs1) (by rw [sidesW_length]; exact hs2)
            have SM := Lib.hid SM
            clear hsl hs1 hs2
            go_wp2_with fail
            refine SM.out.mono ?_
            rintro e w10 ⟨rfl, hb10⟩
            have HB10 := Lib.hid (HBW.out.trans (hb10.mono HBW.out.size))
            clear hb10
            go_wp2_with fail
            refine (K.out _ HB10.out).mono ?_
            rintro e w11 ⟨rfl, hb11⟩
            have HB11 := Lib.hid (HB10.out.trans (hb11.mono HB10.out.size))
            clear hb11
            go_wp2
            go_ret
            exact ⟨rfl, HB11.out⟩
theorem propSides_walk (p : Int) (a : Option Addr) (c : Nat) (l : List Val) (w : World) (hg : Gl w) (hv : SlAt w (.slice a l.length c) l.length (vals l)) (ht : ∀ t ∈ l, t.name.length ≤ maxLen) :
    Calls Tryz.prog 4 #[.int .i64 p, .slice a l.length c] w fun e w' => e = .returned (.bool true) ∧ Below w.heap.size w w' := by
  by_cases h : p < 0 ∨ 2 < p ∨ l.length = 0 ∨ 5 < l.length
  · exact propSides_out p a c l.length w hg h
  · obtain ⟨k, rfl⟩ := Int.eq_ofNat_of_zero_le (show 0 ≤ p by omega)
    obtain ⟨a', c', e, hn, hm, hcase⟩ := hv
    simp at e; obtain ⟨rfl, rfl⟩ := e
    unfold maxLen at hm ht
    rcases hcase with ⟨h0, _⟩ | ⟨b, o, rfl, hB, hC⟩
    · omega
    · exact propSides_in k l.length b o c l w hg (by omega) rfl (by omega) (by omega) hn hm hB hC ht
end Go.Proofs.YtikhghmnclpigaaGreatDoor
