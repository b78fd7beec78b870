/-
  The walk of law17.StyleNothing.
-/
import Derived.Test.YtfiidocojooghaaDoorStyleL
namespace Go.Proofs.YtfiidocojooghaaDoor
open Go.RowKit Wsc
/-- two styles lie in blocks, a call's world went on from w. -/
structure Hold (w : World) (b0 b7 : Nat) (s t : Array Value) (w' : World) : Prop where
  e : Ext w w'
  r0 : w'.rangeAt b0 0 s.toList
  r7 : w'.rangeAt b7 0 t.toList
  l0 : b0 < w'.heap.size
  l7 : b7 < w'.heap.size
theorem rangeAt_below {B : Nat} {w w' : World} {b o : Nat} {cs : List Value} (h : w.rangeAt b o cs) (hb : Below B w w') (hg : b < B) : w'.rangeAt b o cs :=
  fun j v hv => (hb.cell (p := ⟨b, o + j, none⟩) hg).trans (h j v hv)
theorem Hold.next {w : World} {b0 b7 : Nat} {s t : Array Value} {w1 w2 : World} (h : Hold w b0 b7 s t w1) (hb : Below w1.heap.size w1 w2) : Hold w b0 b7 s t w2 :=
  ⟨h.e.next hb, rangeAt_below h.r0 hb h.l0, rangeAt_below h.r7 hb h.l7, Nat.lt_of_lt_of_le h.l0 hb.size, Nat.lt_of_lt_of_le h.l7 hb.size⟩
theorem Hold.drew {w : World} {b0 b7 : Nat} {s t : Array Value} {w1 : World} (h : Hold w b0 b7 s t w1) : Hold w b0 b7 s t w1.drew :=
  ⟨h.e.drew, by simpa using h.r0, by simpa using h.r7, h.l0, h.l7⟩
theorem load_sty (s : Array Value) (hs : s.size = 55) (b : Nat) (w : World) (h : w.rangeAt b 0 s.toList) : (Instr.loadAt 27 (.pointer (some ⟨b, 0, none⟩))).run Tryd.prog w = .ok (.agg s) w := by
  have := run_loadAt_mid (P := Tryd.prog) w b 0 27 s.toList _ h Tryd.underlying27 rfl (by rw [show s.toList.length = 55 by simpa using hs]; exact infoSty)
  simpa using this
theorem blk_ne {g h i j : Nat} (e : g ≠ h) : (⟨g, i, none⟩ : Addr) ≠ ⟨h, j, none⟩ := fun x => e (Addr.mk.inj x).1
theorem loadFrom_sty (s : Array Value) (hs : s.size = 55) (b : Nat) (w : World) (h : w.rangeAt b 0 s.toList) : (loadCellsFrom ⟨b, 0, none⟩ 0 55 #[]).run Tryd.prog w = .ok s w := by
  have := run_loadCells_list (P := Tryd.prog) w ⟨b, 0, none⟩ s.toList (fun j v hv => by rw [Addr.add_mid]; exact h j v hv)
  rw [show s.toList.length = 55 by simpa using hs] at this
  simpa [loadCells] using this
theorem loadVar_sty (s : Array Value) (hs : s.size = 55) (b : Nat) (w : World) (h : w.rangeAt b 0 s.toList) : (loadVar 27 ⟨b, 0, none⟩).run Tryd.prog w = .ok (.agg s) w := by
  have := run_loadVar_mid (P := Tryd.prog) w b 0 27 s.toList _ h Tryd.underlying27 rfl (by rw [show s.toList.length = 55 by simpa using hs]; exact infoSty)
  simpa using this
theorem HoldL.all {w : World} {b0 b7 : Nat} {s t : Array Value} {ww : World}
    (m1 : ∀ b w, w.rangeAt b 0 s.toList → (loadCellsFrom ⟨b, 0, none⟩ 0 55 #[]).run Tryd.prog w = .ok s w) (m2 : ∀ b w, w.rangeAt b 0 t.toList → (loadCellsFrom ⟨b, 0, none⟩ 0 55 #[]).run Tryd.prog w = .ok t w)
    (v1 : ∀ b w, w.rangeAt b 0 s.toList → (loadVar 27 ⟨b, 0, none⟩).run Tryd.prog w = .ok (.agg s) w) (v2 : ∀ b w, w.rangeAt b 0 t.toList → (loadVar 27 ⟨b, 0, none⟩).run Tryd.prog w = .ok (.agg t) w)
    (h : Hold w b0 b7 s t ww) : Hold w b0 b7 s t ww ∧ (loadCellsFrom ⟨b0, 0, none⟩ 0 55 #[]).run Tryd.prog ww = .ok s ww ∧ (loadCellsFrom ⟨b7, 0, none⟩ 0 55 #[]).run Tryd.prog ww = .ok t ww ∧
        (loadCells ⟨b0, 0, none⟩ 55).run Tryd.prog ww = .ok s ww ∧ (loadCells ⟨b7, 0, none⟩ 55).run Tryd.prog ww = .ok t ww ∧
        (loadVar 27 ⟨b0, 0, none⟩).run Tryd.prog ww = .ok (.agg s) ww ∧ (loadVar 27 ⟨b7, 0, none⟩).run Tryd.prog ww = .ok (.agg t) ww :=
  ⟨h, m1 _ _ h.r0, m2 _ _ h.r7, m1 _ _ h.r0, m2 _ _ h.r7, v1 _ _ h.r0, v2 _ _ h.r7⟩
/-- the style of nothing, with the parent's em and line. -/
def wantS (P : Sty) : Sty := ⟨fun i => if i = 54 then P.f 54 else if i = 53 then P.f 53 else startS.f i, startS.b, startS.nm⟩
theorem want_same (P : Sty) (w h : Int) : styA (finS [] P w h) = styA (wantS P) := by
  refine styA_same _ _ ⟨fun i hi => ?_, nothing_b P w h, nothing_nm P w h⟩
  show _ = if i = 54 then P.f 54 else if i = 53 then P.f 53 else startS.f i
  by_cases h1 : i = 54
  · subst h1; rw [if_pos rfl]; exact nothing_line P w h
  · rw [if_neg h1]
    by_cases h2 : i = 53
    · subst h2; rw [if_pos rfl]; exact nothing_font P w h
    · rw [if_neg h2]; exact nothing_f P w h i (by omega)
theorem range_sty (s : Sty) (w : World) (b : Nat) : w.rangeAt b 0 (styA s).toList ↔ ∀ i, i < 55 → w.cell? ⟨b, i, none⟩ = some (Sty.cell s i) := by
  constructor
  · intro h i hi
    have := h i _ (styA_get s i hi)
    rwa [Nat.zero_add] at this
  · intro h j v hv
    have hj : j < 55 := by have := (List.getElem?_eq_some_iff.1 hv).1; simpa [sty_size] using this
    rw [styA_get s j hj] at hv
    rw [Nat.zero_add, h j hj, hv]
set_option maxRecDepth 100000 in
set_option maxHeartbeats 1000000 in
theorem styleNothing_walk (P : Sty) (wd ht : Int) (w : World) (hg : Gl w) :
    Calls Tryd.prog 3 #[.agg (styA P), .int .i64 wd, .int .i64 ht] w fun e w' => e = .returned (.bool true) ∧ Below w.heap.size w w' := by
  have hA := Lib.hid ((Below.refl w.heap.size w).alloc (Nat.le_refl _) (.cells (styA P) 27))
  have hZ := Lib.hid (show (w.alloc (.cells (styA P) 27)).heap.size = w.heap.size + 1 by simp)
  have R0 := Lib.hid (show (w.alloc (.cells (styA P) 27)).rangeAt w.heap.size 0 (styA P).toList from fun j v hv => by
    rw [Nat.zero_add, World.cell?_alloc_at _ _ _ _ rfl]; simpa using hv)
  have S1 := Lib.hid (start_any (w.alloc (.cells (styA P) 27)) (hg.below hA.out))
  have T1 := Lib.hid w1_there
  have B1 := Lib.hid w1_below
  have F1 := Lib.hid (sty_one startS)
  have hsz := Lib.hid (show (Tryd.prog.info? 27).map (·.size) = some (styA startS).size by rw [sty_size]; exact infoSty)
  have K := Lib.hid (fun ww (hb : Below w.heap.size w ww) => known_any ww (hg.below hb))
  have C := fun ww (hb : Below w.heap.size w ww) => compute_any none 0 [] P wd ht ww (hg.below hb) (SlAt.nil _) (by decide)
  rw [want_same] at C
  have C := Lib.hid C
  have EQ := eqlS (wantS P)
  have gs := gS
  have ha := Lib.hid (fun (ww : World) (b : Nat) => (range_sty (wantS P) ww b).mpr)
  have hs := Lib.hid (fun (ww : World) (b : Nat) => (range_sty startS ww b).mp)
  have hp := Lib.hid (fun (ww : World) (b : Nat) => (range_sty P ww b).mp)
  have L1 := Lib.hid (load_sty (styA P) (sty_size P))
  have L2 := Lib.hid (load_sty (styA (wantS P)) (sty_size _))
  have V1 := Lib.hid (loadVar_sty (styA P) (sty_size P))
  have V2 := Lib.hid (loadVar_sty (styA (wantS P)) (sty_size _))
  have M1 := Lib.hid (loadFrom_sty (styA P) (sty_size P))
  have M2 := Lib.hid (loadFrom_sty (styA (wantS P)) (sty_size _))
  have hl := Lib.hid (show (styA startS).toList.length = 55 by simp [sty_size])
  have hst := Lib.hid (show (styA P).toList.length = 55 by simp [sty_size])
  have hwa := Lib.hid (show (styA (wantS P)).toList.length = 55 by simp [sty_size])
  generalize styA (wantS P) = wa at *
  generalize styA startS = ss at *
  generalize styA P = st at *
  go_enter Tryd.func3, Tryd.ntmps3
  go_wp2_with fail
  refine S1.out.mono ?_
  rintro e w2 ⟨rfl, hb2⟩
  have h2 := Lib.hid (hA.out.trans (hb2.mono hA.out.size))
  have r2 := rangeAt_below R0.out hb2 (by rw [hZ.out]; omega)
  have hlt2 : w.heap.size < w2.heap.size := by have := hb2.size; rw [hZ.out] at this; omega
  have TH := Lib.hid (show (W1 w2).there w2.heap.size 0 ss.size by rw [show ss.size = 55 by have := hl.out; simpa using this]; exact T1.out w2)
  have RX := Lib.hid (World.rangeAt_setCells_same (W1 w2) w2.heap.size 0 ss.toList (by rw [hl.out]; exact T1.out w2))
  have RT := Lib.hid (World.there_setCells (T1.out w2) w2.heap.size 0 ss.toList)
  have hX := Lib.hid (below_setCells h2.out.size ss.toList 0 _ (h2.out.trans ((B1.out w2).mono h2.out.size)))
  have r3 := Lib.hid (World.rangeAt_setCells_apart (rangeAt_below r2 (B1.out w2) hlt2) w2.heap.size 0 ss.toList (Or.inl (by omega)))
  have hXs := Lib.hid (show w2.heap.size < ((W1 w2).setCells w2.heap.size 0 ss.toList).heap.size by have := (below_setCells (B := 0) (w := W1 w2) (b := w2.heap.size) (by omega) ss.toList 0 (W1 w2) (Below.refl _ _)).size; simp at this; omega)
  clear hb2 r2
  go_wp2_with (refine wpList_store_mid rfl _ _ _ rfl w2.heap.size 0 ss rfl rfl TH.out hsz.out F1.out ?_)
  generalize (W1 w2).setCells w2.heap.size 0 ss.toList = X at *
  have q53 := hp.out X w.heap.size r3.out 53 (by decide)
  have q54 := hp.out X w.heap.size r3.out 54 (by decide)
  have z53 := hs.out X w2.heap.size RX.out 53 (by decide)
  have z54 := hs.out X w2.heap.size RX.out 54 (by decide)
  have f53 := (RT.out 53 (by decide)).2
  have f54 := (RT.out 54 (by decide)).2
  rw [show Sty.cell P 53 = .int .i64 (P.f 53) from rfl] at q53
  rw [show Sty.cell P 54 = .int .i64 (P.f 54) from rfl] at q54
  simp only [Nat.zero_add] at f53 f54
  have hlt3 := hXs.out
  have HH := Lib.hid (show Hold w w.heap.size w2.heap.size st wa ((X.setCell ⟨w2.heap.size, 53, none⟩ (.int .i64 (P.f 53))).setCell ⟨w2.heap.size, 54, none⟩ (.int .i64 (P.f 54))).drew from
    (⟨⟨by simp; omega, ((hX.out.setCell (p := ⟨w2.heap.size, 53, none⟩) (Nat.le_of_lt hlt2) _).setCell (p := ⟨w2.heap.size, 54, none⟩) (Nat.le_of_lt hlt2) _)⟩,
      fun j v hv => by
        rw [World.cell?_setCell_other _ _ _ _ (blk_ne (by omega)), World.cell?_setCell_other _ _ _ _ (blk_ne (by omega))]; exact r3.out j v hv,
      ha.out _ _ (fun i hi => by
        by_cases h1 : i = 54
        · subst h1; rw [World.cell?_setCell_same' _ _ _ (by rw [World.cell?_setCell_other _ _ _ _ (off_ne (by decide)), z54]; rfl)]; rfl
        · rw [World.cell?_setCell_other _ _ _ _ (off_ne (fun x => h1 x.symm))]
          by_cases h2 : i = 53
          · subst h2; rw [World.cell?_setCell_same' _ _ _ (by rw [z53]; rfl)]; rfl
          · rw [World.cell?_setCell_other _ _ _ _ (off_ne (fun x => h2 x.symm)), hs.out X w2.heap.size RX.out i hi]
            unfold Sty.cell wantS
            simp only
            rw [if_neg h1, if_neg h2]),
      by simp; omega, by simp; omega⟩ : Hold w w.heap.size w2.heap.size st wa ((X.setCell ⟨w2.heap.size, 53, none⟩ (.int .i64 (P.f 53))).setCell ⟨w2.heap.size, 54, none⟩ (.int .i64 (P.f 54)))).drew)
  have k1 : ∀ i, (X.setCell ⟨w2.heap.size, 53, none⟩ (.int .i64 (P.f 53))).drew.cell? ⟨w.heap.size, i, none⟩ = X.cell? ⟨w.heap.size, i, none⟩ := fun i =>
    World.cell?_setCell_other X ⟨w2.heap.size, 53, none⟩ ⟨w.heap.size, i, none⟩ _ (blk_ne (by omega))
  have k2 : ∀ i, ((X.setCell ⟨w2.heap.size, 53, none⟩ (.int .i64 (P.f 53))).setCell ⟨w2.heap.size, 54, none⟩ (.int .i64 (P.f 54))).drew.cell? ⟨w.heap.size, i, none⟩ = X.cell? ⟨w.heap.size, i, none⟩ := fun i =>
    (World.cell?_setCell_other (X.setCell ⟨w2.heap.size, 53, none⟩ (.int .i64 (P.f 53))) ⟨w2.heap.size, 54, none⟩ ⟨w.heap.size, i, none⟩ _ (blk_ne (by omega))).trans (k1 i)
  have k1 := Lib.hid k1
  have k2 := Lib.hid k2
  go_region_held3 (fun w' => w'.cell? ⟨w.heap.size, 53, none⟩ = some (.int .i64 (P.f 53)) ∧ w'.cell? ⟨w.heap.size, 54, none⟩ = some (.int .i64 (P.f 54)))
    (first
      | exact ⟨q53, q54⟩
      | exact ⟨(k1.out _).trans q53, (k1.out _).trans q54⟩
      | exact ⟨(k2.out _).trans q53, (k2.out _).trans q54⟩)
    (fail)
  have hH0 := HH.out
  generalize ((X.setCell ⟨w2.heap.size, 53, none⟩ (.int .i64 (P.f 53))).setCell ⟨w2.heap.size, 54, none⟩ (.int .i64 (P.f 54))).drew = Y at *
  clear q53 q54 z53 z54 f53 f54 hlt3 k1 k2
  go_wp2_with fail
  have hi1 := Lib.hid (show (Tryd.prog.info? 27).map (·.size) = some st.toList.length by rw [hst.out]; exact infoSty)
  have hi2 := Lib.hid (show (Tryd.prog.info? 27).map (·.size) = some wa.toList.length by rw [hwa.out]; exact infoSty)
  have eq1 : st.toList.toArray = st := by simp
  have eq2 : wa.toList.toArray = wa := by simp
  refine wp_region_held_drew (S := Hold w w.heap.size w2.heap.size st wa) (by kernel_rfl) hH0.drew (fun hH1 => ?_)
  refine wpAnyH_take (i := 0) rfl (by kernel_rfl) (by kernel_rfl) (by kernel_rfl) (fun _ _ _ h => h) (yieldsIf_load_mid (by rfl) 27 _ rfl w.heap.size 0 rfl st.toList _ (fun _ h => Hold.r0 h) Tryd.underlying27 rfl hi1.out) (by assumption) ?_
  rw [eq1]
  simp only [Act.put, List.setIfInBounds_toArray, List.set_cons_zero, List.set_cons_succ, List.getElem_toArray, List.getElem_cons_zero]
  refine wpAnyH_take (i := 1) (v := .int .i64 wd) rfl (by kernel_rfl) (by kernel_rfl) (by kernel_rfl) (fun _ _ _ h => h) (Or.inl ⟨by rfl, fun _ _ => by rfl⟩) (by assumption) ?_
  simp only [Act.put, List.setIfInBounds_toArray, List.set_cons_zero, List.set_cons_succ, List.getElem_toArray, List.getElem_cons_zero, List.getElem_cons_succ]
  refine wpAnyH_take (i := 2) (v := .int .i64 ht) rfl (by kernel_rfl) (by kernel_rfl) (by kernel_rfl) (fun _ _ _ h => h) (Or.inl ⟨by rfl, fun _ _ => by rfl⟩) (by assumption) ?_
  simp only [Act.put, List.setIfInBounds_toArray, List.set_cons_zero, List.set_cons_succ, List.getElem_toArray, List.getElem_cons_zero, List.getElem_cons_succ]
  refine wpAnyH_take (i := 4) rfl (by kernel_rfl) (by kernel_rfl) (by kernel_rfl) (fun _ _ _ h => h) (yieldsIf_load_mid (by rfl) 27 _ rfl w2.heap.size 0 rfl wa.toList _ (fun _ h => Hold.r7 h) Tryd.underlying27 rfl hi2.out) (by assumption) ?_
  rw [eq2]
  simp only [Act.put, List.setIfInBounds_toArray, List.set_cons_zero, List.set_cons_succ, List.getElem_toArray, List.getElem_cons_zero, List.getElem_cons_succ]
  refine wpAnyH_ready (rs := [3]) (by kernel_rfl) (by simp) ?_
  refine AllReadyH.cons rfl (fun KQ hK => ?_) AllReadyH.nil
  go_simp
  refine (C.out _ hH1.e.bel).mono ?_
  rintro e w5 ⟨rfl, hb⟩
  go_wp2_with fail
  refine hK.out _ _ (Hold.next hH1 hb) (fun hH2 => ?_)
  clear hK KQ
  try simp only [Act.put, List.setIfInBounds_toArray, List.set_cons_zero, List.set_cons_succ, List.getElem_toArray, List.getElem_cons_zero, List.getElem_cons_succ]
  refine wpAnyH_take (i := 5) (v := .bool true) rfl (by kernel_rfl) (by kernel_rfl) (by kernel_rfl) (fun _ _ _ h => h) (Or.inl ⟨by rfl, by intro ww _; go_simp⟩) (by assumption) ?_
  simp only [Act.put, List.setIfInBounds_toArray, List.set_cons_zero, List.set_cons_succ, List.getElem_toArray, List.getElem_cons_zero, List.getElem_cons_succ]
  refine wpAnyH_take (i := 6) (v := .bool true) rfl (by kernel_rfl) (by kernel_rfl) (by kernel_rfl) (fun _ _ _ h => h) (Or.inl ⟨by rfl, fun _ _ => by rfl⟩) (by assumption) ?_
  simp only [Act.put, List.setIfInBounds_toArray, List.set_cons_zero, List.set_cons_succ, List.getElem_toArray, List.getElem_cons_zero, List.getElem_cons_succ]
  refine wpAnyH_ready (rs := [7]) (by kernel_rfl) (by simp) ?_
  refine AllReadyH.cons rfl (fun KQ hK => ?_) AllReadyH.nil
  go_simp
  refine (K.out _ hH2.e.bel).mono ?_
  rintro e w6 ⟨rfl, hb3⟩
  go_wp2_with fail
  refine hK.out _ _ (Hold.next hH2 hb3) (fun hH3 => ?_)
  clear hK KQ
  try simp only [Act.put, List.setIfInBounds_toArray, List.set_cons_zero, List.set_cons_succ, List.getElem_toArray, List.getElem_cons_zero, List.getElem_cons_succ]
  refine wpAnyH_take (i := 8) (v := .bool true) rfl (by kernel_rfl) (by kernel_rfl) (by kernel_rfl) (fun _ _ _ h => h) (Or.inl ⟨by rfl, fun _ _ => by rfl⟩) (by assumption) ?_
  try simp only [Act.put, List.setIfInBounds_toArray, List.set_cons_zero, List.set_cons_succ, List.getElem_toArray, List.getElem_cons_zero, List.getElem_cons_succ]
  refine wpAnyH_take (i := 9) (v := .bool true) rfl (by kernel_rfl) (by kernel_rfl) (by kernel_rfl) (fun _ _ _ h => h) (Or.inl ⟨by rfl, fun _ _ => by rfl⟩) (by assumption) ?_
  try simp only [Act.put, List.setIfInBounds_toArray, List.set_cons_zero, List.set_cons_succ, List.getElem_toArray, List.getElem_cons_zero, List.getElem_cons_succ]
  refine wpAnyH_done (by kernel_rfl) ?_ _
  go_wp2
  go_ret
  exact ⟨rfl, hH3.e.bel⟩
end Go.Proofs.YtfiidocojooghaaDoor
