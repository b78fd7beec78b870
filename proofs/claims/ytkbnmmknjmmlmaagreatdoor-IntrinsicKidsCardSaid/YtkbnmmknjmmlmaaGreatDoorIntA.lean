/-
  The walks of layer 23: pairs, gap, instead, asked (printed by gen_inta.py).
  The walks of layer 23: instead, asked (printed by gen_intb.py).
-/
import Derived.Test.YtkbnmmknjmmlmaaGreatDoorSizC
import Derived.Test.YtkbnmmknjmmlmaaGreatDoorSizPlain
namespace Go.Proofs.YtkbnmmknjmmlmaaGreatDoor
open Go.RowKit Wsc
theorem ret_row {fn : Func} {p : Tmp} {ty : TypeId} {R : Ending → World → Prop} {a : Act} {w : World} {g : Nat} {A : Array Value} {d : TypeDesc} (h : fn.results = #[.cell p ty])
    (hp : a.tmps.getD p undef = .pointer (some ⟨g, 0, none⟩)) (hQ : w.rangeAt g 0 A.toList) (hu : Tryz.prog.underlying ty = some d) (hr : d.isRow = true) (hi : (Tryz.prog.info? ty).map (·.size) = some A.size) (hd : a.defers = []) (hR : R (.returned (.agg A)) w) : bodyPost Tryz.prog fn R .ret a w := by
  refine bodyPost_ret (v := .agg A) ?_ hd hR
  have hp2 : a.tmps[p]?.getD undef = .pointer (some ⟨g, 0, none⟩) := by simpa using hp
  have := run_loadVar_mid (P := Tryz.prog) w g 0 ty A.toList _ hQ hu hr (by simpa using hi)
  rw [Array.toArray_toList] at this
  simp [results, h, asAddr, hp2, this]
def prC (a b : Int) (j : Nat) : Value := if j = 0 then .int .i64 a else .int .i64 b
def prV (p : Pr) : Value := .agg #[.int .i64 p.1, .int .i64 p.2]
theorem prA_row (a b : Int) : (#[.int .i64 a, .int .i64 b] : Array Value).toList = fnL 2 (prC a b) := rfl
theorem infoPr : (Tryz.prog.info? 51).map (·.size) = some 2 := by kernel_rfl
theorem infoSz : (Tryz.prog.info? 30).map (·.size) = some 2 := by kernel_rfl
theorem top_any (a1 a2 b1 b2 : Int) (w : World) :
    Calls Tryz.prog 38 #[.agg #[.int .i64 a1, .int .i64 a2], .agg #[.int .i64 b1, .int .i64 b2]] w fun e w' => e = .returned (.agg #[.int .i64 (max a1 b1), .int .i64 (max a2 b2)]) ∧ Below w.heap.size w w' := by
  have HR := Lib.hid ((FnAt.new ((w.alloc (.cells #[.int .i64 a1, .int .i64 a2] 51)).alloc (.cells #[.int .i64 b1, .int .i64 b2] 51)) 51 2 (prC (max a1 b1) (max a2 b2)) #[.int .i64 (max a1 b1), .int .i64 (max a2 b2)] rfl).range _ (prA_row (max a1 b1) (max a2 b2)))
  have HB := Lib.hid ((((Below.refl w.heap.size w).alloc (Nat.le_refl _) (.cells #[.int .i64 a1, .int .i64 a2] 51)).alloc (by simp) (.cells #[.int .i64 b1, .int .i64 b2] 51)).alloc (by simp; omega) (.cells #[.int .i64 (max a1 b1), .int .i64 (max a2 b2)] 51))
  go_enter Tryz.func38, Tryz.ntmps38
  go_wp2
  exact ret_row rfl (by simp) HR.out Tryz.underlying51 rfl infoPr rfl ⟨rfl, HB.out⟩

/-- S for plus: the box, and the result's block. -/
structure PlS (w : World) (a1 a2 : Int) (w' : World) : Prop where
  bx : FnAt w' w.heap.size 2 (prC a1 a2)
  ex : ∃ c, FnAt w' (w.heap.size + 1) 2 c
  bel : Below w.heap.size w w'
theorem PlS.drew {w : World} {a1 a2 : Int} {w' : World} (h : PlS w a1 a2 w') : PlS w a1 a2 w'.drew := ⟨h.bx.drew, by obtain ⟨c, hc⟩ := h.ex; exact ⟨c, hc.drew⟩, h.bel.drew⟩
theorem PlS.rs {w : World} {a1 a2 : Int} {w' : World} (h : PlS w a1 a2 w') : FnAt w' (w.heap.size + 1) 2 h.ex.choose := h.ex.choose_spec
theorem PlS.put {w : World} {a1 a2 : Int} {w' : World} (h : PlS w a1 a2 w') (u v : Value) : PlS w a1 a2 ((w'.setCell ⟨w.heap.size + 1, 0, none⟩ u).setCell ⟨w.heap.size + 1, 1, none⟩ v) :=
  ⟨(h.bx.other _ _ (by omega) u).other _ _ (by omega) v, ⟨_, (h.rs.set 0 (by decide) u).set 1 (by decide) v⟩, (h.bel.setCell (p := ⟨w.heap.size + 1, 0, none⟩) (by simp) u).setCell (p := ⟨w.heap.size + 1, 1, none⟩) (by simp) v⟩
theorem PlS.new (w : World) (a1 a2 : Int) : PlS w a1 a2 ((w.alloc (.cells #[.int .i64 a1, .int .i64 a2] 51)).alloc (.cells #[.int .i64 0, .int .i64 0] 51)) where
  bx := (FnAt.new w 51 2 (prC a1 a2) #[.int .i64 a1, .int .i64 a2] rfl).alloc _
  ex := ⟨prC 0 0, by
    have h := FnAt.new (w.alloc (.cells #[.int .i64 a1, .int .i64 a2] 51)) 51 2 (prC 0 0) #[.int .i64 0, .int .i64 0] rfl
    rwa [show (w.alloc (.cells #[.int .i64 a1, .int .i64 a2] 51)).heap.size = w.heap.size + 1 by simp] at h⟩
  bel := ((Below.refl w.heap.size w).alloc (Nat.le_refl _) _).alloc (by simp) _
set_option maxRecDepth 100000 in
theorem plus_any (a1 a2 x y : Int) (w : World) :
    Calls Tryz.prog 35 #[.agg #[.int .i64 a1, .int .i64 a2], .int .i64 x, .int .i64 y] w fun e w' => e = .returned (.agg #[.int .i64 (addP a1 x), .int .i64 (addP a2 y)]) ∧ Below w.heap.size w w' := by
  have HS := PlS.new w a1 a2
  go_enter Tryz.func35, Tryz.ntmps35
  go_wp2_with fail
  generalize (w.alloc (.cells #[.int .i64 a1, .int .i64 a2] 51)).alloc (.cells #[.int .i64 0, .int .i64 0] 51) = W at *
  refine wp_region_held_drew (S := (fun w' => PlS w a1 a2 w')) (by kernel_rfl) HS.drew (fun hH1 => ?_)
  generalize W.drew = wd at *
  refine tkm 0 (.pointer (some ⟨w.heap.size, 0, none⟩)) rfl hH1 ?_
  refine tkm 1 (.int .i64 a1) rfl hH1 ?_ (hv := by intro ww hS; have q0 : ww.cell? ⟨w.heap.size, 0, none⟩ = some (.int .i64 a1) := (PlS.bx hS).c 0 (by decide); go_simp)
  refine tkm 2 (.int .i64 x) rfl hH1 ?_
  refine tkm 4 (.pointer (some ⟨w.heap.size, 1, none⟩)) rfl hH1 ?_
  refine tkm 5 (.int .i64 a2) rfl hH1 ?_ (hv := by intro ww hS; have q0 : ww.cell? ⟨w.heap.size, 1, none⟩ = some (.int .i64 a2) := (PlS.bx hS).c 1 (by decide); go_simp)
  refine tkm 6 (.int .i64 y) rfl hH1 ?_
  try simp only [Act.put, List.setIfInBounds_toArray, List.set_cons_zero, List.set_cons_succ, List.getElem_toArray, List.getElem_cons_zero, List.getElem_cons_succ]
  refine rd1 3 rfl (fun KQ hK => ?_)
  go_simp
  refine (fixAdd_any _ _ _).mono ?_
  rintro e wz ⟨rfl, rfl⟩
  go_wp2_with fail
  refine hK.out _ _ (hH1) (fun hH2 => ?_)
  clear hK KQ
  try simp only [Act.put, List.setIfInBounds_toArray, List.set_cons_zero, List.set_cons_succ, List.getElem_toArray, List.getElem_cons_zero, List.getElem_cons_succ]
  refine rd1 7 rfl (fun KQ hK => ?_)
  go_simp
  refine (fixAdd_any _ _ _).mono ?_
  rintro e wz ⟨rfl, rfl⟩
  go_wp2_with fail
  refine hK.out _ _ (hH2) (fun hH3 => ?_)
  clear hK KQ
  refine tkm 8 (.agg #[.int .i64 (addP a1 x), .int .i64 (addP a2 y)]) rfl hH3 ?_
  try simp only [Act.put, List.setIfInBounds_toArray, List.set_cons_zero, List.set_cons_succ, List.getElem_toArray, List.getElem_cons_zero, List.getElem_cons_succ]
  refine rd1 9 rfl (fun KQ hK => ?_)
  have HX := PlS.rs hH3
  have z0 := HX.c 0 (by decide)
  have z1 := HX.c 1 (by decide)
  have f0 := HX.f 0 (by decide)
  have f1 := HX.f 1 (by decide)
  have HP := PlS.put hH3 (.int .i64 (addP a1 x)) (.int .i64 (addP a2 y))
  go_simp
  refine hK.out _ _ (HP) (fun hH4 => ?_)
  clear hK KQ
  try simp only [Act.put, List.setIfInBounds_toArray, List.set_cons_zero, List.set_cons_succ, List.getElem_toArray, List.getElem_cons_zero, List.getElem_cons_succ]
  refine wpAnyH_done (by kernel_rfl) ?_ _
  have HR := Lib.hid (((HX.set 0 (by decide) (.int .i64 (addP a1 x))).set 1 (by decide) (.int .i64 (addP a2 y))).range [.int .i64 (addP a1 x), .int .i64 (addP a2 y)] rfl)
  have HB := Lib.hid HP.bel
  clear HX z0 z1 f0 f1
  go_wp2
  exact ret_row rfl rfl HR.out Tryz.underlying51 rfl infoPr rfl ⟨rfl, HB.out⟩
theorem gap_any (s : Sty) (w : World) :
    Calls Tryz.prog 49 #[.agg (styA s)] w fun e w' => e = .returned (.int .i64 (gapP s)) ∧ Below w.heap.size w w' := by
  have h := FnAt.new w 34 55 (Sty.cell s) (styA s) rfl
  have q1 : (w.alloc (.cells (styA s) 34)).cell? ⟨w.heap.size, 49, none⟩ = some (.int .i64 (s.f 49)) := h.c 49 (by decide)
  have q2 : (w.alloc (.cells (styA s) 34)).cell? ⟨w.heap.size, 50, none⟩ = some (.int .i64 (s.f 50)) := h.c 50 (by decide)
  have HB := Lib.hid ((Below.refl w.heap.size w).alloc (Nat.le_refl _) (.cells (styA s) 34))
  have E : gapP s = if s.f 49 ≠ 1 then 0 else max (hold (s.f 50)) 0 := rfl
  rw [E]
  clear E h
  generalize styA s = sa at *
  generalize s.f 49 = x at *
  generalize s.f 50 = y at *
  by_cases h1 : x = 1
  · subst h1
    rw [if_neg (by simp)]
    go_enter Tryz.func49, Tryz.ntmps49
    go_wp2_with (go_at_call 57; refine (hold_any _ _).mono ?_; rintro e w1 ⟨rfl, rfl⟩)
    go_ret
    exact ⟨rfl, HB.out⟩
  · rw [if_pos h1]
    go_enter Tryz.func49, Tryz.ntmps49
    go_wp2
    go_ret
    exact ⟨rfl, HB.out⟩
end Go.Proofs.YtkbnmmknjmmlmaaGreatDoor
namespace Go.Proofs.YtkbnmmknjmmlmaaGreatDoor
open Go.RowKit Wsc
abbrev in3 (w : World) (k n k1 n1 k2 n2 : Int) : World := (((w.alloc (.cells #[.int .i64 k, .int .i64 n] 30)).alloc (.cells #[.int .i64 k1, .int .i64 n1] 30)).alloc (.cells #[.int .i64 k2, .int .i64 n2] 30))
theorem in3_size (w : World) (k n k1 n1 k2 n2 : Int) : (in3 w k n k1 n1 k2 n2).heap.size = w.heap.size + 3 := by simp [in3]
theorem in3_below (w : World) (k n k1 n1 k2 n2 : Int) : Below w.heap.size w (in3 w k n k1 n1 k2 n2) := (((Below.refl w.heap.size w).alloc (Nat.le_refl _) _).alloc (by simp) _).alloc (by simp; omega) _
theorem in3_res (w : World) (k n k1 n1 k2 n2 a b : Int) : ((in3 w k n k1 n1 k2 n2).alloc (.cells #[.int .i64 a, .int .i64 b] 30)).rangeAt (w.heap.size + 3) 0 [.int .i64 a, .int .i64 b] := by
  have h := (FnAt.new (in3 w k n k1 n1 k2 n2) 30 2 (prC a b) #[.int .i64 a, .int .i64 b] rfl).range [.int .i64 a, .int .i64 b] rfl
  rwa [in3_size] at h

theorem instead_2 (n k1 n1 k2 n2 : Int) (w : World)  :
    Calls Tryz.prog 28 #[.agg #[.int .i64 2, .int .i64 n], .agg #[.int .i64 k1, .int .i64 n1], .agg #[.int .i64 k2, .int .i64 n2]] w fun e w' => e = .returned (.agg #[.int .i64 k1, .int .i64 n1]) ∧ Below w.heap.size w w' := by
  have HR := Lib.hid (in3_res w 2 n k1 n1 k2 n2 k1 n1)
  have HB := Lib.hid ((in3_below w 2 n k1 n1 k2 n2).alloc (in3_below w 2 n k1 n1 k2 n2).size (.cells #[.int .i64 k1, .int .i64 n1] 30))
  go_enter Tryz.func28, Tryz.ntmps28
  go_wp2
  exact ret_row rfl rfl HR.out Tryz.underlying30 rfl infoSz rfl ⟨rfl, HB.out⟩
theorem instead_5 (n k1 n1 k2 n2 : Int) (w : World)  :
    Calls Tryz.prog 28 #[.agg #[.int .i64 5, .int .i64 n], .agg #[.int .i64 k1, .int .i64 n1], .agg #[.int .i64 k2, .int .i64 n2]] w fun e w' => e = .returned (.agg #[.int .i64 k2, .int .i64 n2]) ∧ Below w.heap.size w w' := by
  have HR := Lib.hid (in3_res w 5 n k1 n1 k2 n2 k2 n2)
  have HB := Lib.hid ((in3_below w 5 n k1 n1 k2 n2).alloc (in3_below w 5 n k1 n1 k2 n2).size (.cells #[.int .i64 k2, .int .i64 n2] 30))
  go_enter Tryz.func28, Tryz.ntmps28
  go_wp2
  exact ret_row rfl rfl HR.out Tryz.underlying30 rfl infoSz rfl ⟨rfl, HB.out⟩
theorem instead_o (k n k1 n1 k2 n2 : Int) (w : World) (h2 : k ≠ 2) (h5 : k ≠ 5) :
    Calls Tryz.prog 28 #[.agg #[.int .i64 k, .int .i64 n], .agg #[.int .i64 k1, .int .i64 n1], .agg #[.int .i64 k2, .int .i64 n2]] w fun e w' => e = .returned (.agg #[.int .i64 k, .int .i64 n]) ∧ Below w.heap.size w w' := by
  have HR := Lib.hid (in3_res w k n k1 n1 k2 n2 k n)
  have HB := Lib.hid ((in3_below w k n k1 n1 k2 n2).alloc (in3_below w k n k1 n1 k2 n2).size (.cells #[.int .i64 k, .int .i64 n] 30))
  go_enter Tryz.func28, Tryz.ntmps28
  go_wp2
  exact ret_row rfl rfl HR.out Tryz.underlying30 rfl infoSz rfl ⟨rfl, HB.out⟩
def insteadP (k n k1 n1 k2 n2 : Int) : Int × Int := if k = 2 then (k1, n1) else if k = 5 then (k2, n2) else (k, n)
theorem instead_any (k n k1 n1 k2 n2 : Int) (w : World) :
    Calls Tryz.prog 28 #[.agg #[.int .i64 k, .int .i64 n], .agg #[.int .i64 k1, .int .i64 n1], .agg #[.int .i64 k2, .int .i64 n2]] w fun e w' => e = .returned (.agg #[.int .i64 (insteadP k n k1 n1 k2 n2).1, .int .i64 (insteadP k n k1 n1 k2 n2).2]) ∧ Below w.heap.size w w' := by
  unfold insteadP
  by_cases h2 : k = 2
  · subst h2; rw [if_pos rfl]; exact instead_2 n k1 n1 k2 n2 w
  · rw [if_neg h2]
    by_cases h5 : k = 5
    · subst h5; rw [if_pos rfl]; exact instead_5 n k1 n1 k2 n2 w
    · rw [if_neg h5]; exact instead_o k n k1 n1 k2 n2 w h2 h5
set_option maxRecDepth 100000 in
theorem asked_says (c : Cas) (own : Int) (w : World) (h : c.s.f 2 = 1 ∨ c.s.f 2 = 3 ∨ c.s.f 2 = 4) :
    Calls Tryz.prog 37 #[.agg (casA c), .int .i64 own] w fun e w' => e = .returned (.int .i64 (wideW c)) ∧ Below w.heap.size w w' := by
  have H0 := Lib.hid (CaS.new w c)
  have HROW := Lib.hid (casA_row c)
  have HCZ := Lib.hid (show (Tryz.prog.info? 61).map (·.size) = some (casA c).toList.length from infoCas)
  have HCS := Lib.hid (show (Tryz.prog.info? 61).map (·.size) = some (casA c).size from infoCas)
  have q2 : (casW w c).cell? ⟨w.heap.size, 2, none⟩ = some (.int .i64 (c.s.f 2)) := (casW_at w c).c 2 (by decide)
  have WD := Lib.hid (fun ww => wideW_any c ww)
  unfold casW at H0 q2
  generalize casA c = ca at *
  generalize wideW c = wd at *
  generalize c.s.f 2 = k at *
  rcases h with rfl | rfl | rfl
  all_goals
    go_enter Tryz.func37, Tryz.ntmps37
    go_wp2_with (refine wpList_load_mid rfl _ _ rfl w.heap.size 0 rfl ca.toList _ (H0.out.cas.range _ HROW.out) Tryz.underlying61 rfl HCZ.out ?_)
    refine (WD.out _).mono ?_
    rintro e w1 ⟨rfl, hb⟩
    have HB := H0.out.bel.trans (hb.mono H0.out.bel.size)
    go_wp2
    go_ret
    exact ⟨rfl, HB⟩
set_option maxRecDepth 100000 in
set_option maxHeartbeats 1000000 in
theorem asked_none (c : Cas) (own : Int) (w : World) (h1 : c.s.f 2 ≠ 1) (h3 : c.s.f 2 ≠ 3) (h4 : c.s.f 2 ≠ 4) :
    Calls Tryz.prog 37 #[.agg (casA c), .int .i64 own] w fun e w' => e = .returned (.int .i64 (if (givenP c).isSome = true ∧ ratedP c = true then wideW c else keepW c own)) ∧ Below w.heap.size w w' := by
  have H0 := Lib.hid (CaS.new w c)
  have HROW := Lib.hid (casA_row c)
  have HCZ := Lib.hid (show (Tryz.prog.info? 61).map (·.size) = some (casA c).toList.length from infoCas)
  have HCS := Lib.hid (show (Tryz.prog.info? 61).map (·.size) = some (casA c).size from infoCas)
  have q2 : (casW w c).cell? ⟨w.heap.size, 2, none⟩ = some (.int .i64 (c.s.f 2)) := (casW_at w c).c 2 (by decide)
  have WD := Lib.hid (fun ww => wideW_any c ww)
  have KW := Lib.hid (fun n ww => keepW_any c n ww)
  have GI := fun ww => given_any c ww
  have hrt : ratedP c = (decide (0 < c.s.f 34) && decide (0 < c.s.f 35)) := rfl
  rw [hrt]
  clear hrt
  have Q := Lib.hid (fun (w' : World) (hS : CaS w c w') => (⟨hS.cas.c 34 (by decide), hS.cas.c 35 (by decide)⟩ : w'.cell? ⟨w.heap.size, 34, none⟩ = some (.int .i64 (c.s.f 34)) ∧ w'.cell? ⟨w.heap.size, 35, none⟩ = some (.int .i64 (c.s.f 35))))
  unfold casW at H0 q2
  generalize casA c = ca at *
  generalize wideW c = wd at *
  generalize givenP c = xg at *
  generalize c.s.f 2 = k at *
  generalize c.s.f 34 = x at *
  generalize c.s.f 35 = y at *
  unfold optV at GI
  cases xg
  · simp only [Option.getD_none, Option.isSome_none] at GI
    have GI2 := Lib.hid GI
    clear GI
    rw [if_neg (by simp)]
    go_enter Tryz.func37, Tryz.ntmps37
    go_wp2_with (refine wpList_load_mid rfl _ _ rfl w.heap.size 0 rfl ca.toList _ (H0.out.cas.range _ HROW.out) Tryz.underlying61 rfl HCZ.out ?_)
    refine (GI2.out _).mono ?_
    rintro e w1 ⟨rfl, hb⟩
    have HS := H0.out.next hb
    clear hb q2
    go_wp2_with (refine wpList_load_mid rfl _ _ rfl w.heap.size 0 rfl ca.toList _ (HS.cas.range _ HROW.out) Tryz.underlying61 rfl HCZ.out ?_)
    refine (KW.out _ _).mono ?_
    rintro e w2 ⟨rfl, hb⟩
    have HB := HS.bel.trans (hb.mono HS.bel.size)
    go_wp2
    go_ret
    exact ⟨rfl, HB⟩
  · simp only [Option.getD_some, Option.isSome_some] at GI
    have GI2 := Lib.hid GI
    clear GI
    by_cases hx : 0 < x
    · by_cases hy : 0 < y
      · rw [if_pos (by simp; omega)]
        go_enter Tryz.func37, Tryz.ntmps37
        go_wp2_with (refine wpList_load_mid rfl _ _ rfl w.heap.size 0 rfl ca.toList _ (H0.out.cas.range _ HROW.out) Tryz.underlying61 rfl HCZ.out ?_)
        refine (GI2.out _).mono ?_
        rintro e w1 ⟨rfl, hb⟩
        have HS := H0.out.next hb
        obtain ⟨q34, q35⟩ := Q.out _ HS
        clear hb q2
        go_wp2_with (refine wpList_load_mid rfl _ _ rfl w.heap.size 0 rfl ca.toList _ (HS.cas.range _ HROW.out) Tryz.underlying61 rfl HCZ.out ?_)
        refine (WD.out _).mono ?_
        rintro e w2 ⟨rfl, hb⟩
        have HB := HS.bel.trans (hb.mono HS.bel.size)
        go_wp2
        go_ret
        exact ⟨rfl, HB⟩
      · rw [if_neg (by simp; omega)]
        go_enter Tryz.func37, Tryz.ntmps37
        go_wp2_with (refine wpList_load_mid rfl _ _ rfl w.heap.size 0 rfl ca.toList _ (H0.out.cas.range _ HROW.out) Tryz.underlying61 rfl HCZ.out ?_)
        refine (GI2.out _).mono ?_
        rintro e w1 ⟨rfl, hb⟩
        have HS := H0.out.next hb
        obtain ⟨q34, q35⟩ := Q.out _ HS
        clear hb q2
        go_wp2_with (refine wpList_load_mid rfl _ _ rfl w.heap.size 0 rfl ca.toList _ (HS.cas.range _ HROW.out) Tryz.underlying61 rfl HCZ.out ?_)
        refine (KW.out _ _).mono ?_
        rintro e w2 ⟨rfl, hb⟩
        have HB := HS.bel.trans (hb.mono HS.bel.size)
        go_wp2
        go_ret
        exact ⟨rfl, HB⟩
    · rw [if_neg (by simp; omega)]
      go_enter Tryz.func37, Tryz.ntmps37
      go_wp2_with (refine wpList_load_mid rfl _ _ rfl w.heap.size 0 rfl ca.toList _ (H0.out.cas.range _ HROW.out) Tryz.underlying61 rfl HCZ.out ?_)
      refine (GI2.out _).mono ?_
      rintro e w1 ⟨rfl, hb⟩
      have HS := H0.out.next hb
      obtain ⟨q34, q35⟩ := Q.out _ HS
      clear hb q2
      go_wp2_with (refine wpList_load_mid rfl _ _ rfl w.heap.size 0 rfl ca.toList _ (HS.cas.range _ HROW.out) Tryz.underlying61 rfl HCZ.out ?_)
      refine (KW.out _ _).mono ?_
      rintro e w2 ⟨rfl, hb⟩
      have HB := HS.bel.trans (hb.mono HS.bel.size)
      go_wp2
      go_ret
      exact ⟨rfl, HB⟩
theorem asked_any (c : Cas) (own : Int) (w : World) :
    Calls Tryz.prog 37 #[.agg (casA c), .int .i64 own] w fun e w' => e = .returned (.int .i64 (askedP c own)) ∧ Below w.heap.size w w' := by
  unfold askedP
  by_cases h : c.s.f 2 = 1 ∨ c.s.f 2 = 3 ∨ c.s.f 2 = 4
  · rw [if_pos h]; exact asked_says c own w h
  · rw [if_neg h]; exact asked_none c own w (by omega) (by omega) (by omega)
end Go.Proofs.YtkbnmmknjmmlmaaGreatDoor

